/-
  Seat 01: WireBack of the arguments as they come in.
-/
import Derived.OpenShut
import Derived.Test.YteilmkknedgmpaaWireBack
namespace Go.Proofs.Yteilmkknedgmpaa
open Go.RowKit Go.WideShapes
namespace Wire
set_option maxRecDepth 100000 in
theorem back_long (v : Value) (l : List It) (c : Int) (w : World) (hv : RdT itV w v l) (hlen : 60 < l.length) :
    Calls Try.prog 4 #[v, .int .u8 c] w fun e w' => e = .returned (.bool true) ∧ Below w.heap.size w w' := by
  obtain ⟨p, cap, rfl, _⟩ := hv.len
  have d1 : decide (60 < l.length) = true := by simp; omega
  have d1' : decide ((60 : Int) < (l.length : Int)) = true := by simp; omega
  clear hv
  go_enter Try.func4, Try.ntmps4
  go_wp2_with fail
  refine (wakes_any w).mono ?_
  rintro e w1 ⟨rfl, hb⟩
  go_wp2
  go_ret
  exact ⟨rfl, hb⟩
theorem dec_it (xs : List Value) (h : Fit [Leaf.bool, .int .u64, .str] xs) : ∃ x, xs = itV x ∧ x.n < 18446744073709551616 := by
  match xs, h with
  | [], h => exact h.elim
  | [_], h => exact h.2.elim
  | [_, _], h => exact h.2.2.elim
  | _ :: _ :: _ :: _ :: _, h => exact h.2.2.2.elim
  | [a, b, c], h =>
    obtain ⟨⟨t, rfl⟩, ⟨n, rfl, hn⟩, ⟨s, rfl, hs⟩, _⟩ := h
    obtain ⟨b0, b1⟩ := bounds_u64 hn
    exact ⟨⟨t, n.toNat, s.data.toList⟩, by simp [itV, Int.toNat_of_nonneg b0, bs_list], by simp only []; omega⟩
theorem back_open {H : Type} {enc : TypeId × Value → H} {base : Nat} {d : DataW H} {ps : List MemPlace} (v : Value) (c : Int) (w : World)
    (hok : Value.okWide Try.prog w .any base 30 v) (ht : DataW.Trod enc Try.prog w 0 (fun _ => true) true 30 v d ps) (hc : (Lit.int .u8 c).wf = true) :
    Calls Try.prog 4 #[v, .int .u8 c] w fun e w' => e = .returned (.bool true) ∧ Below w.heap.size w w' := by
  obtain ⟨l, hl, hx⟩ := open_rows 3 (ks := [Leaf.bool, .int .u64, .str]) itV (fun x => x.n < 18446744073709551616) dec_it Try.underlying30 (by kernel_rfl) (by kernel_rfl) hok ht
  by_cases h : 60 < l.length
  · exact back_long v l c w hl h
  · obtain ⟨b0, b1⟩ := bounds_u8 hc
    have e : c = ((UInt8.ofNat c.toNat).toNat : Int) := by rw [UInt8.toNat_ofNat']; omega
    rw [e]
    exact back_walk v l _ w hl hx h
end Wire
end Go.Proofs.Yteilmkknedgmpaa
