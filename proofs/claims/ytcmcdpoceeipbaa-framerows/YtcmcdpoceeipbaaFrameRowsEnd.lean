/-
  FrameRows: any rows, any cut, any bit.
-/
import Derived.Test.YtcmcdpoceeipbaaFrameRows
namespace Go.Proofs.Ytcmcdpoceeipbaa
open Go.RowKit Go.WideShapes
namespace Fr
open Wire
set_option maxRecDepth 100000 in
set_option maxHeartbeats 1000000 in
theorem rows_long (v : Value) (l : List (List UInt8)) (cut bit : Nat) (hl : 20 < l.length) (w : World) (hv : RdT sv w v l) :
    Calls Try.prog 4 #[v, .int .u32 (cut : Int), .int .u32 (bit : Int)] w fun e w' => e = .returned (.bool true) ∧ Below w.heap.size w w' := by
  obtain ⟨p, cap, rfl, _⟩ := hv.len
  clear hv
  have d1 : decide (20 < l.length) = true := decide_eq_true hl
  have d2 : decide ((20 : Int) < (l.length : Int)) = true := decide_eq_true (by omega)
  go_enter Try.func4, Try.ntmps4
  go_wp2_with fail
  refine (wakes_any _).mono ?_
  rintro e w9 ⟨rfl, b9⟩
  go_wp2
  go_ret
  exact ⟨rfl, b9⟩
theorem arg_fits {H : Type} {enc : TypeId × Value → H} {P : Program} {w : World} {held : Bool} {t e : TypeId} {v : Value} {x : DataW H} {ps : List MemPlace} {r : Reach} {base : Nat}
    (hu : P.underlying t = some (.slice e)) (hok : Value.okWide P w r base t v) (ht : DataW.Trod enc P w 0 (fun _ => true) held t v x ps) : ∀ p n c, v = .slice p n c → n ≤ c := by
  obtain ⟨a, len, cap, rfl⟩ := okWide_slice hu hok
  obtain ⟨fuel, hf⟩ := ht
  intro p n c e
  cases e
  rcases Go.Deep.open_slice hu hf with ⟨hcs, _⟩ | ⟨a', len', cap', m, n, D, Pl, hcs, _, hl, hm, hmm, _, hx⟩
  · simp [Value.cells] at hcs
    omega
  · simp [Value.cells] at hcs
    obtain ⟨rfl, rfl, rfl⟩ := hcs
    exact hl
theorem dec_sv (xs : List Value) (h : Fit [Leaf.str] xs) : ∃ x : List UInt8, xs = sv x ∧ True := by
  have hl := h.length
  match xs, hl, h with
  | [a0], _, h =>
    obtain ⟨⟨s, rfl, _⟩, _⟩ := h
    exact ⟨s.data.toList, rfl, trivial⟩
theorem rows_law {H : Type} {enc : TypeId × Value → H} {base : Nat} {d : DataW H} {ps : List MemPlace} (v : Value) (cut bit : Int) (w : World)
    (hok : Value.okWide Try.prog w .any base 29 v) (ht : DataW.Trod enc Try.prog w 0 (fun _ => true) true 29 v d ps) (h1 : (Lit.int .u32 cut).wf = true) (h2 : (Lit.int .u32 bit).wf = true) :
    Calls Try.prog 4 #[v, .int .u32 cut, .int .u32 bit] w fun e w' => e = .returned (.bool true) ∧ Below w.heap.size w w' := by
  obtain ⟨a0, a1⟩ := bounds_u32 h1
  obtain ⟨b0, b1⟩ := bounds_u32 h2
  obtain ⟨c, rfl⟩ : ∃ c : Nat, cut = (c : Int) := ⟨cut.toNat, by omega⟩
  obtain ⟨b, rfl⟩ : ∃ b : Nat, bit = (b : Int) := ⟨bit.toNat, by omega⟩
  obtain ⟨l, hl, _⟩ := open_rows 4 (ks := [Leaf.str]) sv (fun _ => True) dec_sv Try.underlying29 (by kernel_rfl) (by kernel_rfl) hok ht
  by_cases h : 20 < l.length
  · exact rows_long v l c b h w hl
  · exact rows_walk v l (by omega) (arg_fits Try.underlying29 hok ht) c b (by omega) (by omega) w hl
end Fr
end Go.Proofs.Ytcmcdpoceeipbaa
