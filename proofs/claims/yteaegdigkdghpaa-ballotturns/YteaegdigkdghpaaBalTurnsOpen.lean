/-
  Seat 07: BallotTurns of the arguments as they come in.
-/
import Derived.Test.YteaegdigkdghpaaBalTurns
namespace Go.Proofs.Yteaegdigkdghpaa
open Go.RowKit Go.WideShapes
namespace Bal
set_option maxRecDepth 100000 in
theorem turns_long (b : B) (v : Value) (l : List Nat) (n : Int) (w : World) (hv : RdB w v l) (hlen : 60 < l.length) :
    Calls Try.prog 5 #[bv b, v, .int .u64 n] w fun e w' => e = .returned (.bool true) ∧ Below w.heap.size w w' := by
  obtain ⟨p, cap, rfl, _, _, _⟩ := hv
  have d1 : decide (60 < l.length) = true := decide_eq_true hlen
  have d1' : decide ((60 : Int) < (l.length : Int)) = true := decide_eq_true (by omega)
  go_enter Try.func5, Try.ntmps5
  go_wp2_with fail
  refine (wakes_any _).mono ?_
  rintro e w1 ⟨rfl, hb⟩
  go_wp2
  go_ret
  exact ⟨rfl, Below.later' (below1 w _) hb⟩
theorem turns_open {H : Type} {enc : TypeId × Value → H} {base : Nat} {d0 d1 : DataW H} {p0 p1 : List MemPlace} (b v : Value) (n : Int) (w : World)
    (h0 : Value.okWide Try.prog w .any base 25 b) (t0 : DataW.Trod enc Try.prog w 0 (fun _ => true) true 25 b d0 p0)
    (h1 : Value.okWide Try.prog w .any base 37 v) (t1 : DataW.Trod enc Try.prog w 0 (fun _ => true) true 37 v d1 p1) (hn : (Lit.int .u64 n).wf = true) :
    Calls Try.prog 5 #[b, v, .int .u64 n] w fun e w' => e = .returned (.bool true) ∧ Below w.heap.size w w' := by
  obtain ⟨x, rfl, hx⟩ := open_bal h0 t0
  obtain ⟨l, hl⟩ := flat_u8s Try.underlying37 Try.underlying5 (by kernel_rfl) h1 t1
  obtain ⟨n0, n1⟩ := bounds_u64 hn
  obtain ⟨k, rfl⟩ := Int.eq_ofNat_of_zero_le n0
  by_cases h : 60 < l.length
  · exact turns_long x v l k w hl h
  · exact turns_walk x hx v l k (by omega) w hl h
end Bal
end Go.Proofs.Yteaegdigkdghpaa
