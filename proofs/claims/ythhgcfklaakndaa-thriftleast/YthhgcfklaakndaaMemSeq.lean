/-
  The package member's walk through a set's nodes (a range over a function), and May, which ranges over it.
-/
import Derived.Test.YthhgcfklaakndaaMemWalks
namespace Go.Proofs.Ythhgcfklaakndaa
open Go.RowKit Go.Shelf
attribute [local go_sem] Oper.semAt_some
namespace Mem

def setL (s : Nat) : List (Fin 7) := (List.finRange 7).filter fun i => s.testBit i.val
theorem setL_next : ∀ r < 128, r ≠ 0 → ∃ h : Lib.trailingZeros8 r < 7, setL r = ⟨Lib.trailingZeros8 r, h⟩ :: setL (r &&& (r - 1)) := by decide +kernel
theorem setL_zero : setL 0 = [] := by decide
theorem setL_mask : ∀ s < 256, setL (s &&& 127) = setL s := by decide +kernel
theorem setL_len : ∀ s < 256, (setL s).length = cnt s := by decide +kernel
theorem next_lt (r : Nat) (h : r ≠ 0) : r &&& (r - 1) < r := by
  have := @Nat.and_le_right r (r - 1)
  omega
theorem wrap_pred (r : Nat) (h : r ≠ 0) : (r : Int) - 1 = ((r - 1 : Nat) : Int) := by omega

set_option maxRecDepth 100000 in
set_option maxHeartbeats 1000000 in
theorem all1_in (n : Nat) (hn : 1 ≤ n) (l Bn : Nat) (s : Nat) (hs : s < 256) (Kp : World → World → Prop) (J Jx : List (Fin 7) → World → Prop)
    (hY : ∀ pre x W, J pre W → pre.length < (setL s).length → YieldAt Fence.wide (n - 1) Try.prog l #[.int .u8 (x.val : Int)] W fun e W' =>
      (e = .returned (.bool true) ∧ J (pre ++ [x]) W' ∧ Kp W W') ∨ (e = .returned (.bool false) ∧ Jx (pre ++ [x]) W'))
    (W : World) (hBn : W.cell? ⟨Bn, 0, none⟩ = some (.int .u8 s)) (h0 : J [] W) :
    CallsIn Fence.wide n Try.prog 34 #[.func (.yield l) #[] #[], .pointer (some ⟨Bn, 0, none⟩)] W fun e W' => (∃ v, e = .returned v) ∧
      ((∃ ys, ys = setL s ∧ J ys W') ∨ (∃ pre, pre <+: setL s ∧ Jx pre W')) := by
  refine callsIn_of_wp Try.func34 rfl trivial ?_ rfl
  simp only [Try.ntmps34, List.size_toArray, List.length_cons, List.length_nil, Nat.reduceAdd, Nat.reduceSub, Array.replicate_succ, Array.replicate_zero, List.push_toArray, List.append_toArray, List.nil_append, List.cons_append]
  have e1 : bits .and .u8 (s : Int) 127 = ((s &&& 127 : Nat) : Int) := u8_and_nat s 127 hs (by decide)
  have hm : s &&& 127 < 128 := Nat.and_lt_two_pow (n := 7) s (by decide)
  gi_wp2
  gi_loopw [3] (fun p wr => ∃ (pre : List (Fin 7)) (r : Nat), p = .int .u8 r ∧ r < 128 ∧ setL s = pre ++ setL r ∧ J pre wr)
    (fun p _ => (intOf p).toNat)
  case atStart =>
    exact ⟨[], s &&& 127, rfl, hm, by rw [setL_mask s hs]; rfl, h0⟩
  case round =>
    clear e1 hm
    obtain ⟨pre, r, rfl, hr, hx, hJs⟩ := hrel
    by_cases hz : r = 0
    · subst hz
      gi_wp2
      go_end0
      exact ⟨⟨_, rfl⟩, .inl ⟨pre, by rw [hx, setL_zero, List.append_nil], hJs⟩⟩
    · obtain ⟨ht, hx2⟩ := setL_next r hr hz
      have hnx := next_lt r hz
      have hb := (beq_eq_false_iff_ne.2 (show (r : Int) ≠ 0 by omega))
      have hb2 : ((r : Int) != 0) = true := by simp; omega
      have hl : pre.length < (setL s).length := by rw [hx, hx2]; simp
      obtain ⟨fn, tmps, assign, body, hy, hR⟩ := hY pre ⟨Lib.trailingZeros8 r, ht⟩ wr hJs hl
      dsimp only at hy
      have hx3 := Lib.hid (show setL s = (pre ++ [⟨Lib.trailingZeros8 r, ht⟩]) ++ setL (r &&& (r - 1)) by rw [hx, hx2]; simp)
      have hpre := Lib.hid (show (pre ++ [⟨Lib.trailingZeros8 r, ht⟩]) <+: setL s from ⟨_, hx3.out.symm⟩)
      have ew := Lib.hid (wrap_pred r hz)
      have ea := Lib.hid (u8_and_nat r (r - 1) (by omega) (by omega))
      clear hx hx2 hl hb
      gi_wp2_with fail
      refine ⟨trivial, (callsIn_wide.2 (Try.bits_TrailingZeros8 _ _ (by omega) (by omega))).mono ?_⟩
      rintro e w' ⟨rfl, rfl⟩
      simp only [Int.toNat_natCast]
      gi_wp2
      refine hR.mono ?_
      rintro e W3 (⟨rfl, hJ3, _⟩ | ⟨rfl, hJx3⟩)
      · gi_wp2
        go_roundw
        case rel => exact ⟨_, r &&& (r - 1), by rw [← ea.out, ← ew.out], by omega, hx3.out, hJ3⟩
        case measure => rw [ew.out, ea.out]; simp [intOf]; omega
      · gi_wp2
        refine bodyPost_ret (results_none rfl _ _ _) rfl ?_
        exact ⟨⟨_, rfl⟩, .inr ⟨_, hpre.out, hJx3⟩⟩
theorem all_in (n : Nat) (s : Nat) (w : World) :
    CallsIn Fence.wide n Try.prog 31 #[.int .u8 s] w fun e w' => e = .returned (.func (.func 34) #[] #[.pointer (some ⟨w.heap.size, 0, none⟩)]) ∧ w.alloc (.cells #[.int .u8 s] 28) = w' := by
  refine callsIn_of_wp Try.func31 rfl trivial ?_ rfl
  simp only [Try.ntmps31, List.size_toArray, List.length_cons, List.length_nil, Nat.reduceAdd, Nat.reduceSub, Array.replicate_succ, Array.replicate_zero, List.push_toArray, List.append_toArray, List.nil_append, List.cons_append]
  gi_wp2
  go_ret
  exact ⟨rfl, rfl⟩
theorem all_stops (n : Nat) (hn : 1 ≤ n) (Bn : Nat) (s : Nat) (hs : s < 256) (w : World) (hBn : Bn < w.heap.size) (hc : w.cell? ⟨Bn, 0, none⟩ = some (.int .u8 s)) :
    SeqStopsK Fence.wide n Try.prog 34 #[.pointer (some ⟨Bn, 0, none⟩)] (fun x : Fin 7 => #[Value.int .u8 (x.val : Int)]) K0 (fun ys => ys = setL s) (fun pre => pre <+: setL s) (setL s).length w :=
  fun l J Jx W hW _ _ hY h0 => all1_in n hn l Bn s hs K0 J Jx hY W ((hW.cell (p := ⟨Bn, 0, none⟩) hBn).trans hc) h0
def mMay (s all : Nat) : Bool := decide (setL s ≠ []) && (setL s).all fun i => mHas all i.val
end Mem
end Go.Proofs.Ythhgcfklaakndaa
