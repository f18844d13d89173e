/-
  Seat 01: the document's own Num, walked.
-/
import Derived.BigRegion
import Derived.Test.YtcmcdpoceeipbaaWireDoc
namespace Go.Proofs.Ytcmcdpoceeipbaa
open Go.RowKit
namespace Wire
set_option maxHeartbeats 1000000 in
theorem dnum_err (s : R) (w : World) (he : s.e ≠ 0) :
    Calls Try.prog 26 #[rv s] w fun r w' => r = .returned (.tuple #[.int .u64 (numR s).1, rv (numR s).2]) ∧ Below w.heap.size w w' := by
  have ht : ((s.e : Int) == 0) = false := by simp; omega
  have HX := Lib.hid (num_err s he)
  unfold rv
  go_enter Try.func26, Try.ntmps26
  go_wp2
  go_region
  all_goals go_wp2
  all_goals refine bodyPost_ret (v := .tuple #[.int .u64 0, rv s]) (by simp [results, Try.results26, go_sem, rv]) rfl ⟨by rw [HX.out]; rfl, ?_⟩
  all_goals exact (below2 _ _ _).drew
set_option maxHeartbeats 1000000 in
theorem dnum_none (w : World) :
    Calls Try.prog 26 #[rv ⟨[], 0⟩] w fun r w' => r = .returned (.tuple #[.int .u64 0, rv ⟨[], 3⟩]) ∧ Below w.heap.size w w' := by
  have hz : (bs []).size = 0 := rfl
  unfold rv
  go_enter Try.func26, Try.ntmps26
  go_wp2_with fail
  refine (none_any 3 _).mono ?_
  rintro e w1 ⟨rfl, b1⟩
  have hk : Blk w1 (w.heap.size + 1) (.cells #[.string ⟨#[]⟩, .int .i64 0] 58) := Blk.later (Blk.newAt _ (by simp)) b1
  have hlt := hk.lt
  have c0 : w1.cell? ⟨w.heap.size + 1, 0, none⟩ = some (.string ⟨#[]⟩) := hk.cell 0
  have c1 : w1.cell? ⟨w.heap.size + 1, 1, none⟩ = some (.int .i64 0) := hk.cell 1
  have f0 := hk.frozen 0
  have f1 := hk.frozen 1
  have hB : Below w.heap.size w w1 := (below2 w _ _).trans (b1.mono (by simp; omega))
  clear b1
  unfold rv
  go_wp2
  refine bodyPost_ret (v := .tuple #[.int .u64 0, rv ⟨[], 3⟩]) (by simp [results, Try.results26, go_sem, rv, bs, c0, c1]) rfl ⟨rfl, ?_⟩
  repeat (first | (with_reducible refine Below.setCell ?_ (by dsimp only; omega) _))
  exact hB
set_option maxHeartbeats 1000000 in
theorem dnum_short (c : UInt8) (l : List UInt8) (h : ¬ c.toNat < 248) (hl : l.length < c.toNat - 247) (w : World) :
    Calls Try.prog 26 #[rv ⟨c :: l, 0⟩] w fun r w' => r = .returned (.tuple #[.int .u64 0, rv ⟨[], 3⟩]) ∧ Below w.heap.size w w' := by
  have hcl := c.toNat_lt
  have hz : (bs (c :: l)).size = l.length + 1 := bs_size _
  have hg := bs_get0 c l
  have ht : ((l.length : Int) + 1 == 0) = false := by simp; omega
  have hd : decide ((248 : Int) ≤ (c.toNat : Int)) = true := by simp; omega
  have hd' : decide (248 ≤ c.toNat) = true := by simp; omega
  obtain ⟨k, hk⟩ : ∃ k, c.toNat = k + 247 := ⟨c.toNat - 247, by omega⟩
  have hs : ((c.toNat : Int) - 247) = (k : Int) := by omega
  have hq : decide ((l.length : Int) + 1 < 1 + (k : Int)) = true := by simp; omega
  have hq' : decide ((l.length : Int) + 1 < (k : Int) + 1) = true := by simp; omega
  clear hk
  unfold rv
  go_enter Try.func26, Try.ntmps26
  go_wp2_with fail
  refine (none_any 3 _).mono ?_
  rintro e w1 ⟨rfl, b1⟩
  have hk : Blk w1 (w.heap.size + 1) (.cells #[.string ⟨#[]⟩, .int .i64 0] 58) := Blk.later (Blk.newAt _ (by simp)) b1
  have hlt := hk.lt
  have c0 : w1.cell? ⟨w.heap.size + 1, 0, none⟩ = some (.string ⟨#[]⟩) := hk.cell 0
  have c1 : w1.cell? ⟨w.heap.size + 1, 1, none⟩ = some (.int .i64 0) := hk.cell 1
  have f0 := hk.frozen 0
  have f1 := hk.frozen 1
  have hB : Below w.heap.size w w1 := (below2 w _ _).trans (b1.mono (by simp; omega))
  clear b1
  unfold rv
  go_wp2
  refine bodyPost_ret (v := .tuple #[.int .u64 0, rv ⟨[], 3⟩]) (by simp [results, Try.results26, go_sem, rv, bs, c0, c1]) rfl ⟨rfl, ?_⟩
  repeat (first | (with_reducible refine Below.setCell ?_ (by dsimp only; omega) _))
  exact hB
end Wire
end Go.Proofs.Ytcmcdpoceeipbaa
