/-
  The document's own End, walked.
-/
import Derived.Test.YtdjddbidhaeekaaWireDoc
namespace Go.Proofs.Ytdjddbidhaeekaa
open Go.RowKit
namespace Wire
set_option maxHeartbeats 1000000 in
theorem dend_any (s : R) (hf : s.fine) (w : World) :
    Calls Try.prog 33 #[rv s] w fun r w' => r = .returned (rv (endR s)) ∧ Below w.heap.size w w' := by
  have hz := bs_size s.rest
  by_cases h0 : 0 < s.rest.length
  · have he : s.e = 0 := by
      rcases Nat.eq_zero_or_pos s.e with h | h
      · exact h
      · rw [hf (by omega)] at h0; simp at h0
    have ht : ((s.e : Int) == 0) = true := by simp [he]
    have hd : decide (0 < s.rest.length) = true := by simp; omega
    have HX := Lib.hid (show endR s = ⟨[], 4⟩ by unfold endR; rw [if_pos h0])
    clear he h0 hf
    unfold rv
    go_enter Try.func33, Try.ntmps33
    go_wp2_with fail
    refine (none_any 4 _).mono ?_
    rintro e w1 ⟨rfl, b1⟩
    have hk : Blk w1 (w.heap.size + 1) (.cells #[.string ⟨#[]⟩, .int .i64 0] 44) := Blk.later (Blk.newAt _ (by simp)) b1
    have hlt := hk.lt
    have c0 : w1.cell? ⟨w.heap.size + 1, 0, none⟩ = some (.string ⟨#[]⟩) := hk.cell 0
    have c1 : w1.cell? ⟨w.heap.size + 1, 1, none⟩ = some (.int .i64 0) := hk.cell 1
    have f0 := hk.frozen 0
    have f1 := hk.frozen 1
    have hB : Below w.heap.size w w1 := (below2 w _ _).trans (b1.mono (by simp; omega))
    clear b1
    unfold rv
    go_wp2
    refine bodyPost_ret (v := rv ⟨[], 4⟩) (by simp [results, Try.results33, go_sem, rv, bs, c0, c1]) rfl ⟨by rw [HX.out]; rfl, ?_⟩
    repeat (first | (with_reducible refine Below.setCell ?_ (by dsimp only; omega) _))
    exact hB
  · have HX := Lib.hid (show endR s = s by unfold endR; rw [if_neg h0])
    have hd : decide (0 < s.rest.length) = false := by simpa using h0
    by_cases he : s.e = 0
    · have ht : ((s.e : Int) == 0) = true := by simp [he]
      clear he h0 hf
      unfold rv
      go_enter Try.func33, Try.ntmps33
      go_wp2
      refine bodyPost_ret (v := rv s) (by simp [results, Try.results33, go_sem, rv]) rfl ⟨by rw [HX.out]; rfl, ?_⟩
      exact below2 _ _ _
    · have ht : ((s.e : Int) == 0) = false := by simp; omega
      clear he h0 hf
      unfold rv
      go_enter Try.func33, Try.ntmps33
      go_wp2
      refine bodyPost_ret (v := rv s) (by simp [results, Try.results33, go_sem, rv]) rfl ⟨by rw [HX.out]; rfl, ?_⟩
      exact below2 _ _ _
end Wire
end Go.Proofs.Ytdjddbidhaeekaa
