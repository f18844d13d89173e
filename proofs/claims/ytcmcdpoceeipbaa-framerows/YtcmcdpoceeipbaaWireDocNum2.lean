/-
  Seat 01: the document's own Num where it reads a number, walked.
-/
import Derived.Deep.CutRange
import Derived.BigRegion
import Derived.Test.YtcmcdpoceeipbaaWireDocNum
import Derived.Test.YtcmcdpoceeipbaaOrd
namespace Go.Proofs.Ytcmcdpoceeipbaa
open Go.RowKit
namespace Wire
set_option maxRecDepth 100000 in
set_option maxHeartbeats 2000000 in
theorem dnum_small (c : UInt8) (l : List UInt8) (h : c.toNat < 248) (hl : l.length < 1000000000) (w : World) :
    Calls Try.prog 26 #[rv ⟨c :: l, 0⟩] w fun r w' => r = .returned (.tuple #[.int .u64 c.toNat, rv ⟨l, 0⟩]) ∧ Below w.heap.size w w' := by
  have hz : (bs (c :: l)).size = l.length + 1 := bs_size _
  have hg := bs_get0 c l
  have ht : ((l.length : Int) + 1 == 0) = false := by simp; omega
  have hd : decide ((248 : Int) ≤ (c.toNat : Int)) = false := by simp; omega
  have hd' : decide (248 ≤ c.toNat) = false := by simp; omega
  have hx1 : (bs (c :: l)).extract 0 1 = bs [c] := by rw [bs_extract]; simp
  have hx2 : (bs (c :: l)).extract 1 (l.length + 1) = bs l := by rw [bs_extract]; simp
  have hn : numB c.toNat = [c] := by rw [numB, if_pos h]; simp
  have HN := Lib.hid (fun w => rnum_any c.toNat (by omega) w)
  rw [hn] at HN
  have hq : decide ((l.length : Int) + 1 < 1) = false := by simp; omega
  have h1 : (1 : Int) ≤ (l.length : Int) + 1 := by omega
  have e1 : ((bs [c]).toList == (bs [c]).toList) = true := beq_self_eq_true _
  have e2 : ((bs [c]).toList != (bs [c]).toList) = false := by simp
  have hw1 : IntKind.i64.wrap 1 = 1 := by kernel_rfl
  have hsl : ∀ w, (Instr.slice 9 (.string (bs (c :: l))) none (some (.int .i64 1)) none).run Try.prog w = .ok (.string (bs [c])) w := fun w => by rw [run_slice_string_h w _ _ Try.underlying9 _ _ (by omega) (by rw [hz]; omega)]; rw [← hx1]; rfl
  have hsl2 : ∀ w, (Instr.slice 9 (.string (bs (c :: l))) (some (.int .i64 1)) none none).run Try.prog w = .ok (.string (bs l)) w := fun w => by rw [run_slice_string_l w _ _ Try.underlying9 _ _ (by omega) (by rw [hz]; omega)]; rw [← hx2]; rfl
  unfold rv
  go_enter Try.func26, Try.ntmps26
  go_wp2_with fail
  go_loopw [5, 6] (fun n i wr => n = .int .u64 (c.toNat : Int) ∧ i = .int .i64 1 ∧ wr = ((w.alloc (.cells #[.string (bs (c :: l)), .int .i64 0] 58)).alloc (.cells #[.string ⟨#[]⟩, .int .i64 0] 58))) (fun _ _ _ => 0)
  case atStart => exact ⟨rfl, rfl, rfl⟩
  case round =>
    obtain ⟨rfl, rfl, rfl⟩ := hrel
    go_wp2_with fail
    have kA : Blk ((w.alloc (.cells #[.string (bs (c :: l)), .int .i64 0] 58)).alloc (.cells #[.string ⟨#[]⟩, .int .i64 0] 58)) w.heap.size (.cells #[.string (bs (c :: l)), .int .i64 0] 58) := Blk.alloc (Blk.new _ _) _
    have kB : Blk ((w.alloc (.cells #[.string (bs (c :: l)), .int .i64 0] 58)).alloc (.cells #[.string ⟨#[]⟩, .int .i64 0] 58)) (w.heap.size + 1) (.cells #[.string ⟨#[]⟩, .int .i64 0] 58) := Blk.newAt _ (by simp)
    have bW : Below w.heap.size w ((w.alloc (.cells #[.string (bs (c :: l)), .int .i64 0] 58)).alloc (.cells #[.string ⟨#[]⟩, .int .i64 0] 58)) := below2 w _ _
    generalize ((w.alloc (.cells #[.string (bs (c :: l)), .int .i64 0] 58)).alloc (.cells #[.string ⟨#[]⟩, .int .i64 0] 58)) = W at *
    have g0 : ∀ w', Below W.heap.size W w' → w'.cell? ⟨w.heap.size, 0, none⟩ = some (.string (bs (c :: l))) := fun w' hb => Blk.held kA w' 0 hb
    refine wp_region_ord (fun w' => Below W.heap.size W w') (0 :: 2 :: 3 :: 4 :: 5 :: 6 :: 1 :: 7 :: []) [1] (by kernel_rfl) (by kernel_rfl) (by intro c d v a w h; cases d <;> exact h) (Below.drew (Below.refl _ _)) ?_
    repeat (first
      | (refine wpOrd_take (v := ?_) rfl rfl ?_ ?_ ?_; rotate_left; rfl; (· intro w' hSw; (try dsimp only at hSw); go_simp <;> with_reducible rfl); simp only [Act.put, List.setIfInBounds_toArray, List.set_cons_zero, List.set_cons_succ])
      | (refine wpOrd_skip rfl rfl ?_ ?_; rfl; simp only [Act.put, List.setIfInBounds_toArray, List.set_cons_zero, List.set_cons_succ]))
    refine wpOrd_eff rfl rfl (fun K hK => ?_)
    go_wp2_with fail
    refine (HN.out _).mono ?_
    rintro e w1 ⟨rfl, b1⟩
    go_wp2_with fail
    have b1' : Below W.heap.size W w1 := undrew b1
    refine hK.out _ _ b1' ?_
    clear hK K
    repeat (first
      | (refine wpOrd_take (v := ?_) rfl rfl ?_ ?_ ?_; rotate_left; rfl; (· intro w' hSw; (try dsimp only at hSw); go_simp <;> with_reducible rfl); simp only [Act.put, List.setIfInBounds_toArray, List.set_cons_zero, List.set_cons_succ])
      | (refine wpOrd_skip rfl rfl ?_ ?_; rfl; simp only [Act.put, List.setIfInBounds_toArray, List.set_cons_zero, List.set_cons_succ]))
    refine wpOrd_nil ?_
    have kA1 := Blk.later kA b1'
    have kB1 := Blk.later kB b1'
    have hlt := kB1.lt
    have bw1 : Below w.heap.size w w1 := bW.trans (b1'.mono bW.size)
    clear kA kB bW b1 b1' g0
    have cA : w1.cell? ⟨w.heap.size, 0, none⟩ = some (.string (bs (c :: l))) := kA1.cell 0
    have c0 : w1.cell? ⟨w.heap.size + 1, 0, none⟩ = some (.string ⟨#[]⟩) := kB1.cell 0
    have c1 : w1.cell? ⟨w.heap.size + 1, 1, none⟩ = some (.int .i64 0) := kB1.cell 1
    have f0 := kB1.frozen 0
    have f1 := kB1.frozen 1
    go_wp2_with fail
    go_region
    all_goals go_wp2
    all_goals refine bodyPost_ret (v := .tuple #[.int .u64 c.toNat, rv ⟨l, 0⟩]) (by simp [results, Try.results26, go_sem, rv, c0, c1]) rfl ⟨rfl, ?_⟩
    all_goals repeat (first | (with_reducible refine Below.drew ?_) | (with_reducible refine Below.setCell ?_ (by dsimp only; omega) _))
    all_goals exact bw1
end Wire
end Go.Proofs.Ytcmcdpoceeipbaa
