/-
  Seat 07: the law BallotCalls, walked.
-/
import Derived.Test.YteaegdigkdghpaaBalRTop
namespace Go.Proofs.Yteaegdigkdghpaa
open Go.RowKit Go.WideShapes
namespace Bal
set_option maxRecDepth 100000 in
set_option maxHeartbeats 4000000 in
theorem calls_walk (v : Value) (l : List B) (a b : B) (ha : a.ok) (node : Nat) (w : World) (hv : RdT bV w v l) (hlen : ¬ 100 < l.length) :
    Calls Try.prog 3 #[v, bv a, bv b, .int .u8 node] w fun e w' => e = .returned (.bool true) ∧ Below w.heap.size w w' := by
  have HV := Lib.hid hv
  obtain ⟨p, cap, rfl, _⟩ := hv.len
  clear hv
  have d1 : decide (100 < l.length) = false := decide_eq_false hlen
  have d1' : decide ((100 : Int) < (l.length : Int)) = false := decide_eq_false (by omega)
  cases hm : mayB a
  · have HC := Lib.hid (show chkB a = 2 by unfold chkB; rw [if_neg (by simp [hm])])
    go_enter Try.func3, Try.ntmps3
    go_wp2_with fail
    have kA := Blk.alloc (Blk.new w (.cells #[.int .u64 a.n, .int .u8 a.r] 25)) (.cells #[.int .u64 b.n, .int .u8 b.r] 25)
    have kB := Blk.newAt (w := w.alloc (.cells #[.int .u64 a.n, .int .u8 a.r] 25)) (b := w.heap.size + 1) (.cells #[.int .u64 b.n, .int .u8 b.r] 25) (by simp)
    refine (turn_any a ha node _).mono ?_
    rintro e w1 ⟨rfl, b1⟩
    have kA1 := kA.later b1
    have kB1 := kB.later b1
    have c1 := (below2 w (.cells #[.int .u64 a.n, .int .u8 a.r] 25) (.cells #[.int .u64 b.n, .int .u8 b.r] 25)).trans (b1.mono (by simp; omega))
    clear kA kB b1
    obtain ⟨x, f, hx⟩ : ∃ x f, turnB a node = (x, f) := ⟨_, _, rfl⟩
    have HX := Lib.hid (fun w => rturn_any a ha node w)
    rw [hx] at HX ⊢
    clear hx
    have kA2 := kA1.alloc (.cells #[.int .u64 x.n, .int .u8 x.r] 25)
    have kB2 := kB1.alloc (.cells #[.int .u64 x.n, .int .u8 x.r] 25)
    have kX2 := Blk.new w1 (.cells #[.int .u64 x.n, .int .u8 x.r] 25)
    have c2 := c1.alloc c1.size (.cells #[.int .u64 x.n, .int .u8 x.r] 25)
    have a0 := kA2.cell 0
    have a1 := kA2.cell 1
    clear kA1 kB1 c1
    go_wp2_with fail
    refine (HX.out _).mono ?_
    rintro e w2 ⟨rfl, b2⟩
    have kA3 := (kA2.later b2).alloc (.cells #[.int .u64 x.n, .int .u8 x.r] 25)
    have kB3 := (kB2.later b2).alloc (.cells #[.int .u64 x.n, .int .u8 x.r] 25)
    have kX3 := (kX2.later b2).alloc (.cells #[.int .u64 x.n, .int .u8 x.r] 25)
    have kY3 := Blk.new w2 (.cells #[.int .u64 x.n, .int .u8 x.r] 25)
    have c3 := Below.later' c2 b2
    have c4 := c3.alloc c3.size (.cells #[.int .u64 x.n, .int .u8 x.r] 25)
    clear a0 a1 kA2 kB2 kX2 c2 c3 b2
    have a0 := kA3.cell 0
    have a1 := kA3.cell 1
    go_wp2_with fail
    refine (rmay_any a _).mono ?_
    rintro e W ⟨rfl, b3⟩
    rw [hm]
    have kA := kA3.later b3
    have kB := kB3.later b3
    have kX := kX3.later b3
    have kY := kY3.later b3
    have bW := Below.later' c4 b3
    have zW := bW.size
    clear a0 a1 kA3 kB3 kX3 kY3 c4 b3
    go_wp2_with fail
    have a0 := fun w' (hb : Below W.heap.size W w') => (kA.later hb).cell 0
    have a1 := fun w' (hb : Below W.heap.size W w') => (kA.later hb).cell 1
    have b0 := fun w' (hb : Below W.heap.size W w') => (kB.later hb).cell 0
    have b1 := fun w' (hb : Below W.heap.size W w') => (kB.later hb).cell 1
    have x0 := fun w' (hb : Below W.heap.size W w') => (kX.later hb).cell 0
    have x1 := fun w' (hb : Below W.heap.size W w') => (kX.later hb).cell 1
    have y0 := fun w' (hb : Below W.heap.size W w') => (kY.later hb).cell 0
    have y1 := fun w' (hb : Below W.heap.size W w') => (kY.later hb).cell 1
    have hrd := fun w' (hb : Below W.heap.size W w') => HV.out.below (bW.trans (hb.mono zW)) (Nat.le_refl _)
    have HRD := Lib.hid hrd
    clear kA kB kX kY hrd
    have q1 := fun w => eql_bal x.n x.r x.n x.r true (eql_yes x) w
    have q2 := fun w => eql_bal (topB l).n (topB l).r (topB l).n (topB l).r true (eql_yes _) w
    have q3 : ((f : Int) == (f : Int)) = true := by simp
    have B0 : Below W.heap.size W W.drew := Below.drew (Below.refl _ _)
    obtain ⟨t, ht⟩ : ∃ t, lt a b = t := ⟨_, rfl⟩
    have q4 : (t == t) = true := by simp
    refine wp_region_ord (fun w' => Below W.heap.size W w') (0 :: 1 :: 2 :: 3 :: 4 :: 5 :: 6 :: 7 :: 8 :: 9 :: 11 :: 10 :: 12 :: 13 :: 14 :: 15 :: 16 :: 18 :: 19 :: 17 :: 20 :: 21 :: 22 :: 23 :: 24 :: 26 :: 25 :: 27 :: 28 :: 29 :: 30 :: 31 :: 32 :: 33 :: []) [10, 17, 20, 25, 27, 31] (by kernel_rfl) (by kernel_rfl) (by intro c d v a w h; cases d <;> exact h) B0 ?_
    repeat (first
      | (refine wpOrd_take (v := ?_) rfl rfl ?_ ?_ ?_; rotate_left; rfl; (· intro w' hSw; (try dsimp only at hSw); go_simp <;> with_reducible rfl); simp only [Act.put, List.setIfInBounds_toArray, List.set_cons_zero, List.set_cons_succ])
      | (refine wpOrd_skip rfl rfl ?_ ?_; rfl; simp only [Act.put, List.setIfInBounds_toArray, List.set_cons_zero, List.set_cons_succ]))
    refine wpOrd_eff rfl rfl (fun K hK => ?_)
    go_wp2_with fail
    refine (check_any a _).mono ?_
    rintro e z1 ⟨rfl, b_z1⟩
    rw [HC.out]
    have B_z1 := B0.trans (b_z1.mono B0.size)
    go_wp2_with fail
    refine hK.out _ _ B_z1 ?_
    clear hK K
    repeat (first
      | (refine wpOrd_take (v := ?_) rfl rfl ?_ ?_ ?_; rotate_left; rfl; (· intro w' hSw; (try dsimp only at hSw); go_simp <;> with_reducible rfl); simp only [Act.put, List.setIfInBounds_toArray, List.set_cons_zero, List.set_cons_succ])
      | (refine wpOrd_skip rfl rfl ?_ ?_; rfl; simp only [Act.put, List.setIfInBounds_toArray, List.set_cons_zero, List.set_cons_succ]))
    refine wpOrd_eff rfl rfl (fun K hK => ?_)
    go_wp2_with fail
    refine (below_any a b _).mono ?_
    rintro e z2 ⟨rfl, b_z2⟩
    rw [ht]
    have B_z2 := B_z1.trans (b_z2.mono B_z1.size)
    go_wp2_with fail
    refine hK.out _ _ B_z2 ?_
    clear hK K
    repeat (first
      | (refine wpOrd_take (v := ?_) rfl rfl ?_ ?_ ?_; rotate_left; rfl; (· intro w' hSw; (try dsimp only at hSw); go_simp <;> with_reducible rfl); simp only [Act.put, List.setIfInBounds_toArray, List.set_cons_zero, List.set_cons_succ])
      | (refine wpOrd_skip rfl rfl ?_ ?_; rfl; simp only [Act.put, List.setIfInBounds_toArray, List.set_cons_zero, List.set_cons_succ]))
    refine wpOrd_eff rfl rfl (fun K hK => ?_)
    go_wp2_with fail
    refine (rbelow_any a b _).mono ?_
    rintro e z3 ⟨rfl, b_z3⟩
    rw [ht]
    have B_z3 := B_z2.trans (b_z3.mono B_z2.size)
    go_wp2_with fail
    refine hK.out _ _ B_z3 ?_
    clear hK K
    repeat (first
      | (refine wpOrd_take (v := ?_) rfl rfl ?_ ?_ ?_; rotate_left; rfl; (· intro w' hSw; (try dsimp only at hSw); go_simp <;> with_reducible rfl); simp only [Act.put, List.setIfInBounds_toArray, List.set_cons_zero, List.set_cons_succ])
      | (refine wpOrd_skip rfl rfl ?_ ?_; rfl; simp only [Act.put, List.setIfInBounds_toArray, List.set_cons_zero, List.set_cons_succ]))
    refine wpOrd_eff rfl rfl (fun K hK => ?_)
    go_wp2_with fail
    refine (top_any _ l _ (HRD.out _ B_z3)).mono ?_
    rintro e z4 ⟨rfl, b_z4⟩
    have B_z4 := B_z3.trans (b_z4.mono B_z3.size)
    go_wp2_with fail
    refine hK.out _ _ B_z4 ?_
    clear hK K
    repeat (first
      | (refine wpOrd_take (v := ?_) rfl rfl ?_ ?_ ?_; rotate_left; rfl; (· intro w' hSw; (try dsimp only at hSw); go_simp <;> with_reducible rfl); simp only [Act.put, List.setIfInBounds_toArray, List.set_cons_zero, List.set_cons_succ])
      | (refine wpOrd_skip rfl rfl ?_ ?_; rfl; simp only [Act.put, List.setIfInBounds_toArray, List.set_cons_zero, List.set_cons_succ]))
    refine wpOrd_eff rfl rfl (fun K hK => ?_)
    go_wp2_with fail
    refine (rtop_any _ l _ (HRD.out _ B_z4)).mono ?_
    rintro e z5 ⟨rfl, b_z5⟩
    have B_z5 := B_z4.trans (b_z5.mono B_z4.size)
    go_wp2_with fail
    refine hK.out _ _ B_z5 ?_
    clear hK K
    repeat (first
      | (refine wpOrd_take (v := ?_) rfl rfl ?_ ?_ ?_; rotate_left; rfl; (· intro w' hSw; (try dsimp only at hSw); go_simp <;> with_reducible rfl); simp only [Act.put, List.setIfInBounds_toArray, List.set_cons_zero, List.set_cons_succ])
      | (refine wpOrd_skip rfl rfl ?_ ?_; rfl; simp only [Act.put, List.setIfInBounds_toArray, List.set_cons_zero, List.set_cons_succ]))
    refine wpOrd_eff rfl rfl (fun K hK => ?_)
    go_wp2_with fail
    refine (wakes_any _).mono ?_
    rintro e z6 ⟨rfl, b_z6⟩
    have B_z6 := B_z5.trans (b_z6.mono B_z5.size)
    go_wp2_with fail
    refine hK.out _ _ B_z6 ?_
    clear hK K
    repeat (first
      | (refine wpOrd_take (v := ?_) rfl rfl ?_ ?_ ?_; rotate_left; rfl; (· intro w' hSw; (try dsimp only at hSw); go_simp <;> with_reducible rfl); simp only [Act.put, List.setIfInBounds_toArray, List.set_cons_zero, List.set_cons_succ])
      | (refine wpOrd_skip rfl rfl ?_ ?_; rfl; simp only [Act.put, List.setIfInBounds_toArray, List.set_cons_zero, List.set_cons_succ]))
    refine wpOrd_nil ?_
    go_wp2_with fail
    go_ret
    exact ⟨rfl, bW.trans (B_z6.mono zW)⟩
  · have HC := Lib.hid (show chkB a = 0 by unfold chkB; rw [if_pos hm])
    go_enter Try.func3, Try.ntmps3
    go_wp2_with fail
    have kA := Blk.alloc (Blk.new w (.cells #[.int .u64 a.n, .int .u8 a.r] 25)) (.cells #[.int .u64 b.n, .int .u8 b.r] 25)
    have kB := Blk.newAt (w := w.alloc (.cells #[.int .u64 a.n, .int .u8 a.r] 25)) (b := w.heap.size + 1) (.cells #[.int .u64 b.n, .int .u8 b.r] 25) (by simp)
    refine (turn_any a ha node _).mono ?_
    rintro e w1 ⟨rfl, b1⟩
    have kA1 := kA.later b1
    have kB1 := kB.later b1
    have c1 := (below2 w (.cells #[.int .u64 a.n, .int .u8 a.r] 25) (.cells #[.int .u64 b.n, .int .u8 b.r] 25)).trans (b1.mono (by simp; omega))
    clear kA kB b1
    obtain ⟨x, f, hx⟩ : ∃ x f, turnB a node = (x, f) := ⟨_, _, rfl⟩
    have HX := Lib.hid (fun w => rturn_any a ha node w)
    rw [hx] at HX ⊢
    clear hx
    have kA2 := kA1.alloc (.cells #[.int .u64 x.n, .int .u8 x.r] 25)
    have kB2 := kB1.alloc (.cells #[.int .u64 x.n, .int .u8 x.r] 25)
    have kX2 := Blk.new w1 (.cells #[.int .u64 x.n, .int .u8 x.r] 25)
    have c2 := c1.alloc c1.size (.cells #[.int .u64 x.n, .int .u8 x.r] 25)
    have a0 := kA2.cell 0
    have a1 := kA2.cell 1
    clear kA1 kB1 c1
    go_wp2_with fail
    refine (HX.out _).mono ?_
    rintro e w2 ⟨rfl, b2⟩
    have kA3 := (kA2.later b2).alloc (.cells #[.int .u64 x.n, .int .u8 x.r] 25)
    have kB3 := (kB2.later b2).alloc (.cells #[.int .u64 x.n, .int .u8 x.r] 25)
    have kX3 := (kX2.later b2).alloc (.cells #[.int .u64 x.n, .int .u8 x.r] 25)
    have kY3 := Blk.new w2 (.cells #[.int .u64 x.n, .int .u8 x.r] 25)
    have c3 := Below.later' c2 b2
    have c4 := c3.alloc c3.size (.cells #[.int .u64 x.n, .int .u8 x.r] 25)
    clear a0 a1 kA2 kB2 kX2 c2 c3 b2
    have a0 := kA3.cell 0
    have a1 := kA3.cell 1
    go_wp2_with fail
    refine (rmay_any a _).mono ?_
    rintro e W ⟨rfl, b3⟩
    rw [hm]
    have kA := kA3.later b3
    have kB := kB3.later b3
    have kX := kX3.later b3
    have kY := kY3.later b3
    have bW := Below.later' c4 b3
    have zW := bW.size
    clear a0 a1 kA3 kB3 kX3 kY3 c4 b3
    go_wp2_with fail
    have a0 := fun w' (hb : Below W.heap.size W w') => (kA.later hb).cell 0
    have a1 := fun w' (hb : Below W.heap.size W w') => (kA.later hb).cell 1
    have b0 := fun w' (hb : Below W.heap.size W w') => (kB.later hb).cell 0
    have b1 := fun w' (hb : Below W.heap.size W w') => (kB.later hb).cell 1
    have x0 := fun w' (hb : Below W.heap.size W w') => (kX.later hb).cell 0
    have x1 := fun w' (hb : Below W.heap.size W w') => (kX.later hb).cell 1
    have y0 := fun w' (hb : Below W.heap.size W w') => (kY.later hb).cell 0
    have y1 := fun w' (hb : Below W.heap.size W w') => (kY.later hb).cell 1
    have hrd := fun w' (hb : Below W.heap.size W w') => HV.out.below (bW.trans (hb.mono zW)) (Nat.le_refl _)
    have HRD := Lib.hid hrd
    clear kA kB kX kY hrd
    have q1 := fun w => eql_bal x.n x.r x.n x.r true (eql_yes x) w
    have q2 := fun w => eql_bal (topB l).n (topB l).r (topB l).n (topB l).r true (eql_yes _) w
    have q3 : ((f : Int) == (f : Int)) = true := by simp
    have B0 : Below W.heap.size W W.drew := Below.drew (Below.refl _ _)
    obtain ⟨t, ht⟩ : ∃ t, lt a b = t := ⟨_, rfl⟩
    have q4 : (t == t) = true := by simp
    refine wp_region_ord (fun w' => Below W.heap.size W w') (0 :: 1 :: 2 :: 3 :: 4 :: 5 :: 6 :: 7 :: 8 :: 9 :: 11 :: 10 :: 12 :: 13 :: 14 :: 15 :: 16 :: 18 :: 19 :: 17 :: 20 :: 21 :: 22 :: 23 :: 24 :: 26 :: 25 :: 27 :: 28 :: 29 :: 30 :: 31 :: 32 :: 33 :: []) [10, 17, 20, 25, 27, 31] (by kernel_rfl) (by kernel_rfl) (by intro c d v a w h; cases d <;> exact h) B0 ?_
    repeat (first
      | (refine wpOrd_take (v := ?_) rfl rfl ?_ ?_ ?_; rotate_left; rfl; (· intro w' hSw; (try dsimp only at hSw); go_simp <;> with_reducible rfl); simp only [Act.put, List.setIfInBounds_toArray, List.set_cons_zero, List.set_cons_succ])
      | (refine wpOrd_skip rfl rfl ?_ ?_; rfl; simp only [Act.put, List.setIfInBounds_toArray, List.set_cons_zero, List.set_cons_succ]))
    refine wpOrd_eff rfl rfl (fun K hK => ?_)
    go_wp2_with fail
    refine (check_any a _).mono ?_
    rintro e z1 ⟨rfl, b_z1⟩
    rw [HC.out]
    have B_z1 := B0.trans (b_z1.mono B0.size)
    go_wp2_with fail
    refine hK.out _ _ B_z1 ?_
    clear hK K
    repeat (first
      | (refine wpOrd_take (v := ?_) rfl rfl ?_ ?_ ?_; rotate_left; rfl; (· intro w' hSw; (try dsimp only at hSw); go_simp <;> with_reducible rfl); simp only [Act.put, List.setIfInBounds_toArray, List.set_cons_zero, List.set_cons_succ])
      | (refine wpOrd_skip rfl rfl ?_ ?_; rfl; simp only [Act.put, List.setIfInBounds_toArray, List.set_cons_zero, List.set_cons_succ]))
    refine wpOrd_eff rfl rfl (fun K hK => ?_)
    go_wp2_with fail
    refine (below_any a b _).mono ?_
    rintro e z2 ⟨rfl, b_z2⟩
    rw [ht]
    have B_z2 := B_z1.trans (b_z2.mono B_z1.size)
    go_wp2_with fail
    refine hK.out _ _ B_z2 ?_
    clear hK K
    repeat (first
      | (refine wpOrd_take (v := ?_) rfl rfl ?_ ?_ ?_; rotate_left; rfl; (· intro w' hSw; (try dsimp only at hSw); go_simp <;> with_reducible rfl); simp only [Act.put, List.setIfInBounds_toArray, List.set_cons_zero, List.set_cons_succ])
      | (refine wpOrd_skip rfl rfl ?_ ?_; rfl; simp only [Act.put, List.setIfInBounds_toArray, List.set_cons_zero, List.set_cons_succ]))
    refine wpOrd_eff rfl rfl (fun K hK => ?_)
    go_wp2_with fail
    refine (rbelow_any a b _).mono ?_
    rintro e z3 ⟨rfl, b_z3⟩
    rw [ht]
    have B_z3 := B_z2.trans (b_z3.mono B_z2.size)
    go_wp2_with fail
    refine hK.out _ _ B_z3 ?_
    clear hK K
    repeat (first
      | (refine wpOrd_take (v := ?_) rfl rfl ?_ ?_ ?_; rotate_left; rfl; (· intro w' hSw; (try dsimp only at hSw); go_simp <;> with_reducible rfl); simp only [Act.put, List.setIfInBounds_toArray, List.set_cons_zero, List.set_cons_succ])
      | (refine wpOrd_skip rfl rfl ?_ ?_; rfl; simp only [Act.put, List.setIfInBounds_toArray, List.set_cons_zero, List.set_cons_succ]))
    refine wpOrd_eff rfl rfl (fun K hK => ?_)
    go_wp2_with fail
    refine (top_any _ l _ (HRD.out _ B_z3)).mono ?_
    rintro e z4 ⟨rfl, b_z4⟩
    have B_z4 := B_z3.trans (b_z4.mono B_z3.size)
    go_wp2_with fail
    refine hK.out _ _ B_z4 ?_
    clear hK K
    repeat (first
      | (refine wpOrd_take (v := ?_) rfl rfl ?_ ?_ ?_; rotate_left; rfl; (· intro w' hSw; (try dsimp only at hSw); go_simp <;> with_reducible rfl); simp only [Act.put, List.setIfInBounds_toArray, List.set_cons_zero, List.set_cons_succ])
      | (refine wpOrd_skip rfl rfl ?_ ?_; rfl; simp only [Act.put, List.setIfInBounds_toArray, List.set_cons_zero, List.set_cons_succ]))
    refine wpOrd_eff rfl rfl (fun K hK => ?_)
    go_wp2_with fail
    refine (rtop_any _ l _ (HRD.out _ B_z4)).mono ?_
    rintro e z5 ⟨rfl, b_z5⟩
    have B_z5 := B_z4.trans (b_z5.mono B_z4.size)
    go_wp2_with fail
    refine hK.out _ _ B_z5 ?_
    clear hK K
    repeat (first
      | (refine wpOrd_take (v := ?_) rfl rfl ?_ ?_ ?_; rotate_left; rfl; (· intro w' hSw; (try dsimp only at hSw); go_simp <;> with_reducible rfl); simp only [Act.put, List.setIfInBounds_toArray, List.set_cons_zero, List.set_cons_succ])
      | (refine wpOrd_skip rfl rfl ?_ ?_; rfl; simp only [Act.put, List.setIfInBounds_toArray, List.set_cons_zero, List.set_cons_succ]))
    refine wpOrd_eff rfl rfl (fun K hK => ?_)
    go_wp2_with fail
    refine (wakes_any _).mono ?_
    rintro e z6 ⟨rfl, b_z6⟩
    have B_z6 := B_z5.trans (b_z6.mono B_z5.size)
    go_wp2_with fail
    refine hK.out _ _ B_z6 ?_
    clear hK K
    repeat (first
      | (refine wpOrd_take (v := ?_) rfl rfl ?_ ?_ ?_; rotate_left; rfl; (· intro w' hSw; (try dsimp only at hSw); go_simp <;> with_reducible rfl); simp only [Act.put, List.setIfInBounds_toArray, List.set_cons_zero, List.set_cons_succ])
      | (refine wpOrd_skip rfl rfl ?_ ?_; rfl; simp only [Act.put, List.setIfInBounds_toArray, List.set_cons_zero, List.set_cons_succ]))
    refine wpOrd_nil ?_
    go_wp2_with fail
    go_ret
    exact ⟨rfl, bW.trans (B_z6.mono zW)⟩
set_option maxRecDepth 100000 in
theorem calls_long (v : Value) (l : List B) (a b : B) (node : Nat) (w : World) (hv : RdT bV w v l) (hlen : 100 < l.length) :
    Calls Try.prog 3 #[v, bv a, bv b, .int .u8 node] w fun e w' => e = .returned (.bool true) ∧ Below w.heap.size w w' := by
  obtain ⟨p, cap, rfl, _⟩ := hv.len
  clear hv
  have d1 : decide (100 < l.length) = true := decide_eq_true hlen
  have d1' : decide ((100 : Int) < (l.length : Int)) = true := decide_eq_true (by omega)
  go_enter Try.func3, Try.ntmps3
  go_wp2_with fail
  refine (wakes_any _).mono ?_
  rintro e w1 ⟨rfl, hb⟩
  go_wp2
  go_ret
  exact ⟨rfl, Below.later' (below2 w _ _) hb⟩
theorem calls_open {H : Type} {enc : TypeId × Value → H} {base : Nat} {d0 d1 d2 : DataW H} {p0 p1 p2 : List MemPlace} (v a b : Value) (node : Int) (w : World)
    (h3 : Value.okWide Try.prog w .any base 22 v) (t3 : DataW.Trod enc Try.prog w 0 (fun _ => true) true 22 v d0 p0)
    (h0 : Value.okWide Try.prog w .any base 25 a) (t0 : DataW.Trod enc Try.prog w 0 (fun _ => true) true 25 a d1 p1)
    (h1 : Value.okWide Try.prog w .any base 25 b) (t1 : DataW.Trod enc Try.prog w 0 (fun _ => true) true 25 b d2 p2) (hn : (Lit.int .u8 node).wf = true) :
    Calls Try.prog 3 #[v, a, b, .int .u8 node] w fun e w' => e = .returned (.bool true) ∧ Below w.heap.size w w' := by
  obtain ⟨x, rfl, hx⟩ := open_bal h0 t0
  obtain ⟨y, rfl, _⟩ := open_bal h1 t1
  obtain ⟨l, hl, _⟩ := open_bals h3 t3
  obtain ⟨n0, n1⟩ := bounds_u8 hn
  obtain ⟨k, rfl⟩ := Int.eq_ofNat_of_zero_le n0
  by_cases h : 100 < l.length
  · exact calls_long v l x y k w hl h
  · exact calls_walk v l x y hx k w hl h
end Bal
end Go.Proofs.Yteaegdigkdghpaa
