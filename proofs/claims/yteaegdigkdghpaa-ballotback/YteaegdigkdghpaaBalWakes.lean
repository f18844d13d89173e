/-
  Seat 07: ballots that are known: the row that is awake.
-/
import Derived.Test.YteaegdigkdghpaaBalPut
namespace Go.Proofs.Yteaegdigkdghpaa
open Go.RowKit
namespace Bal
open Wire
set_option maxRecDepth 100000 in
set_option maxHeartbeats 4000000 in
theorem wakes_any (w : World) : Calls Try.prog 8 #[] w fun e w' => e = .returned (.bool true) ∧ Below w.heap.size w w' := by
  have k1 := Lib.hid (show turnB zero 2 = (⟨1, 2⟩, 0) by rfl)
  have k2 := Lib.hid (show turnB ⟨3, 1⟩ 2 = (⟨3, 2⟩, 0) by rfl)
  have k3 := Lib.hid (show turnB ⟨3, 1⟩ 1 = (⟨4, 1⟩, 0) by rfl)
  have k4 := Lib.hid (show lt ⟨1, 6⟩ ⟨2, 0⟩ = true by rfl)
  have k5 := Lib.hid (show topB [⟨1, 1⟩, ⟨1, 3⟩, ⟨1, 2⟩] = ⟨1, 3⟩ by rfl)
  have k6 := Lib.hid (show balB ⟨5, 3⟩ = [5, 3] by kernel_rfl)
  go_enter Try.func8, Try.ntmps8
  go_wp2_with fail
  refine (turn_any zero ⟨by decide, by decide⟩ 2 w).mono ?_
  rintro e w1 ⟨rfl, b1⟩
  rw [k1.out]
  go_wp2_with fail
  refine (of_any 3 1 _).mono ?_
  rintro e w2 ⟨rfl, b2⟩
  have K1 := (Blk.new w1 (.cells #[.int .u64 1, .int .u8 2] 25)).later b2
  have c2 := Below.later' (b1.alloc b1.size _) b2
  go_wp2_with fail
  refine (turn_any ⟨3, 1⟩ ⟨by decide, by decide⟩ 2 w2).mono ?_
  rintro e w3 ⟨rfl, b3⟩
  rw [k2.out]
  have K1' := K1.later b3
  have c3 := Below.later' c2 b3
  clear b1 b2 K1
  go_wp2_with fail
  refine (of_any 3 1 _).mono ?_
  rintro e w4 ⟨rfl, b4⟩
  have K3 := (Blk.new w3 (.cells #[.int .u64 3, .int .u8 2] 25)).later b4
  have K1 := (K1'.alloc (.cells #[.int .u64 3, .int .u8 2] 25)).later b4
  have c4 := Below.later' (c3.alloc c3.size _) b4
  clear K1'
  go_wp2_with fail
  refine (turn_any ⟨3, 1⟩ ⟨by decide, by decide⟩ 1 w4).mono ?_
  rintro e w5 ⟨rfl, b5⟩
  rw [k3.out]
  have K1' := (K1.later b5).alloc (.cells #[.int .u64 4, .int .u8 1] 25)
  have K3' := (K3.later b5).alloc (.cells #[.int .u64 4, .int .u8 1] 25)
  have K5 := Blk.new w5 (.cells #[.int .u64 4, .int .u8 1] 25)
  have c5 := Below.later' c4 b5
  have c6 := c5.alloc c5.size (.cells #[.int .u64 4, .int .u8 1] 25)
  clear b3 b4 b5 c2 c3 c4 K1 K3 c5
  go_wp2_with fail
  generalize w5.alloc (.cells #[.int .u64 4, .int .u8 1] 25) = W at *
  have hA := fun w' (hb : Below W.heap.size W w') => (K1'.later hb).cell 0
  have hA' := fun w' (hb : Below W.heap.size W w') => (K1'.later hb).cell 1
  have hB := fun w' (hb : Below W.heap.size W w') => (K3'.later hb).cell 0
  have hB' := fun w' (hb : Below W.heap.size W w') => (K3'.later hb).cell 1
  have hC := fun w' (hb : Below W.heap.size W w') => (K5.later hb).cell 0
  have hC' := fun w' (hb : Below W.heap.size W w') => (K5.later hb).cell 1
  clear K1' K3' K5
  have B0 : Below W.heap.size W W.drew := Below.drew (Below.refl _ _)
  refine wp_region_ord (fun w' => Below W.heap.size W w') (0 :: 1 :: 2 :: 3 :: 4 :: 5 :: 6 :: 7 :: 8 :: 9 :: 10 :: 11 :: 12 :: 13 :: 14 :: 15 :: 16 :: 17 :: 18 :: 19 :: 20 :: 21 :: 22 :: 23 :: 24 :: 25 :: 26 :: 27 :: 28 :: 29 :: 30 :: 31 :: 32 :: 33 :: 34 :: 35 :: 36 :: 37 :: 38 :: 39 :: 40 :: 41 :: 42 :: 43 :: 44 :: 45 :: []) [1, 9, 18, 26, 27, 28, 31, 32, 33, 34, 35, 36, 40, 41] (by kernel_rfl) (by kernel_rfl) (by intro c d v a w h; cases d <;> exact h) B0 ?_
  repeat (first
    | (refine wpOrd_take (v := ?_) rfl rfl ?_ ?_ ?_; rotate_left; rfl; (· intro w' hSw; (try dsimp only at hSw); go_simp <;> with_reducible rfl); simp only [Act.put, List.setIfInBounds_toArray, List.set_cons_zero, List.set_cons_succ])
    | (refine wpOrd_skip rfl rfl ?_ ?_; rfl; simp only [Act.put, List.setIfInBounds_toArray, List.set_cons_zero, List.set_cons_succ]))
  refine wpOrd_eff rfl rfl (fun K hK => ?_)
  go_wp2_with fail
  refine (of_any 1 2 _).mono ?_
  rintro e x1 ⟨rfl, b_x1⟩
  have B_x1 := B0.trans (b_x1.mono B0.size)
  go_wp2_with fail
  refine hK.out _ _ B_x1 ?_
  clear hK K
  repeat (first
    | (refine wpOrd_take (v := ?_) rfl rfl ?_ ?_ ?_; rotate_left; rfl; (· intro w' hSw; (try dsimp only at hSw); go_simp <;> with_reducible rfl); simp only [Act.put, List.setIfInBounds_toArray, List.set_cons_zero, List.set_cons_succ])
    | (refine wpOrd_skip rfl rfl ?_ ?_; rfl; simp only [Act.put, List.setIfInBounds_toArray, List.set_cons_zero, List.set_cons_succ]))
  refine wpOrd_eff rfl rfl (fun K hK => ?_)
  go_wp2_with fail
  refine (of_any 3 2 _).mono ?_
  rintro e x2 ⟨rfl, b_x2⟩
  have B_x2 := B_x1.trans (b_x2.mono B_x1.size)
  go_wp2_with fail
  refine hK.out _ _ B_x2 ?_
  clear hK K
  repeat (first
    | (refine wpOrd_take (v := ?_) rfl rfl ?_ ?_ ?_; rotate_left; rfl; (· intro w' hSw; (try dsimp only at hSw); go_simp <;> with_reducible rfl); simp only [Act.put, List.setIfInBounds_toArray, List.set_cons_zero, List.set_cons_succ])
    | (refine wpOrd_skip rfl rfl ?_ ?_; rfl; simp only [Act.put, List.setIfInBounds_toArray, List.set_cons_zero, List.set_cons_succ]))
  refine wpOrd_eff rfl rfl (fun K hK => ?_)
  go_wp2_with fail
  refine (of_any 4 1 _).mono ?_
  rintro e x3 ⟨rfl, b_x3⟩
  have B_x3 := B_x2.trans (b_x3.mono B_x2.size)
  go_wp2_with fail
  refine hK.out _ _ B_x3 ?_
  clear hK K
  repeat (first
    | (refine wpOrd_take (v := ?_) rfl rfl ?_ ?_ ?_; rotate_left; rfl; (· intro w' hSw; (try dsimp only at hSw); go_simp <;> with_reducible rfl); simp only [Act.put, List.setIfInBounds_toArray, List.set_cons_zero, List.set_cons_succ])
    | (refine wpOrd_skip rfl rfl ?_ ?_; rfl; simp only [Act.put, List.setIfInBounds_toArray, List.set_cons_zero, List.set_cons_succ]))
  refine wpOrd_eff rfl rfl (fun K hK => ?_)
  go_wp2_with fail
  refine (of_any 1 6 _).mono ?_
  rintro e x4 ⟨rfl, b_x4⟩
  have B_x4 := B_x3.trans (b_x4.mono B_x3.size)
  go_wp2_with fail
  refine hK.out _ _ B_x4 ?_
  clear hK K
  repeat (first
    | (refine wpOrd_take (v := ?_) rfl rfl ?_ ?_ ?_; rotate_left; rfl; (· intro w' hSw; (try dsimp only at hSw); go_simp <;> with_reducible rfl); simp only [Act.put, List.setIfInBounds_toArray, List.set_cons_zero, List.set_cons_succ])
    | (refine wpOrd_skip rfl rfl ?_ ?_; rfl; simp only [Act.put, List.setIfInBounds_toArray, List.set_cons_zero, List.set_cons_succ]))
  refine wpOrd_eff rfl rfl (fun K hK => ?_)
  go_wp2_with fail
  refine (of_any 2 0 _).mono ?_
  rintro e x5 ⟨rfl, b_x5⟩
  have B_x5 := B_x4.trans (b_x5.mono B_x4.size)
  go_wp2_with fail
  refine hK.out _ _ B_x5 ?_
  clear hK K
  repeat (first
    | (refine wpOrd_take (v := ?_) rfl rfl ?_ ?_ ?_; rotate_left; rfl; (· intro w' hSw; (try dsimp only at hSw); go_simp <;> with_reducible rfl); simp only [Act.put, List.setIfInBounds_toArray, List.set_cons_zero, List.set_cons_succ])
    | (refine wpOrd_skip rfl rfl ?_ ?_; rfl; simp only [Act.put, List.setIfInBounds_toArray, List.set_cons_zero, List.set_cons_succ]))
  refine wpOrd_eff rfl rfl (fun K hK => ?_)
  go_wp2_with fail
  refine (below_any ⟨1, 6⟩ ⟨2, 0⟩ _).mono ?_
  rintro e x6 ⟨rfl, b_x6⟩
  rw [k4.out]
  have B_x6 := B_x5.trans (b_x6.mono B_x5.size)
  go_wp2_with fail
  refine hK.out _ _ B_x6 ?_
  clear hK K
  repeat (first
    | (refine wpOrd_take (v := ?_) rfl rfl ?_ ?_ ?_; rotate_left; rfl; (· intro w' hSw; (try dsimp only at hSw); go_simp <;> with_reducible rfl); simp only [Act.put, List.setIfInBounds_toArray, List.set_cons_zero, List.set_cons_succ])
    | (refine wpOrd_skip rfl rfl ?_ ?_; rfl; simp only [Act.put, List.setIfInBounds_toArray, List.set_cons_zero, List.set_cons_succ]))
  refine wpOrd_eff rfl rfl (fun K hK => ?_)
  go_wp2_with fail
  refine (of_any 1 1 _).mono ?_
  rintro e x7 ⟨rfl, b_x7⟩
  have B_x7 := B_x6.trans (b_x7.mono B_x6.size)
  go_wp2_with fail
  refine hK.out _ _ B_x7 ?_
  clear hK K
  repeat (first
    | (refine wpOrd_take (v := ?_) rfl rfl ?_ ?_ ?_; rotate_left; rfl; (· intro w' hSw; (try dsimp only at hSw); go_simp <;> with_reducible rfl); simp only [Act.put, List.setIfInBounds_toArray, List.set_cons_zero, List.set_cons_succ])
    | (refine wpOrd_skip rfl rfl ?_ ?_; rfl; simp only [Act.put, List.setIfInBounds_toArray, List.set_cons_zero, List.set_cons_succ]))
  refine wpOrd_eff rfl rfl (fun K hK => ?_)
  go_wp2_with fail
  refine (of_any 1 3 _).mono ?_
  rintro e x8 ⟨rfl, b_x8⟩
  have B_x8 := B_x7.trans (b_x8.mono B_x7.size)
  go_wp2_with fail
  refine hK.out _ _ B_x8 ?_
  clear hK K
  repeat (first
    | (refine wpOrd_take (v := ?_) rfl rfl ?_ ?_ ?_; rotate_left; rfl; (· intro w' hSw; (try dsimp only at hSw); go_simp <;> with_reducible rfl); simp only [Act.put, List.setIfInBounds_toArray, List.set_cons_zero, List.set_cons_succ])
    | (refine wpOrd_skip rfl rfl ?_ ?_; rfl; simp only [Act.put, List.setIfInBounds_toArray, List.set_cons_zero, List.set_cons_succ]))
  refine wpOrd_eff rfl rfl (fun K hK => ?_)
  go_wp2_with fail
  refine (of_any 1 2 _).mono ?_
  rintro e x9 ⟨rfl, b_x9⟩
  have B_x9 := B_x8.trans (b_x9.mono B_x8.size)
  go_wp2_with fail
  refine hK.out _ _ B_x9 ?_
  clear hK K
  repeat (first
    | (refine wpOrd_take (v := ?_) rfl rfl ?_ ?_ ?_; rotate_left; rfl; (· intro w' hSw; (try dsimp only at hSw); go_simp <;> with_reducible rfl); simp only [Act.put, List.setIfInBounds_toArray, List.set_cons_zero, List.set_cons_succ])
    | (refine wpOrd_skip rfl rfl ?_ ?_; rfl; simp only [Act.put, List.setIfInBounds_toArray, List.set_cons_zero, List.set_cons_succ]))
  refine wpOrd_eff rfl rfl (fun K hK => ?_)
  refine wpList_unguard rfl ?_
  go_wp2_with fail
  have hrd : RdT bV (x9.alloc (.cells #[.int .u64 1, .int .u8 1, .int .u64 1, .int .u8 3, .int .u64 1, .int .u8 2] 25)) (.slice (some ⟨x9.heap.size, 0, none⟩) 3 3) [⟨1, 1⟩, ⟨1, 3⟩, ⟨1, 2⟩] := rdV_block _ _ _ 3 3 (by omega)
  have B_y := B_x9.alloc B_x9.size (.cells #[.int .u64 1, .int .u8 1, .int .u64 1, .int .u8 3, .int .u64 1, .int .u8 2] 25)
  refine hK.out _ _ B_y ?_
  clear hK K
  repeat (first
    | (refine wpOrd_take (v := ?_) rfl rfl ?_ ?_ ?_; rotate_left; rfl; (· intro w' hSw; (try dsimp only at hSw); go_simp <;> with_reducible rfl); simp only [Act.put, List.setIfInBounds_toArray, List.set_cons_zero, List.set_cons_succ])
    | (refine wpOrd_skip rfl rfl ?_ ?_; rfl; simp only [Act.put, List.setIfInBounds_toArray, List.set_cons_zero, List.set_cons_succ]))
  refine wpOrd_eff rfl rfl (fun K hK => ?_)
  go_wp2_with fail
  refine (top_any _ _ _ hrd).mono ?_
  rintro e x10 ⟨rfl, b_x10⟩
  rw [k5.out]
  have B_x10 := B_y.trans (b_x10.mono B_y.size)
  go_wp2_with fail
  refine hK.out _ _ B_x10 ?_
  clear hK K
  repeat (first
    | (refine wpOrd_take (v := ?_) rfl rfl ?_ ?_ ?_; rotate_left; rfl; (· intro w' hSw; (try dsimp only at hSw); go_simp <;> with_reducible rfl); simp only [Act.put, List.setIfInBounds_toArray, List.set_cons_zero, List.set_cons_succ])
    | (refine wpOrd_skip rfl rfl ?_ ?_; rfl; simp only [Act.put, List.setIfInBounds_toArray, List.set_cons_zero, List.set_cons_succ]))
  refine wpOrd_eff rfl rfl (fun K hK => ?_)
  go_wp2_with fail
  refine (of_any 1 3 _).mono ?_
  rintro e x11 ⟨rfl, b_x11⟩
  have B_x11 := B_x10.trans (b_x11.mono B_x10.size)
  go_wp2_with fail
  refine hK.out _ _ B_x11 ?_
  clear hK K
  repeat (first
    | (refine wpOrd_take (v := ?_) rfl rfl ?_ ?_ ?_; rotate_left; rfl; (· intro w' hSw; (try dsimp only at hSw); go_simp <;> with_reducible rfl); simp only [Act.put, List.setIfInBounds_toArray, List.set_cons_zero, List.set_cons_succ])
    | (refine wpOrd_skip rfl rfl ?_ ?_; rfl; simp only [Act.put, List.setIfInBounds_toArray, List.set_cons_zero, List.set_cons_succ]))
  refine wpOrd_eff rfl rfl (fun K hK => ?_)
  go_wp2_with fail
  refine (of_any 5 3 _).mono ?_
  rintro e x12 ⟨rfl, b_x12⟩
  have B_x12 := B_x11.trans (b_x12.mono B_x11.size)
  go_wp2_with fail
  refine hK.out _ _ B_x12 ?_
  clear hK K
  repeat (first
    | (refine wpOrd_take (v := ?_) rfl rfl ?_ ?_ ?_; rotate_left; rfl; (· intro w' hSw; (try dsimp only at hSw); go_simp <;> with_reducible rfl); simp only [Act.put, List.setIfInBounds_toArray, List.set_cons_zero, List.set_cons_succ])
    | (refine wpOrd_skip rfl rfl ?_ ?_; rfl; simp only [Act.put, List.setIfInBounds_toArray, List.set_cons_zero, List.set_cons_succ]))
  refine wpOrd_effS rfl rfl (fun K hK => ?_)
  go_wp2_with fail
  refine (put_any x12.heap.size _ 0 [] ⟨5, 3⟩ ⟨by decide, by decide⟩ x12 (own_nil _ _) (by omega) (Nat.le_refl _)).mono ?_
  rintro e x13 ⟨v13, rfl, ho13, g13⟩
  rw [List.nil_append, k6.out] at ho13
  have ho13' : x13.ownsRow x12.heap.size 5 1 v13 2 (by8 [5, 3]) := by rw [Nat.zero_add] at ho13; exact ho13
  have B_x13 := B_x12.trans ((below_grew g13).mono B_x12.size)
  have hcv : ∀ w', Below x13.heap.size x13 w' → (convert 37 9 v13).run Try.prog w' = .ok (.string (bs [5, 3])) w' := fun w' h => own_text (ownsRow_below ho13' h)
  have e53 : ((bs [5, 3]).toList == [5, 3]) = true := by rw [bs_toList]; rfl
  go_wp2_with fail
  refine hK.out (fun w' => Below x13.heap.size x13 w') _ _ (fun w' h => B_x13.trans (h.mono B_x13.size)) (Below.refl _ _) ?_
  clear hK K
  repeat (first
    | (refine wpOrd_take (v := ?_) rfl rfl ?_ ?_ ?_; rotate_left; rfl; (· intro w' hSw; (try dsimp only at hSw); go_simp <;> with_reducible rfl); simp only [Act.put, List.setIfInBounds_toArray, List.set_cons_zero, List.set_cons_succ])
    | (refine wpOrd_skip rfl rfl ?_ ?_; rfl; simp only [Act.put, List.setIfInBounds_toArray, List.set_cons_zero, List.set_cons_succ]))
  refine wpOrd_nil ?_
  go_wp2_with fail
  go_ret
  exact ⟨rfl, c6.trans (B_x13.mono c6.size)⟩
end Bal
end Go.Proofs.Yteaegdigkdghpaa
