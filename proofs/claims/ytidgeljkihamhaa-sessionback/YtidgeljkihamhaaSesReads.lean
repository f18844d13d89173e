/-
  The walk of SessionReads.
-/
import Derived.Test.YtidgeljkihamhaaSesRTake
import Derived.Test.YtidgeljkihamhaaSesRisesLaw
namespace Go.Proofs.Ytidgeljkihamhaa
open Go.RowKit Go.WideShapes
namespace Ses
open Wire
set_option maxRecDepth 100000 in
set_option maxHeartbeats 1000000 in
theorem take_nil (w : World) : Calls Try.prog 17 #[.pointer none] w fun e w' => e = .returned (.agg #[.int .u32 0, .int .u8 0, .string ⟨#[]⟩, .int .u32 0, .int .u8 0, .string ⟨#[]⟩, .int .u32 0, .int .u8 0, .string ⟨#[]⟩, .int .u32 0, .int .u8 0, .string ⟨#[]⟩]) ∧ Below w.heap.size w w' := by
  go_enter Try.func17, Try.ntmps17
  go_wp2_with fail
  go_loopw [4, 5, 6] (fun _ _ i wr => ∃ k : Nat, k ≤ 4 ∧ i = .int .i64 k ∧ Blk wr (w.heap.size + 1) (.cells (tabA (fun _ => zero)) 31) ∧ Blk wr w.heap.size (.cells #[.int .u32 0, .int .u8 0, .string ⟨#[]⟩, .int .u32 0, .int .u8 0, .string ⟨#[]⟩, .int .u32 0, .int .u8 0, .string ⟨#[]⟩, .int .u32 0, .int .u8 0, .string ⟨#[]⟩] 31) ∧ Below w.heap.size w wr) (fun _ _ i _ => 4 - (intOf i).toNat)
  case atStart => exact ⟨0, by omega, rfl, Blk.newAt _ (by simp), Blk.alloc (Blk.new _ _) _, below2 _ _ _⟩
  case round =>
    obtain ⟨k, hk, rfl, k3, k2, hB⟩ := hrel
    by_cases hlt : k < 4
    · have hd : decide ((k : Int) < 4) = true := decide_eq_true (by omega)
      have hlt' : (k : Int) < 4 := by omega
      have l3 := k3.lt
      have a0 := (tab_cell hlt k3).1
      have f0 := k3.frozen (k * 3)
      have hw32 : IntKind.u32.wrap (0 : Int) = 0 := by rw [IntKind.wrap_u32]; rfl
      go_wp2_with fail
      refine (below_nil 4294967296 _).mono ?_
      rintro e w1 ⟨rfl, rfl⟩
      have k32 := tab_setq hlt k3 0
      have hz : setQ (fun _ => zero) k 0 = fun _ => zero := by funext i; unfold setQ; split <;> rfl
      rw [hz] at k32
      have k22 := k2.other (a := ⟨w.heap.size + 1, k * 3, none⟩) (by simp) (.int .u32 0)
      have hB2 := hB.setCell (p := ⟨w.heap.size + 1, k * 3, none⟩) (by simp) (.int .u32 0)
      clear hz
      go_wp2
      go_roundw
      case rel => exact ⟨k + 1, by omega, by go_num, k32, k22, hB2⟩
      case measure => simp [intOf]; omega
    · have hd : decide ((k : Int) < 4) = false := decide_eq_false (by omega)
      have hd' : decide (k < 4) = false := decide_eq_false (by omega)
      go_wp2_with fail
      refine (err_nil _).mono ?_
      rintro e w1 ⟨rfl, rfl⟩
      have r0 := k2.cell 0
      have f0 := k2.frozen 0
      have r1 := k2.cell 1
      have f1 := k2.frozen 1
      have r2 := k2.cell 2
      have f2 := k2.frozen 2
      have r3 := k2.cell 3
      have f3 := k2.frozen 3
      have r4 := k2.cell 4
      have f4 := k2.frozen 4
      have r5 := k2.cell 5
      have f5 := k2.frozen 5
      have r6 := k2.cell 6
      have f6 := k2.frozen 6
      have r7 := k2.cell 7
      have f7 := k2.frozen 7
      have r8 := k2.cell 8
      have f8 := k2.frozen 8
      have r9 := k2.cell 9
      have f9 := k2.frozen 9
      have r10 := k2.cell 10
      have f10 := k2.frozen 10
      have r11 := k2.cell 11
      have f11 := k2.frozen 11
      have l2 := k2.lt
      have kf := put12_blk (T0 := fun _ => zero) (fun _ => zero) k2
      have gf := put12_below (fun _ => zero) hB (Nat.le_refl _)
      go_wp2
      change bodyPost _ _ _ _ _ (put12 wr w.heap.size (fun _ => zero))
      obtain ⟨Wf, hWf⟩ : ∃ Wf, put12 wr w.heap.size (fun _ => zero) = Wf := ⟨_, rfl⟩
      rw [hWf] at kf gf ⊢
      clear hWf
      have c0 := kf.cell 0
      have c1 := kf.cell 1
      have c2 := kf.cell 2
      have c3 := kf.cell 3
      have c4 := kf.cell 4
      have c5 := kf.cell 5
      have c6 := kf.cell 6
      have c7 := kf.cell 7
      have c8 := kf.cell 8
      have c9 := kf.cell 9
      have c10 := kf.cell 10
      have c11 := kf.cell 11
      refine bodyPost_ret (v := .agg #[.int .u32 0, .int .u8 0, .string ⟨#[]⟩, .int .u32 0, .int .u8 0, .string ⟨#[]⟩, .int .u32 0, .int .u8 0, .string ⟨#[]⟩, .int .u32 0, .int .u8 0, .string ⟨#[]⟩]) (by simp [results, Try.results17, go_sem, tabA, zero, c0, c1, c2, c3, c4, c5, c6, c7, c8, c9, c10, c11]) rfl ⟨rfl, gf⟩
theorem zeros_same (w : World) : (binOp .eql 31 (.agg #[.int .u32 0, .int .u8 0, .string ⟨#[]⟩, .int .u32 0, .int .u8 0, .string ⟨#[]⟩, .int .u32 0, .int .u8 0, .string ⟨#[]⟩, .int .u32 0, .int .u8 0, .string ⟨#[]⟩]) (.agg #[.int .u32 0, .int .u8 0, .string ⟨#[]⟩, .int .u32 0, .int .u8 0, .string ⟨#[]⟩, .int .u32 0, .int .u8 0, .string ⟨#[]⟩, .int .u32 0, .int .u8 0, .string ⟨#[]⟩])).run Try.prog w = .ok (.bool true) w := by kernel_rfl
set_option maxRecDepth 100000 in
set_option maxHeartbeats 4000000 in
theorem reads_walk (s : List UInt8) (hl : ¬ 2000 < s.length) (w : World) :
    Calls Try.prog 5 #[.string (bs s)] w fun e w' => e = .returned (.bool true) ∧ Below w.heap.size w w' := by
  have hs := bs_size s
  have d1 : decide (2000 < s.length) = false := decide_eq_false hl
  have d1' : decide ((2000 : Int) < (s.length : Int)) = false := decide_eq_false (by omega)
  have HTW := Lib.hid (fun b w h => take_walk b ⟨s, 0⟩ w h (by dsimp only; omega))
  have HRT := Lib.hid (fun w => rtake_any ⟨s, 0⟩ (by dsimp only; omega) w)
  obtain ⟨D, hD⟩ : ∃ D, docK ⟨s, 0⟩ 4 = D := ⟨_, rfl⟩
  rw [hD] at HTW HRT
  clear hD
  obtain ⟨l, hL⟩ : ∃ l, takeK ⟨s, 0⟩ = l := ⟨_, rfl⟩
  rw [hL] at HTW HRT
  clear hL
  have HAL := Lib.hid (fun v w h => alike_any v l w h)
  generalize tabK l = T at HTW HAL
  obtain ⟨l0, s1⟩ := D
  dsimp only at HTW HRT
  unfold tab at HTW HAL
  unfold rv at HRT
  dsimp only at HRT
  go_enter Try.func5, Try.ntmps5
  go_wp2_with fail
  refine (of_any s _).mono ?_
  rintro e w1 ⟨br, rfl, hbr, b1, hr1⟩
  go_wp2_with fail
  refine (HTW.out br w1 hr1).mono ?_
  rintro e w2 ⟨rfl, g2, hr2⟩
  have hB2 := Below.grew b1 g2 b1.size hbr
  have zb := hr2.lt
  clear b1 hr1 g2
  go_wp2_with fail
  have k4 := Blk.new w2 (.cells (tabA T) 31)
  have hr3 : Rdr (w2.alloc (.cells (tabA T) 31)) br s1 := Blk.alloc hr2 _
  have hB3 := hB2.alloc hB2.size (.cells (tabA T) 31)
  have hne4 : w2.heap.size ≠ br := by omega
  obtain ⟨w3, hw3⟩ : ∃ w3, w2.alloc (.cells (tabA T) 31) = w3 := ⟨_, rfl⟩
  have hw3' : w2.alloc (.cells #[.int .u32 (T 0).q, .int .u8 (T 0).c, .string (T 0).t, .int .u32 (T 1).q, .int .u8 (T 1).c, .string (T 1).t, .int .u32 (T 2).q, .int .u8 (T 2).c, .string (T 2).t, .int .u32 (T 3).q, .int .u8 (T 3).c, .string (T 3).t] 31) = w3 := hw3
  rw [hw3] at k4 hr3 hB3
  rw [hw3']
  clear hw3 hw3' hr2 hB2
  refine (HRT.out w3).mono ?_
  rintro e w4 ⟨v5, rfl, hv5, b4⟩
  have k44 := k4.later b4
  have hr4 : Rdr w4 br s1 := Blk.later hr3 b4
  have hB4 := Below.later' hB3 b4
  clear k4 hr3 hB3 b4
  go_wp2_with fail
  have k45 := k44.alloc (.cells #[.string (bs s1.rest), .int .i64 s1.e] 49)
  have k65 := Blk.new w4 (.cells #[.string (bs s1.rest), .int .i64 s1.e] 49)
  have hr5 : Rdr (w4.alloc (.cells #[.string (bs s1.rest), .int .i64 s1.e] 49)) br s1 := Blk.alloc hr4 _
  have hv6 := hv5.later (below1 w4 (.cells #[.string (bs s1.rest), .int .i64 s1.e] 49))
  have hB5 := hB4.alloc hB4.size (.cells #[.string (bs s1.rest), .int .i64 s1.e] 49)
  clear k44 hr4 hB4 hv5
  generalize w4.alloc (.cells #[.string (bs s1.rest), .int .i64 s1.e] 49) = W at *
  simp only [tabA] at k45
  have F4 := k45.held
  have F6 := k65.held
  have rr := fun w' (hb : Below W.heap.size W w') => (Blk.later hr5 hb : Rdr w' br s1)
  have vv := fun w' (hb : Below W.heap.size W w') => hv6.later hb
  have RRR := Lib.hid rr
  have VV := Lib.hid vv
  clear rr vv hr5 hv6 k45 k65
  have hzs := bs_size s1.rest
  have q1 : ((s1.e : Int) == (s1.e : Int)) = true := by simp
  have q2 : ((s1.rest.length : Int) == (s1.rest.length : Int)) = true := by simp
  have q3 := zeros_same
  have B0 : Below W.heap.size W W.drew := Below.drew (Below.refl _ _)
  go_wp2_with fail
  refine wp_region_ord (fun w' => Below W.heap.size W w') (0 :: 1 :: 2 :: 3 :: 4 :: 6 :: 7 :: 5 :: 8 :: 9 :: 10 :: 11 :: 13 :: 14 :: 15 :: 12 :: 16 :: 17 :: 18 :: 20 :: 19 :: 21 :: 22 :: 23 :: 24 :: 25 :: 26 :: []) [2, 5, 12, 19, 24] (by kernel_rfl) (by kernel_rfl) (by intro c d v a w h; cases d <;> exact h) B0 ?_
  repeat (first
    | (refine wpOrd_take (v := ?_) rfl rfl ?_ ?_ ?_; rotate_left; rfl; (· intro w' hSw; (try dsimp only at hSw); go_simp <;> with_reducible rfl); simp only [Act.put, List.setIfInBounds_toArray, List.set_cons_zero, List.set_cons_succ])
    | (refine wpOrd_skip rfl rfl ?_ ?_; rfl; simp only [Act.put, List.setIfInBounds_toArray, List.set_cons_zero, List.set_cons_succ]))
  refine wpOrd_eff rfl rfl (fun K hK => ?_)
  go_wp2_with fail
  refine (HAL.out v5 _ (VV.out _ B0)).mono ?_
  rintro e x1 ⟨rfl, b1⟩
  have B1 := B0.trans (b1.mono B0.size)
  go_wp2_with fail
  refine hK.out _ _ B1 ?_
  clear hK K
  repeat (first
    | (refine wpOrd_take (v := ?_) rfl rfl ?_ ?_ ?_; rotate_left; rfl; (· intro w' hSw; (try dsimp only at hSw); go_simp <;> with_reducible rfl); simp only [Act.put, List.setIfInBounds_toArray, List.set_cons_zero, List.set_cons_succ])
    | (refine wpOrd_skip rfl rfl ?_ ?_; rfl; simp only [Act.put, List.setIfInBounds_toArray, List.set_cons_zero, List.set_cons_succ]))
  refine wpOrd_eff rfl rfl (fun K hK => ?_)
  go_wp2_with fail
  refine (err_of br s1 _ (RRR.out _ B1)).mono ?_
  rintro e x2 ⟨rfl, rfl⟩
  go_wp2_with fail
  refine hK.out _ _ B1 ?_
  clear hK K
  repeat (first
    | (refine wpOrd_take (v := ?_) rfl rfl ?_ ?_ ?_; rotate_left; rfl; (· intro w' hSw; (try dsimp only at hSw); go_simp <;> with_reducible rfl); simp only [Act.put, List.setIfInBounds_toArray, List.set_cons_zero, List.set_cons_succ])
    | (refine wpOrd_skip rfl rfl ?_ ?_; rfl; simp only [Act.put, List.setIfInBounds_toArray, List.set_cons_zero, List.set_cons_succ]))
  refine wpOrd_eff rfl rfl (fun K hK => ?_)
  go_wp2_with fail
  refine (left_of br s1 _ (RRR.out _ B1)).mono ?_
  rintro e x3 ⟨rfl, rfl⟩
  go_wp2_with fail
  refine hK.out _ _ B1 ?_
  clear hK K
  repeat (first
    | (refine wpOrd_take (v := ?_) rfl rfl ?_ ?_ ?_; rotate_left; rfl; (· intro w' hSw; (try dsimp only at hSw); go_simp <;> with_reducible rfl); simp only [Act.put, List.setIfInBounds_toArray, List.set_cons_zero, List.set_cons_succ])
    | (refine wpOrd_skip rfl rfl ?_ ?_; rfl; simp only [Act.put, List.setIfInBounds_toArray, List.set_cons_zero, List.set_cons_succ]))
  refine wpOrd_eff rfl rfl (fun K hK => ?_)
  go_wp2_with fail
  refine (take_nil _).mono ?_
  rintro e x4 ⟨rfl, b4⟩
  have B4 := B1.trans (b4.mono B1.size)
  go_wp2_with fail
  refine hK.out _ _ B4 ?_
  clear hK K
  repeat (first
    | (refine wpOrd_take (v := ?_) rfl rfl ?_ ?_ ?_; rotate_left; rfl; (· intro w' hSw; (try dsimp only at hSw); go_simp <;> with_reducible rfl); simp only [Act.put, List.setIfInBounds_toArray, List.set_cons_zero, List.set_cons_succ])
    | (refine wpOrd_skip rfl rfl ?_ ?_; rfl; simp only [Act.put, List.setIfInBounds_toArray, List.set_cons_zero, List.set_cons_succ]))
  refine wpOrd_eff rfl rfl (fun K hK => ?_)
  go_wp2_with fail
  refine (wakes_any _).mono ?_
  rintro e x5 ⟨rfl, b5⟩
  have B5 := B4.trans (b5.mono B4.size)
  go_wp2_with fail
  refine hK.out _ _ B5 ?_
  clear hK K
  repeat (first
    | (refine wpOrd_take (v := ?_) rfl rfl ?_ ?_ ?_; rotate_left; rfl; (· intro w' hSw; (try dsimp only at hSw); go_simp <;> with_reducible rfl); simp only [Act.put, List.setIfInBounds_toArray, List.set_cons_zero, List.set_cons_succ])
    | (refine wpOrd_skip rfl rfl ?_ ?_; rfl; simp only [Act.put, List.setIfInBounds_toArray, List.set_cons_zero, List.set_cons_succ]))
  refine wpOrd_nil ?_
  go_wp2_with fail
  go_ret
  exact ⟨rfl, hB5.trans (B5.mono hB5.size)⟩
theorem reads_long (s : List UInt8) (hl : 2000 < s.length) (w : World) :
    Calls Try.prog 5 #[.string (bs s)] w fun e w' => e = .returned (.bool true) ∧ Below w.heap.size w w' := by
  have hs := bs_size s
  have d1 : decide (2000 < s.length) = true := decide_eq_true hl
  have d1' : decide ((2000 : Int) < (s.length : Int)) = true := decide_eq_true (by omega)
  go_enter Try.func5, Try.ntmps5
  go_wp2_with fail
  refine (wakes_any _).mono ?_
  rintro e w2 ⟨rfl, b2⟩
  go_wp2
  go_ret
  exact ⟨rfl, b2⟩
theorem reads_law (s : ByteArray) (w : World) (_ : s.size ≤ maxLen) :
    Calls Try.prog 5 #[.string s] w fun e w' => e = .returned (.bool true) ∧ Below w.heap.size w w' := by
  rw [← bs_list s]
  by_cases h : 2000 < s.data.toList.length
  · exact reads_long _ h w
  · exact reads_walk _ h w
end Ses
end Go.Proofs.Ytidgeljkihamhaa
