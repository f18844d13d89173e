/-
  CmdTells, walked.
-/
import Derived.Test.YtdjddbidhaeekaaCmdRBatch
import Derived.Test.YtdjddbidhaeekaaCmdCheck
import Derived.Test.YtdjddbidhaeekaaCmdGreat
import Derived.Deep.DeepCutAuto
namespace Go.Proofs.Ytdjddbidhaeekaa
open Go.RowKit Go.WideShapes
namespace Cm
open Wire
theorem great_short (a : Cm) (h : greatL [a] = false) : a.short := by
  unfold greatL longC at h
  simp only [Bool.or_eq_false_iff, decide_eq_false_iff_not, List.any_cons, List.any_nil, Bool.or_false] at h
  unfold short; omega
set_option maxRecDepth 100000 in
set_option maxHeartbeats 2000000 in
theorem tells_may (v u : Value) (l : List Cm) (a : Cm) (L : List UInt8) (hlo : ∀ x ∈ l, x.ok) (hao : a.ok) (has : a.short) (hgl : greatL l = false) (hga : greatL [a] = false) (hL : ¬ 100 < L.length) (hmay : a.may) (w : World) (hv : RdT cells w v l) (hu : RdV w u L.length (by8 L)) :
    Calls Try.prog 3 #[v, a.val, u] w fun e w' => e = .returned (.bool true) ∧ Below w.heap.size w w' := by
  have HGL := Lib.hid hgl
  have HGA := Lib.hid hga
  have HLO := Lib.hid hlo
  have HC := Lib.hid (show chk a = 0 from if_pos hmay)
  have HM := Lib.hid (show decide a.may = true from decide_eq_true hmay)
  have d1 : decide (100 < L.length) = false := decide_eq_false hL
  have d1' : decide ((100 : Int) < (L.length : Int)) = false := decide_eq_false (by omega)
  have hbl := bytes_le a has
  have hle : L.length ≤ 100 := by omega
  clear hgl hga hlo hmay hL
  have HV := Lib.hid hv
  have HU := Lib.hid hu
  obtain ⟨p, cap, rfl, _, _, _⟩ := hu
  clear hv
  have k := Blk.new w (.cells #[.int .u8 a.cl, .int .u32 a.sq, .int .u8 a.kd, .string a.key, .string a.old, .string a.new, .int .u8 a.set] 25)
  have b0 := below1 w (.cells #[.int .u8 a.cl, .int .u32 a.sq, .int .u8 a.kd, .string a.key, .string a.old, .string a.new, .int .u8 a.set] 25)
  go_enter Try.func3, Try.ntmps3
  go_wp2_with fail
  obtain ⟨W, hW⟩ : ∃ W, w.alloc (.cells #[.int .u8 a.cl, .int .u32 a.sq, .int .u8 a.kd, .string a.key, .string a.old, .string a.new, .int .u8 a.set] 25) = W := ⟨_, rfl⟩
  rw [hW] at k b0 ⊢
  clear hW
  refine (greatL_any v l W (HV.out.later b0)).mono ?_
  rintro e w1 ⟨rfl, rfl⟩
  rw [HGL.out]
  have k2 := Blk.new W (.cells #[.int .u8 a.cl, .int .u32 a.sq, .int .u8 a.kd, .string a.key, .string a.old, .string a.new, .int .u8 a.set] 25)
  have b2 := below1 W (.cells #[.int .u8 a.cl, .int .u32 a.sq, .int .u8 a.kd, .string a.key, .string a.old, .string a.new, .int .u8 a.set] 25)
  have c0 := k.cell 0
  have c1 := k.cell 1
  have c2 := k.cell 2
  have c3 := k.cell 3
  have c4 := k.cell 4
  have c5 := k.cell 5
  have c6 := k.cell 6
  go_wp2_with fail
  have r1 : RdT cells (W.alloc (.cells #[.int .u8 a.cl, .int .u32 a.sq, .int .u8 a.kd, .string a.key, .string a.old, .string a.new, .int .u8 a.set] 25)) (.slice (some ⟨W.heap.size, 0, none⟩) 1 1) [a] := rdV_block W _ 25 1 1 (by decide)
  obtain ⟨X, hX⟩ : ∃ X, W.alloc (.cells #[.int .u8 a.cl, .int .u32 a.sq, .int .u8 a.kd, .string a.key, .string a.old, .string a.new, .int .u8 a.set] 25) = X := ⟨_, rfl⟩
  rw [hX] at k2 b2 r1 ⊢
  clear hX
  refine (greatL_any _ [a] X r1).mono ?_
  rintro e w1 ⟨rfl, rfl⟩
  rw [HGA.out]
  have tx := rd_text (HU.out.below (b0.trans (b2.mono b0.size)) (Nat.le_refl _)) rfl
  go_wp2_with fail
  refine (batch_c v l HLO.out X ((HV.out.later b0).later b2)).mono ?_
  rintro e Y ⟨rfl, b3⟩
  have BY := Below.later' b0 (b2.trans (b3.mono b2.size))
  have kY := (k.later b2).later b3
  clear tx c0 c1 c2 c3 c4 c5 c6 r1 k2
  go_wp2_with fail
  refine (rbatch_c v l HLO.out Y (HV.out.later BY)).mono ?_
  rintro e X ⟨rfl, b4⟩
  have BX := Below.later' BY b4
  have kX := kY.later b4
  have F := kX.held
  have F0 := fun w' (hb : Below X.heap.size X w') => (kX.later hb).cell 0
  have F1 := fun w' (hb : Below X.heap.size X w') => (kX.later hb).cell 1
  have F2 := fun w' (hb : Below X.heap.size X w') => (kX.later hb).cell 2
  have F3 := fun w' (hb : Below X.heap.size X w') => (kX.later hb).cell 3
  have F4 := fun w' (hb : Below X.heap.size X w') => (kX.later hb).cell 4
  have F5 := fun w' (hb : Below X.heap.size X w') => (kX.later hb).cell 5
  have F6 := fun w' (hb : Below X.heap.size X w') => (kX.later hb).cell 6
  have RU := Lib.hid (fun w' (hb : Below X.heap.size X w') => (HU.out.below BX (Nat.le_refl _)).below hb (Nat.le_refl _))
  go_upto_region 6 with (fail)
  clear k b0 b2 b3 kY BY b4 kX F
  have hcat := bs_append L a.bytes
  have zL := bs_size L
  have zB := bs_size a.bytes
  have q1 : ¬ 9223372036854775807 < L.length + a.bytes.length := by omega
  have q2 : ¬ 9223372036854775807 < (L.length : Int) + (a.bytes.length : Int) := by omega
  have e1 : ((bs (L ++ a.bytes)).toList == (bs (L ++ a.bytes)).toList) = true := beq_self_eq_true _
  have HE := Lib.hid (show ((bs (batchR l).1).toList == (bs (batchR l).1).toList) = true from beq_self_eq_true _)
  obtain ⟨A, E, hAE⟩ : ∃ A E, batchR l = (A, E) := ⟨_, _, rfl⟩
  rw [hAE] at HE ⊢
  dsimp only at HE ⊢
  have e2 := HE.out
  have e3 : ((E : Int) == (E : Int)) = true := by simp
  clear hAE HE
  have B0 : Below X.heap.size X X.drew := Below.drew (Below.refl _ _)
  refine wp_region_ord (fun w' => Below X.heap.size X w') (0 :: 3 :: 1 :: 2 :: 4 :: 5 :: 6 :: 7 :: 8 :: 9 :: 10 :: 11 :: 12 :: 13 :: 14 :: 15 :: 16 :: 18 :: 21 :: 22 :: 17 :: 19 :: 20 :: 23 :: 24 :: 25 :: 26 :: 27 :: 28 :: 29 :: 30 :: 31 :: 32 :: 33 :: 34 :: 35 :: 36 :: 37 :: 38 :: 39 :: 40 :: []) [1, 4, 8, 17, 19, 23, 38] (by kernel_rfl) (by kernel_rfl) (by intro c d v a w h; cases d <;> exact h) B0 ?_
  repeat (first
    | (refine wpOrd_take (v := ?_) rfl rfl ?_ ?_ ?_; rotate_left; rfl; (· intro w' hSw; (try dsimp only at hSw); go_simp <;> with_reducible rfl); simp only [Act.put, List.setIfInBounds_toArray, List.set_cons_zero, List.set_cons_succ])
    | (refine wpOrd_skip rfl rfl ?_ ?_; rfl; simp only [Act.put, List.setIfInBounds_toArray, List.set_cons_zero, List.set_cons_succ]))
  refine wpOrd_eff rfl rfl (fun K hK => ?_)
  go_wp2_with fail
  refine (check_any a hao _).mono ?_
  rintro e x1 ⟨rfl, d1⟩
  rw [HC.out]
  have B1 := B0.trans (d1.mono B0.size)
  go_wp2_with fail
  refine hK.out _ _ B1 ?_
  clear hK K
  repeat (first
    | (refine wpOrd_take (v := ?_) rfl rfl ?_ ?_ ?_; rotate_left; rfl; (· intro w' hSw; (try dsimp only at hSw); go_simp <;> with_reducible rfl); simp only [Act.put, List.setIfInBounds_toArray, List.set_cons_zero, List.set_cons_succ])
    | (refine wpOrd_skip rfl rfl ?_ ?_; rfl; simp only [Act.put, List.setIfInBounds_toArray, List.set_cons_zero, List.set_cons_succ]))
  refine wpOrd_eff rfl rfl (fun K hK => ?_)
  go_wp2_with fail
  refine (may_any a _).mono ?_
  rintro e x2 ⟨rfl, d2⟩
  rw [HM.out]
  have B2 := B1.trans (d2.mono B1.size)
  go_wp2_with fail
  refine hK.out _ _ B2 ?_
  clear hK K
  repeat (first
    | (refine wpOrd_take (v := ?_) rfl rfl ?_ ?_ ?_; rotate_left; rfl; (· intro w' hSw; (try dsimp only at hSw); go_simp <;> with_reducible rfl); simp only [Act.put, List.setIfInBounds_toArray, List.set_cons_zero, List.set_cons_succ])
    | (refine wpOrd_skip rfl rfl ?_ ?_; rfl; simp only [Act.put, List.setIfInBounds_toArray, List.set_cons_zero, List.set_cons_succ]))
  refine wpOrd_eff rfl rfl (fun K hK => ?_)
  go_wp2_with fail
  refine (may_any a _).mono ?_
  rintro e x3 ⟨rfl, d3⟩
  rw [HM.out]
  have B3 := B2.trans (d3.mono B2.size)
  go_wp2_with fail
  refine hK.out _ _ B3 ?_
  clear hK K
  repeat (first
    | (refine wpOrd_take (v := ?_) rfl rfl ?_ ?_ ?_; rotate_left; rfl; (· intro w' hSw; (try dsimp only at hSw); go_simp <;> with_reducible rfl); simp only [Act.put, List.setIfInBounds_toArray, List.set_cons_zero, List.set_cons_succ])
    | (refine wpOrd_skip rfl rfl ?_ ?_; rfl; simp only [Act.put, List.setIfInBounds_toArray, List.set_cons_zero, List.set_cons_succ]))
  refine wpOrd_eff rfl rfl (fun K hK => ?_)
  refine wpList_unguard rfl ?_
  refine appNg rfl _ _ 26 rfl X.heap.size 5 (.int .u8 0) 1 1 info Try.underlying26 rfl (by decide) _ (.slice none 0 0) 0 [] (own_nil _ _) rfl (.slice p L.length cap) L.length (by8 L) (RU.out _ B3) (by simp [by8_length]) (one_u8 _) rfl (by omega) (by omega) B3.size ?_
  intro va xa hoa ga
  have B5 := ga.below B3 B3.size (fun b hb => by cases hb)
  rw [Nat.zero_add, List.nil_append] at hoa
  go_wp2_with fail
  refine hK.out _ _ B5 ?_
  clear hK K
  repeat (first
    | (refine wpOrd_take (v := ?_) rfl rfl ?_ ?_ ?_; rotate_left; rfl; (· intro w' hSw; (try dsimp only at hSw); go_simp <;> with_reducible rfl); simp only [Act.put, List.setIfInBounds_toArray, List.set_cons_zero, List.set_cons_succ])
    | (refine wpOrd_skip rfl rfl ?_ ?_; rfl; simp only [Act.put, List.setIfInBounds_toArray, List.set_cons_zero, List.set_cons_succ]))
  refine wpOrd_effS rfl rfl (fun K hK => ?_)
  go_wp2_with fail
  refine (put_c X.heap.size va L.length (by8 L) a hao has _ hoa (by omega) B5.size).mono ?_
  rintro e xb ⟨vb, rfl, hob, gb⟩
  have B6 := gb.below B5 B5.size (fun c hc => (hoa.lt c hc).1)
  have hcv : ∀ w', Below xb.heap.size xb w' → (convert 26 9 vb).run Try.prog w' = .ok (.string (bs (L ++ a.bytes))) w' := fun w' h => own_text (ownsRow_below (by rw [by8_append]; exact hob) h)
  go_wp2_with fail
  refine hK.out (fun w' => Below xb.heap.size xb w') _ _ (fun w' h => B6.trans (h.mono B6.size)) (Below.refl _ _) ?_
  clear hK K
  have c0 := fun w' (hb : Below xb.heap.size xb w') => F0 w' (B6.trans (hb.mono B6.size))
  have c1 := fun w' (hb : Below xb.heap.size xb w') => F1 w' (B6.trans (hb.mono B6.size))
  have c2 := fun w' (hb : Below xb.heap.size xb w') => F2 w' (B6.trans (hb.mono B6.size))
  have c3 := fun w' (hb : Below xb.heap.size xb w') => F3 w' (B6.trans (hb.mono B6.size))
  have c4 := fun w' (hb : Below xb.heap.size xb w') => F4 w' (B6.trans (hb.mono B6.size))
  have c5 := fun w' (hb : Below xb.heap.size xb w') => F5 w' (B6.trans (hb.mono B6.size))
  have c6 := fun w' (hb : Below xb.heap.size xb w') => F6 w' (B6.trans (hb.mono B6.size))
  clear F0 F1 F2 F3 F4 F5 F6
  repeat (first
    | (refine wpOrd_take (v := ?_) rfl rfl ?_ ?_ ?_; rotate_left; rfl; (· intro w' hSw; (try dsimp only at hSw); go_simp <;> with_reducible rfl); simp only [Act.put, List.setIfInBounds_toArray, List.set_cons_zero, List.set_cons_succ])
    | (refine wpOrd_skip rfl rfl ?_ ?_; rfl; simp only [Act.put, List.setIfInBounds_toArray, List.set_cons_zero, List.set_cons_succ]))
  refine wpOrd_eff rfl rfl (fun K hK => ?_)
  go_wp2_with fail
  refine (one_c a hao has _).mono ?_
  rintro e x7 ⟨rfl, d7⟩
  go_wp2_with fail
  refine hK.out _ _ d7 ?_
  clear hK K
  repeat (first
    | (refine wpOrd_take (v := ?_) rfl rfl ?_ ?_ ?_; rotate_left; rfl; (· intro w' hSw; (try dsimp only at hSw); go_simp <;> with_reducible rfl); simp only [Act.put, List.setIfInBounds_toArray, List.set_cons_zero, List.set_cons_succ])
    | (refine wpOrd_skip rfl rfl ?_ ?_; rfl; simp only [Act.put, List.setIfInBounds_toArray, List.set_cons_zero, List.set_cons_succ]))
  refine wpOrd_eff rfl rfl (fun K hK => ?_)
  go_wp2_with fail
  refine (wakes_any _).mono ?_
  rintro e x8 ⟨rfl, d8⟩
  have B8 := d7.trans (d8.mono d7.size)
  go_wp2_with fail
  refine hK.out _ _ B8 ?_
  clear hK K
  repeat (first
    | (refine wpOrd_take (v := ?_) rfl rfl ?_ ?_ ?_; rotate_left; rfl; (· intro w' hSw; (try dsimp only at hSw); go_simp <;> with_reducible rfl); simp only [Act.put, List.setIfInBounds_toArray, List.set_cons_zero, List.set_cons_succ])
    | (refine wpOrd_skip rfl rfl ?_ ?_; rfl; simp only [Act.put, List.setIfInBounds_toArray, List.set_cons_zero, List.set_cons_succ]))
  refine wpOrd_nil ?_
  go_wp2_with fail
  go_ret
  exact ⟨rfl, Below.later' BX (B6.trans (B8.mono B6.size))⟩
set_option maxRecDepth 100000 in
set_option maxHeartbeats 2000000 in
theorem tells_not (v u : Value) (l : List Cm) (a : Cm) (L : List UInt8) (hlo : ∀ x ∈ l, x.ok) (hao : a.ok) (has : a.short) (hgl : greatL l = false) (hga : greatL [a] = false) (hL : ¬ 100 < L.length) (hmay : ¬ a.may) (w : World) (hv : RdT cells w v l) (hu : RdV w u L.length (by8 L)) :
    Calls Try.prog 3 #[v, a.val, u] w fun e w' => e = .returned (.bool true) ∧ Below w.heap.size w w' := by
  have HGL := Lib.hid hgl
  have HGA := Lib.hid hga
  have HLO := Lib.hid hlo
  have HC := Lib.hid (show chk a = 2 from if_neg hmay)
  have HM := Lib.hid (show decide a.may = false from decide_eq_false hmay)
  have d1 : decide (100 < L.length) = false := decide_eq_false hL
  have d1' : decide ((100 : Int) < (L.length : Int)) = false := decide_eq_false (by omega)
  have hbl := bytes_le a has
  have hle : L.length ≤ 100 := by omega
  clear hgl hga hlo hmay hL
  have HV := Lib.hid hv
  have HU := Lib.hid hu
  obtain ⟨p, cap, rfl, _, _, _⟩ := hu
  clear hv
  have k := Blk.new w (.cells #[.int .u8 a.cl, .int .u32 a.sq, .int .u8 a.kd, .string a.key, .string a.old, .string a.new, .int .u8 a.set] 25)
  have b0 := below1 w (.cells #[.int .u8 a.cl, .int .u32 a.sq, .int .u8 a.kd, .string a.key, .string a.old, .string a.new, .int .u8 a.set] 25)
  go_enter Try.func3, Try.ntmps3
  go_wp2_with fail
  obtain ⟨W, hW⟩ : ∃ W, w.alloc (.cells #[.int .u8 a.cl, .int .u32 a.sq, .int .u8 a.kd, .string a.key, .string a.old, .string a.new, .int .u8 a.set] 25) = W := ⟨_, rfl⟩
  rw [hW] at k b0 ⊢
  clear hW
  refine (greatL_any v l W (HV.out.later b0)).mono ?_
  rintro e w1 ⟨rfl, rfl⟩
  rw [HGL.out]
  have k2 := Blk.new W (.cells #[.int .u8 a.cl, .int .u32 a.sq, .int .u8 a.kd, .string a.key, .string a.old, .string a.new, .int .u8 a.set] 25)
  have b2 := below1 W (.cells #[.int .u8 a.cl, .int .u32 a.sq, .int .u8 a.kd, .string a.key, .string a.old, .string a.new, .int .u8 a.set] 25)
  have c0 := k.cell 0
  have c1 := k.cell 1
  have c2 := k.cell 2
  have c3 := k.cell 3
  have c4 := k.cell 4
  have c5 := k.cell 5
  have c6 := k.cell 6
  go_wp2_with fail
  have r1 : RdT cells (W.alloc (.cells #[.int .u8 a.cl, .int .u32 a.sq, .int .u8 a.kd, .string a.key, .string a.old, .string a.new, .int .u8 a.set] 25)) (.slice (some ⟨W.heap.size, 0, none⟩) 1 1) [a] := rdV_block W _ 25 1 1 (by decide)
  obtain ⟨X, hX⟩ : ∃ X, W.alloc (.cells #[.int .u8 a.cl, .int .u32 a.sq, .int .u8 a.kd, .string a.key, .string a.old, .string a.new, .int .u8 a.set] 25) = X := ⟨_, rfl⟩
  rw [hX] at k2 b2 r1 ⊢
  clear hX
  refine (greatL_any _ [a] X r1).mono ?_
  rintro e w1 ⟨rfl, rfl⟩
  rw [HGA.out]
  have tx := rd_text (HU.out.below (b0.trans (b2.mono b0.size)) (Nat.le_refl _)) rfl
  go_wp2_with fail
  refine (batch_c v l HLO.out X ((HV.out.later b0).later b2)).mono ?_
  rintro e Y ⟨rfl, b3⟩
  have BY := Below.later' b0 (b2.trans (b3.mono b2.size))
  have kY := (k.later b2).later b3
  clear tx c0 c1 c2 c3 c4 c5 c6 r1 k2
  go_wp2_with fail
  refine (rbatch_c v l HLO.out Y (HV.out.later BY)).mono ?_
  rintro e X ⟨rfl, b4⟩
  have BX := Below.later' BY b4
  have kX := kY.later b4
  have F := kX.held
  have F0 := fun w' (hb : Below X.heap.size X w') => (kX.later hb).cell 0
  have F1 := fun w' (hb : Below X.heap.size X w') => (kX.later hb).cell 1
  have F2 := fun w' (hb : Below X.heap.size X w') => (kX.later hb).cell 2
  have F3 := fun w' (hb : Below X.heap.size X w') => (kX.later hb).cell 3
  have F4 := fun w' (hb : Below X.heap.size X w') => (kX.later hb).cell 4
  have F5 := fun w' (hb : Below X.heap.size X w') => (kX.later hb).cell 5
  have F6 := fun w' (hb : Below X.heap.size X w') => (kX.later hb).cell 6
  have RU := Lib.hid (fun w' (hb : Below X.heap.size X w') => (HU.out.below BX (Nat.le_refl _)).below hb (Nat.le_refl _))
  go_upto_region 6 with (fail)
  clear k b0 b2 b3 kY BY b4 kX F
  have hcat := bs_append L a.bytes
  have zL := bs_size L
  have zB := bs_size a.bytes
  have q1 : ¬ 9223372036854775807 < L.length + a.bytes.length := by omega
  have q2 : ¬ 9223372036854775807 < (L.length : Int) + (a.bytes.length : Int) := by omega
  have e1 : ((bs (L ++ a.bytes)).toList == (bs (L ++ a.bytes)).toList) = true := beq_self_eq_true _
  have HE := Lib.hid (show ((bs (batchR l).1).toList == (bs (batchR l).1).toList) = true from beq_self_eq_true _)
  obtain ⟨A, E, hAE⟩ : ∃ A E, batchR l = (A, E) := ⟨_, _, rfl⟩
  rw [hAE] at HE ⊢
  dsimp only at HE ⊢
  have e2 := HE.out
  have e3 : ((E : Int) == (E : Int)) = true := by simp
  clear hAE HE
  have B0 : Below X.heap.size X X.drew := Below.drew (Below.refl _ _)
  refine wp_region_ord (fun w' => Below X.heap.size X w') (0 :: 3 :: 1 :: 2 :: 4 :: 5 :: 6 :: 7 :: 8 :: 9 :: 10 :: 11 :: 12 :: 13 :: 14 :: 15 :: 16 :: 18 :: 21 :: 22 :: 17 :: 19 :: 20 :: 23 :: 24 :: 25 :: 26 :: 27 :: 28 :: 29 :: 30 :: 31 :: 32 :: 33 :: 34 :: 35 :: 36 :: 37 :: 38 :: 39 :: 40 :: []) [1, 4, 8, 11, 17, 19, 23, 38] (by kernel_rfl) (by kernel_rfl) (by intro c d v a w h; cases d <;> exact h) B0 ?_
  repeat (first
    | (refine wpOrd_take (v := ?_) rfl rfl ?_ ?_ ?_; rotate_left; rfl; (· intro w' hSw; (try dsimp only at hSw); go_simp <;> with_reducible rfl); simp only [Act.put, List.setIfInBounds_toArray, List.set_cons_zero, List.set_cons_succ])
    | (refine wpOrd_skip rfl rfl ?_ ?_; rfl; simp only [Act.put, List.setIfInBounds_toArray, List.set_cons_zero, List.set_cons_succ]))
  refine wpOrd_eff rfl rfl (fun K hK => ?_)
  go_wp2_with fail
  refine (check_any a hao _).mono ?_
  rintro e x1 ⟨rfl, d1⟩
  rw [HC.out]
  have B1 := B0.trans (d1.mono B0.size)
  go_wp2_with fail
  refine hK.out _ _ B1 ?_
  clear hK K
  repeat (first
    | (refine wpOrd_take (v := ?_) rfl rfl ?_ ?_ ?_; rotate_left; rfl; (· intro w' hSw; (try dsimp only at hSw); go_simp <;> with_reducible rfl); simp only [Act.put, List.setIfInBounds_toArray, List.set_cons_zero, List.set_cons_succ])
    | (refine wpOrd_skip rfl rfl ?_ ?_; rfl; simp only [Act.put, List.setIfInBounds_toArray, List.set_cons_zero, List.set_cons_succ]))
  refine wpOrd_eff rfl rfl (fun K hK => ?_)
  go_wp2_with fail
  refine (may_any a _).mono ?_
  rintro e x2 ⟨rfl, d2⟩
  rw [HM.out]
  have B2 := B1.trans (d2.mono B1.size)
  go_wp2_with fail
  refine hK.out _ _ B2 ?_
  clear hK K
  repeat (first
    | (refine wpOrd_take (v := ?_) rfl rfl ?_ ?_ ?_; rotate_left; rfl; (· intro w' hSw; (try dsimp only at hSw); go_simp <;> with_reducible rfl); simp only [Act.put, List.setIfInBounds_toArray, List.set_cons_zero, List.set_cons_succ])
    | (refine wpOrd_skip rfl rfl ?_ ?_; rfl; simp only [Act.put, List.setIfInBounds_toArray, List.set_cons_zero, List.set_cons_succ]))
  refine wpOrd_eff rfl rfl (fun K hK => ?_)
  go_wp2_with fail
  refine (may_any a _).mono ?_
  rintro e x3 ⟨rfl, d3⟩
  rw [HM.out]
  have B3 := B2.trans (d3.mono B2.size)
  go_wp2_with fail
  refine hK.out _ _ B3 ?_
  clear hK K
  repeat (first
    | (refine wpOrd_take (v := ?_) rfl rfl ?_ ?_ ?_; rotate_left; rfl; (· intro w' hSw; (try dsimp only at hSw); go_simp <;> with_reducible rfl); simp only [Act.put, List.setIfInBounds_toArray, List.set_cons_zero, List.set_cons_succ])
    | (refine wpOrd_skip rfl rfl ?_ ?_; rfl; simp only [Act.put, List.setIfInBounds_toArray, List.set_cons_zero, List.set_cons_succ]))
  refine wpOrd_eff rfl rfl (fun K hK => ?_)
  go_wp2_with fail
  refine (check_any a hao _).mono ?_
  rintro e x4 ⟨rfl, d4⟩
  rw [HC.out]
  have B4 := B3.trans (d4.mono B3.size)
  go_wp2_with fail
  refine hK.out _ _ B4 ?_
  clear hK K
  repeat (first
    | (refine wpOrd_take (v := ?_) rfl rfl ?_ ?_ ?_; rotate_left; rfl; (· intro w' hSw; (try dsimp only at hSw); go_simp <;> with_reducible rfl); simp only [Act.put, List.setIfInBounds_toArray, List.set_cons_zero, List.set_cons_succ])
    | (refine wpOrd_skip rfl rfl ?_ ?_; rfl; simp only [Act.put, List.setIfInBounds_toArray, List.set_cons_zero, List.set_cons_succ]))
  refine wpOrd_eff rfl rfl (fun K hK => ?_)
  refine wpList_unguard rfl ?_
  refine appNg rfl _ _ 26 rfl X.heap.size 5 (.int .u8 0) 1 1 info Try.underlying26 rfl (by decide) _ (.slice none 0 0) 0 [] (own_nil _ _) rfl (.slice p L.length cap) L.length (by8 L) (RU.out _ B4) (by simp [by8_length]) (one_u8 _) rfl (by omega) (by omega) B4.size ?_
  intro va xa hoa ga
  have B5 := ga.below B4 B4.size (fun b hb => by cases hb)
  rw [Nat.zero_add, List.nil_append] at hoa
  go_wp2_with fail
  refine hK.out _ _ B5 ?_
  clear hK K
  repeat (first
    | (refine wpOrd_take (v := ?_) rfl rfl ?_ ?_ ?_; rotate_left; rfl; (· intro w' hSw; (try dsimp only at hSw); go_simp <;> with_reducible rfl); simp only [Act.put, List.setIfInBounds_toArray, List.set_cons_zero, List.set_cons_succ])
    | (refine wpOrd_skip rfl rfl ?_ ?_; rfl; simp only [Act.put, List.setIfInBounds_toArray, List.set_cons_zero, List.set_cons_succ]))
  refine wpOrd_effS rfl rfl (fun K hK => ?_)
  go_wp2_with fail
  refine (put_c X.heap.size va L.length (by8 L) a hao has _ hoa (by omega) B5.size).mono ?_
  rintro e xb ⟨vb, rfl, hob, gb⟩
  have B6 := gb.below B5 B5.size (fun c hc => (hoa.lt c hc).1)
  have hcv : ∀ w', Below xb.heap.size xb w' → (convert 26 9 vb).run Try.prog w' = .ok (.string (bs (L ++ a.bytes))) w' := fun w' h => own_text (ownsRow_below (by rw [by8_append]; exact hob) h)
  go_wp2_with fail
  refine hK.out (fun w' => Below xb.heap.size xb w') _ _ (fun w' h => B6.trans (h.mono B6.size)) (Below.refl _ _) ?_
  clear hK K
  have c0 := fun w' (hb : Below xb.heap.size xb w') => F0 w' (B6.trans (hb.mono B6.size))
  have c1 := fun w' (hb : Below xb.heap.size xb w') => F1 w' (B6.trans (hb.mono B6.size))
  have c2 := fun w' (hb : Below xb.heap.size xb w') => F2 w' (B6.trans (hb.mono B6.size))
  have c3 := fun w' (hb : Below xb.heap.size xb w') => F3 w' (B6.trans (hb.mono B6.size))
  have c4 := fun w' (hb : Below xb.heap.size xb w') => F4 w' (B6.trans (hb.mono B6.size))
  have c5 := fun w' (hb : Below xb.heap.size xb w') => F5 w' (B6.trans (hb.mono B6.size))
  have c6 := fun w' (hb : Below xb.heap.size xb w') => F6 w' (B6.trans (hb.mono B6.size))
  clear F0 F1 F2 F3 F4 F5 F6
  repeat (first
    | (refine wpOrd_take (v := ?_) rfl rfl ?_ ?_ ?_; rotate_left; rfl; (· intro w' hSw; (try dsimp only at hSw); go_simp <;> with_reducible rfl); simp only [Act.put, List.setIfInBounds_toArray, List.set_cons_zero, List.set_cons_succ])
    | (refine wpOrd_skip rfl rfl ?_ ?_; rfl; simp only [Act.put, List.setIfInBounds_toArray, List.set_cons_zero, List.set_cons_succ]))
  refine wpOrd_eff rfl rfl (fun K hK => ?_)
  go_wp2_with fail
  refine (one_c a hao has _).mono ?_
  rintro e x7 ⟨rfl, d7⟩
  go_wp2_with fail
  refine hK.out _ _ d7 ?_
  clear hK K
  repeat (first
    | (refine wpOrd_take (v := ?_) rfl rfl ?_ ?_ ?_; rotate_left; rfl; (· intro w' hSw; (try dsimp only at hSw); go_simp <;> with_reducible rfl); simp only [Act.put, List.setIfInBounds_toArray, List.set_cons_zero, List.set_cons_succ])
    | (refine wpOrd_skip rfl rfl ?_ ?_; rfl; simp only [Act.put, List.setIfInBounds_toArray, List.set_cons_zero, List.set_cons_succ]))
  refine wpOrd_eff rfl rfl (fun K hK => ?_)
  go_wp2_with fail
  refine (wakes_any _).mono ?_
  rintro e x8 ⟨rfl, d8⟩
  have B8 := d7.trans (d8.mono d7.size)
  go_wp2_with fail
  refine hK.out _ _ B8 ?_
  clear hK K
  repeat (first
    | (refine wpOrd_take (v := ?_) rfl rfl ?_ ?_ ?_; rotate_left; rfl; (· intro w' hSw; (try dsimp only at hSw); go_simp <;> with_reducible rfl); simp only [Act.put, List.setIfInBounds_toArray, List.set_cons_zero, List.set_cons_succ])
    | (refine wpOrd_skip rfl rfl ?_ ?_; rfl; simp only [Act.put, List.setIfInBounds_toArray, List.set_cons_zero, List.set_cons_succ]))
  refine wpOrd_nil ?_
  go_wp2_with fail
  go_ret
  exact ⟨rfl, Below.later' BX (B6.trans (B8.mono B6.size))⟩
end Cm
end Go.Proofs.Ytdjddbidhaeekaa
