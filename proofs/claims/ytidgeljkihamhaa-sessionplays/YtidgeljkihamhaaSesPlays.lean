/-
  The walk of SessionPlays.
-/
import Derived.Test.YtidgeljkihamhaaSesPut
import Derived.Test.YtidgeljkihamhaaSesRisesLaw
namespace Go.Proofs.Ytidgeljkihamhaa
open Go.RowKit Go.WideShapes
namespace Ses
open Wire
theorem put12_own {w : World} {b base : Nat} {e : TypeId} {size : Nat} {v : Value} {n : Nat} {xs : List Value} (T : Nat → L) (h : w.ownsRow base e size v n xs) (hne : some b ≠ v.ownBlock) : (put12 w b T).ownsRow base e size v n xs :=
  ownsRow_blkset (ownsRow_blkset (ownsRow_blkset (ownsRow_blkset (ownsRow_blkset (ownsRow_blkset (ownsRow_blkset (ownsRow_blkset (ownsRow_blkset (ownsRow_blkset (ownsRow_blkset (ownsRow_blkset (h) (a := ⟨b, 0, none⟩) hne _) (a := ⟨b, 1, none⟩) hne _) (a := ⟨b, 2, none⟩) hne _) (a := ⟨b, 3, none⟩) hne _) (a := ⟨b, 4, none⟩) hne _) (a := ⟨b, 5, none⟩) hne _) (a := ⟨b, 6, none⟩) hne _) (a := ⟨b, 7, none⟩) hne _) (a := ⟨b, 8, none⟩) hne _) (a := ⟨b, 9, none⟩) hne _) (a := ⟨b, 10, none⟩) hne _) (a := ⟨b, 11, none⟩) hne _
def kept (x : K) : Prop := x.q ≤ 4294967295 ∧ x.code ≤ 255 ∧ x.t.size ≤ 200 ∧ 0 < x.q
theorem tabK_ok (l : List K) (h : ∀ x ∈ l, kept x) : ∀ i < 4, (tabK l i).ok := by
  intro i _
  rcases lastK_mem l i with e | e
  · refine .inl ?_
    unfold tabK; rw [e]; rfl
  · exact .inr (h _ e).2.2.2
set_option maxRecDepth 100000 in
set_option maxHeartbeats 8000000 in
theorem plays_walk (v : Value) (l : List K) (w : World) (hv : RdK w v l) (hg : greatK l = false) :
    Calls Try.prog 4 #[v] w fun e w' => e = .returned (.bool true) ∧ Below w.heap.size w w' := by
  have HV := Lib.hid hv
  obtain ⟨hlen, hts⟩ := great_some l hg
  obtain ⟨⟨p, cap, rfl, _⟩, hok⟩ := hv
  have HOK := Lib.hid hok
  have HTS := Lib.hid hts
  clear hok hts
  go_enter Try.func4, Try.ntmps4
  go_wp2_with fail
  refine (great_any _ l _ HV.out).mono ?_
  rintro e w' ⟨rfl, rfl⟩
  rw [hg]
  go_wp2_with fail
  go_loopw [4, 5] (fun s i wr => ∃ (k : Nat) (M : List K), k ≤ l.length ∧ i = .int .i64 k ∧ M.length ≤ k ∧ (∀ x ∈ M, kept x) ∧ wr.ownsRow (w.heap.size + 1) 34 4 s M.length (M.flatMap keptV) ∧ Blk wr w.heap.size (.cells (tabA (tabK M)) 31) ∧ Below w.heap.size w wr) (fun _ i _ => l.length - (intOf i).toNat)
  case atStart => exact ⟨0, [], Nat.zero_le _, rfl, Nat.le_refl _, by simp, ⟨rfl, .inl ⟨rfl, rfl⟩⟩, Blk.new _ _, below1 _ _⟩
  case round =>
    obtain ⟨k, M, hk, rfl, hMk, hMp, hown, k3, hB⟩ := hrel
    by_cases hlt : k < l.length
    · have hd : decide ((k : Int) < (l.length : Int)) = true := decide_eq_true (by omega)
      obtain ⟨b, off, rfl, g0, g1, g2, g3⟩ := (HV.out.below hB (Nat.le_refl _)).at k hlt
      have hx := HOK.out _ (List.getElem_mem hlt)
      have hx5 := HTS.out _ (List.getElem_mem hlt)
      generalize l[k] = x at g0 g1 g2 g3 hx hx5
      obtain ⟨hx1, hx2, hx3, hx4⟩ := hx
      have HM2 := Lib.hid (keepL_all kept M x hMp (fun h => ⟨hx2, hx3, hx5, h⟩))
      have hM2l := keepL_len M x
      have hTo := tabK_ok M hMp
      have HLK := Lib.hid (fun v w h => rlook_any v M x.c x.q w h)
      have HKP := Lib.hid (fun base v w h1 h2 h3 => rkeep_any base v M x w h1 h2 h3)
      have HAL1 := Lib.hid (fun v w h => alike_any v M w h)
      have HAL2 := Lib.hid (fun v w h => alike_any v (keepL M x) w h)
      have HT2 := keepL_tab M x
      have HPT := Lib.hid (fun base vb n0 xs w h1 h2 h3 => put_any base vb n0 xs (tabK (keepL M x)) (tabK_small _ (fun y hy => ⟨(HM2.out y hy).1, (HM2.out y hy).2.1, (HM2.out y hy).2.2.1⟩)) w h1 h2 h3)
      have HBY := Lib.hid (fun v w h => rbytes_any v (keepL M x) w h (fun y hy => ⟨(HM2.out y hy).1, (HM2.out y hy).2.1, (HM2.out y hy).2.2.1⟩))
      have HLE := tabB_le (tabK (keepL M x)) (tabK_small _ (fun y hy => ⟨(HM2.out y hy).1, (HM2.out y hy).2.1, (HM2.out y hy).2.2.1⟩)) 4
      obtain ⟨T2, hT2⟩ : ∃ T2, tabK (keepL M x) = T2 := ⟨_, rfl⟩
      have HT2' := Lib.hid hT2
      rw [hT2] at HT2 HAL2 HPT HBY HLE
      clear hT2
      obtain ⟨T, hT⟩ : ∃ T, tabK M = T := ⟨_, rfl⟩
      rw [hT] at k3 hTo HLK HAL1 HT2
      clear hT
      obtain ⟨M2, hM2⟩ : ∃ M2, keepL M x = M2 := ⟨_, rfl⟩
      rw [hM2] at HM2 hM2l HKP HAL2 HBY HT2'
      clear hM2
      have HKE := Lib.hid (fun w => keep_any T x.c x.q x.code x.t hx1 hTo w)
      rw [← HT2] at HKE
      have HLO := Lib.hid (fun w => look_any T x.c x.q hx1 hTo w)
      clear HT2
      obtain ⟨ca, tb, wh, hlk⟩ : ∃ a b d, lookT T x.c x.q = (a, b, d) := ⟨_, _, _, rfl⟩
      rw [hlk] at HLO HLK
      clear hlk hTo
      simp only [lookV] at HLO HLK
      unfold tab at HKE HLO HAL1 HAL2 HPT
      obtain ⟨Bz, hBz⟩ : ∃ Bz, tabB T2 4 = Bz := ⟨_, rfl⟩
      rw [hBz] at HPT HBY HLE
      clear hBz
      have hbase : w.heap.size + 1 ≤ wr.heap.size := k3.lt
      have F3 := k3.cell
      simp only [tabA] at F3
      have l3 := k3.lt
      go_wp2_with fail
      clear F3 l3
      have k3a := k3.alloc (.cells (kA x) 34)
      have k6a := Blk.new wr (.cells (kA x) 34)
      have owa := ownsRow_below hown (below1 wr (.cells (kA x) 34))
      have hBa := hB.alloc hB.size (.cells (kA x) 34)
      have zA : (wr.alloc (.cells (kA x) 34)).heap.size = wr.heap.size + 1 := World.size_alloc _ _
      clear k3 hown hB g0 g1 g2 g3
      generalize wr.alloc (.cells (kA x) 34) = wa at *
      refine (HLO.out _).mono ?_
      rintro e wb ⟨rfl, b1⟩
      have k3b := k3a.later b1
      have k6b := k6a.later b1
      have owb := ownsRow_below owa b1
      have hBb := Below.later' hBa b1
      have zB := b1.size
      clear k3a k6a owa hBa b1 HLO
      have F6 := k6b.cell
      simp only [kA] at F6
      have l6 := k6b.lt
      go_wp2_with fail
      clear F6 l6
      have k3c := k3b.alloc (.cells #[.int .u8 ca, .string tb] 25)
      have k6c := k6b.alloc (.cells #[.int .u8 ca, .string tb] 25)
      have k7c := Blk.new wb (.cells #[.int .u8 ca, .string tb] 25)
      have owc := ownsRow_below owb (below1 wb (.cells #[.int .u8 ca, .string tb] 25))
      have hBc := hBb.alloc hBb.size (.cells #[.int .u8 ca, .string tb] 25)
      have zC : (wb.alloc (.cells #[.int .u8 ca, .string tb] 25)).heap.size = wb.heap.size + 1 := World.size_alloc _ _
      clear k3b k6b owb hBb
      generalize wb.alloc (.cells #[.int .u8 ca, .string tb] 25) = wc at *
      refine (HLK.out u4 _ (RdT.owns owc)).mono ?_
      rintro e wd ⟨rfl, b1⟩
      have k3d := k3c.later b1
      have k6d := k6c.later b1
      have k7d := k7c.later b1
      have owd := ownsRow_below owc b1
      have hBd := Below.later' hBc b1
      have zD := b1.size
      clear k3c k6c k7c owc hBc b1 HLK
      have F3 := k3d.cell
      have F6 := k6d.cell
      simp only [tabA, kA] at F3 F6
      have l3 := k3d.lt
      have l6 := k6d.lt
      go_wp2_with fail
      clear F3 F6 l3 l6
      have k3e := k3d.alloc (.cells #[.int .u8 ca, .string tb] 25)
      have k6e := k6d.alloc (.cells #[.int .u8 ca, .string tb] 25)
      have k7e := k7d.alloc (.cells #[.int .u8 ca, .string tb] 25)
      have k9e := Blk.new wd (.cells #[.int .u8 ca, .string tb] 25)
      have owe := ownsRow_below owd (below1 wd (.cells #[.int .u8 ca, .string tb] 25))
      have hBe := hBd.alloc hBd.size (.cells #[.int .u8 ca, .string tb] 25)
      have zE : (wd.alloc (.cells #[.int .u8 ca, .string tb] 25)).heap.size = wd.heap.size + 1 := World.size_alloc _ _
      clear k3d k6d k7d owd hBd
      generalize wd.alloc (.cells #[.int .u8 ca, .string tb] 25) = we at *
      refine (HKE.out _).mono ?_
      rintro e wf ⟨rfl, b1⟩
      have k3f := k3e.later b1
      have k6f := k6e.later b1
      have k7f := k7e.later b1
      have k9f := k9e.later b1
      have owf := ownsRow_below owe b1
      have hBf := Below.later' hBe b1
      have zF := b1.size
      clear k3e k6e k7e k9e owe hBe b1 HKE
      have F6 := k6f.cell
      simp only [kA] at F6
      have l6 := k6f.lt
      go_wp2_with fail
      clear F6 l6
      have k3g := k3f.alloc (.cells (tabA T2) 31)
      have k6g := k6f.alloc (.cells (tabA T2) 31)
      have k7g := k7f.alloc (.cells (tabA T2) 31)
      have k9g := k9f.alloc (.cells (tabA T2) 31)
      have k11g := Blk.new wf (.cells (tabA T2) 31)
      have owg := ownsRow_below owf (below1 wf (.cells (tabA T2) 31))
      have hBg := hBf.alloc hBf.size (.cells (tabA T2) 31)
      have zG : (wf.alloc (.cells (tabA T2) 31)).heap.size = wf.heap.size + 1 := World.size_alloc _ _
      clear k3f k6f k7f k9f owf hBf
      obtain ⟨wg, hwg⟩ : ∃ wg, wf.alloc (.cells (tabA T2) 31) = wg := ⟨_, rfl⟩
      have hwg' : wf.alloc (.cells #[.int .u32 (T2 0).q, .int .u8 (T2 0).c, .string (T2 0).t, .int .u32 (T2 1).q, .int .u8 (T2 1).c, .string (T2 1).t, .int .u32 (T2 2).q, .int .u8 (T2 2).c, .string (T2 2).t, .int .u32 (T2 3).q, .int .u8 (T2 3).c, .string (T2 3).t] 31) = wg := hwg
      rw [hwg] at k3g k6g k7g k9g k11g owg hBg zG
      rw [hwg']
      clear hwg hwg'
      refine (HKP.out (w.heap.size + 1) u4 _ owg (by omega) (by omega)).mono ?_
      rintro e W ⟨v2, rfl, ow2, b1⟩
      have k3 := k3g.later b1
      have k7 := k7g.later b1
      have k9 := k9g.later b1
      have k11 := k11g.later b1
      have ow := ownsRow_below owg b1
      have hBW := Below.later' hBg b1
      have zW := b1.size
      clear k3g k6g k7g k9g k11g owg hBg b1 HKP
      go_wp2_with fail
      go_cut [85] (fun s85 wx => s85 = .bool false ∧ Below W.heap.size W wx)
      case first =>
        simp only [tabA] at k3 k11
        have F3 := k3.held
        have F7 := k7.held
        have F9 := k9.held
        have F11 := k11.held
        have r1 := fun w' (hb : Below W.heap.size W w') => (RdT.owns (enc := keptV) ow : RdT keptV W u4 M).later hb
        have r2 := fun w' (hb : Below W.heap.size W w') => (RdT.owns (enc := keptV) ow2 : RdT keptV W v2 M2).later hb
        have R1 := Lib.hid r1
        have R2 := Lib.hid r2
        clear r1 r2 ow ow2 k3 k7 k9 k11
        have q1 := neq_rep ca tb
        have q2 : ((wh : Int) != (wh : Int)) = false := by simp
        have hBs := bs_size Bz
        have cat : (⟨#[122]⟩ : ByteArray) ++ bs Bz = bs (122 :: Bz) := bs_append [122] Bz
        have hz1 : (⟨#[122]⟩ : ByteArray).size = 1 := rfl
        have q3 : ¬ 9223372036854775807 < 1 + Bz.length := by omega
        have q4 : ((bs (122 :: Bz)).toList == (bs (122 :: Bz)).toList) = true := beq_self_eq_true _
        have q5 : ((bs (122 :: Bz)).toList != (bs (122 :: Bz)).toList) = false := by simp
        have B0 : Below W.heap.size W W.drew := Below.drew (Below.refl _ _)
        refine wp_region_ord (fun w' => Below W.heap.size W w') (0 :: 1 :: 2 :: 3 :: 4 :: 5 :: 6 :: 7 :: 8 :: 9 :: 10 :: 11 :: 12 :: 13 :: 14 :: 15 :: 16 :: 17 :: 18 :: 19 :: 20 :: 21 :: 26 :: 22 :: 23 :: 24 :: 25 :: 27 :: 28 :: 29 :: 30 :: []) [11, 17, 22, 23, 24, 27] (by kernel_rfl) (by kernel_rfl) (by intro c d v a w h; cases d <;> exact h) B0 ?_
        repeat (first
          | (refine wpOrd_take (v := ?_) rfl rfl ?_ ?_ ?_; rotate_left; rfl; (· intro w' hSw; (try dsimp only at hSw); go_simp <;> with_reducible rfl); simp only [Act.put, List.setIfInBounds_toArray, List.set_cons_zero, List.set_cons_succ])
          | (refine wpOrd_skip rfl rfl ?_ ?_; rfl; simp only [Act.put, List.setIfInBounds_toArray, List.set_cons_zero, List.set_cons_succ]))
        refine wpOrd_eff rfl rfl (fun K hK => ?_)
        go_wp2_with fail
        refine (HAL2.out v2 _ (R2.out _ B0)).mono ?_
        rintro e x1 ⟨rfl, b1⟩
        have B1 := B0.trans (b1.mono B0.size)
        go_wp2_with fail
        refine hK.out _ _ B1 ?_
        clear hK K
        repeat (first
          | (refine wpOrd_take (v := ?_) rfl rfl ?_ ?_ ?_; rotate_left; rfl; (· intro w' hSw; (try dsimp only at hSw); go_simp <;> with_reducible rfl); simp only [Act.put, List.setIfInBounds_toArray, List.set_cons_zero, List.set_cons_succ])
          | (refine wpOrd_skip rfl rfl ?_ ?_; rfl; simp only [Act.put, List.setIfInBounds_toArray, List.set_cons_zero, List.set_cons_succ]))
        refine wpOrd_eff rfl rfl (fun K hK => ?_)
        go_wp2_with fail
        refine (HAL1.out u4 _ (R1.out _ B1)).mono ?_
        rintro e x2 ⟨rfl, b2⟩
        have B2 := B1.trans (b2.mono B1.size)
        go_wp2_with fail
        refine hK.out _ _ B2 ?_
        clear hK K
        repeat (first
          | (refine wpOrd_take (v := ?_) rfl rfl ?_ ?_ ?_; rotate_left; rfl; (· intro w' hSw; (try dsimp only at hSw); go_simp <;> with_reducible rfl); simp only [Act.put, List.setIfInBounds_toArray, List.set_cons_zero, List.set_cons_succ])
          | (refine wpOrd_skip rfl rfl ?_ ?_; rfl; simp only [Act.put, List.setIfInBounds_toArray, List.set_cons_zero, List.set_cons_succ]))
        refine wpOrd_eff rfl rfl (fun K hK => ?_)
        refine wpList_unguard rfl ?_
        go_wp2_with fail
        have kc := Lib.run_convert_bytes_const (P := Try.prog) x2 41 5 #[.int .u8 122] 1 1 Try.underlying41 Try.underlying5
        refine hK.out _ _ (B2.alloc B2.size (.cells #[.int .u8 122] 5)) ?_
        clear hK K
        repeat (first
          | (refine wpOrd_take (v := ?_) rfl rfl ?_ ?_ ?_; rotate_left; rfl; (· intro w' hSw; (try dsimp only at hSw); go_simp <;> with_reducible rfl); simp only [Act.put, List.setIfInBounds_toArray, List.set_cons_zero, List.set_cons_succ])
          | (refine wpOrd_skip rfl rfl ?_ ?_; rfl; simp only [Act.put, List.setIfInBounds_toArray, List.set_cons_zero, List.set_cons_succ]))
        refine wpOrd_eff rfl rfl (fun K hK => ?_)
        go_wp2_with fail
        have B3 := B2.alloc B2.size (.cells #[.int .u8 122] 5 (1, 2))
        have kU := Blk.new x2 (.cells #[.int .u8 122] 5 (1, 2))
        obtain ⟨x3, hx3⟩ : ∃ x3, x2.alloc (.cells #[.int .u8 122] 5 (1, 2)) = x3 := ⟨_, rfl⟩
        rw [hx3] at B3 kU
        have hx3' : x2.alloc (.cells #[.int .u8 122] 5 (#[Value.int .u8 122].size, #[Value.int .u8 122].size + 1)) = x3 := hx3
        first | rw [hx3] | rw [hx3']
        clear hx3 hx3' kc
        refine hK.out _ _ B3 ?_
        clear hK K
        repeat (first
          | (refine wpOrd_take (v := ?_) rfl rfl ?_ ?_ ?_; rotate_left; rfl; (· intro w' hSw; (try dsimp only at hSw); go_simp <;> with_reducible rfl); simp only [Act.put, List.setIfInBounds_toArray, List.set_cons_zero, List.set_cons_succ])
          | (refine wpOrd_skip rfl rfl ?_ ?_; rfl; simp only [Act.put, List.setIfInBounds_toArray, List.set_cons_zero, List.set_cons_succ]))
        refine wpOrd_effS rfl rfl (fun K hK => ?_)
        go_wp2_with fail
        refine (HPT.out W.heap.size _ 1 [.int .u8 122] x3 (.inr ⟨_, _, rfl, rfl, rfl, kU.lt, kU.cell 0⟩) (by omega) B3.size).mono ?_
        rintro e x4 ⟨v4, rfl, ho4, g4⟩
        have B4 := g4.below B3 B3.size (fun c hc => by cases hc; exact B2.size)
        have ho4' : x4.ownsRow W.heap.size 5 1 v4 _ (by8 (122 :: Bz)) := ho4
        have hcv : ∀ w', Below x4.heap.size x4 w' → (convert 41 9 v4).run Try.prog w' = .ok (.string (bs (122 :: Bz))) w' := fun w' h => own_text (ownsRow_below ho4' h)
        go_wp2_with fail
        refine hK.out (fun w' => Below x4.heap.size x4 w') _ _ (fun w' h => B4.trans (h.mono B4.size)) (Below.refl _ _) ?_
        clear hK K
        repeat (first
          | (refine wpOrd_take (v := ?_) rfl rfl ?_ ?_ ?_; rotate_left; rfl; (· intro w' hSw; (try dsimp only at hSw); go_simp <;> with_reducible rfl); simp only [Act.put, List.setIfInBounds_toArray, List.set_cons_zero, List.set_cons_succ])
          | (refine wpOrd_skip rfl rfl ?_ ?_; rfl; simp only [Act.put, List.setIfInBounds_toArray, List.set_cons_zero, List.set_cons_succ]))
        refine wpOrd_eff rfl rfl (fun K hK => ?_)
        go_wp2_with fail
        refine (HBY.out v2 _ (R2.out _ B4)).mono ?_
        rintro e x5 ⟨rfl, b5⟩
        have B5 := B4.trans (b5.mono B4.size)
        go_wp2_with fail
        refine hK.out _ _ b5 ?_
        clear hK K
        repeat (first
          | (refine wpOrd_take (v := ?_) rfl rfl ?_ ?_ ?_; rotate_left; rfl; (· intro w' hSw; (try dsimp only at hSw); go_simp <;> with_reducible rfl); simp only [Act.put, List.setIfInBounds_toArray, List.set_cons_zero, List.set_cons_succ])
          | (refine wpOrd_skip rfl rfl ?_ ?_; rfl; simp only [Act.put, List.setIfInBounds_toArray, List.set_cons_zero, List.set_cons_succ]))
        refine wpOrd_nil ?_
        go_wp2_with fail
        go_meet
        exact ⟨rfl, B5⟩
      case rest =>
        obtain ⟨rfl, hBx⟩ := hcut
        have k3x := k3.later hBx
        have k11x := k11.later hBx
        have ow2x := ownsRow_below ow2 hBx
        have hBB := hBW.trans (hBx.mono hBW.size)
        clear k3 k7 k9 k11 ow ow2 hBW hBx
        have k3y : Blk _ w.heap.size (.cells (tabA T2) 31) := put12_blk T2 k3x
        have hne : some w.heap.size ≠ v2.ownBlock := fun e => by have := (ow2x.lt _ e.symm).1; omega
        have ow2y := put12_own T2 ow2x hne
        have hBy := put12_below T2 hBB (Nat.le_refl _)
        have l3 := k3x.lt
        have F3 := k3x.cell
        have G3 := k3x.frozen
        have F11 := k11x.cell
        simp only [tabA] at F3 F11
        clear k3x k11x ow2x hBB
        go_wp2
        go_roundw
        case rel => exact ⟨k + 1, M2, by omega, by go_num, by omega, HM2.out, ow2y, by rw [HT2'.out]; exact k3y, hBy⟩
        case measure => simp [intOf]; omega
    · have hd : decide ((k : Int) < (l.length : Int)) = false := decide_eq_false (by omega)
      have hd' : decide (k < l.length) = false := decide_eq_false (by omega)
      go_wp2_with fail
      refine (wakes_any _).mono ?_
      rintro e w2 ⟨rfl, b2⟩
      go_wp2
      go_ret
      exact ⟨rfl, Below.later' hB b2⟩
theorem plays_other (v : Value) (l : List K) (w : World) (hv : RdK w v l) (hg : greatK l = true) :
    Calls Try.prog 4 #[v] w fun e w' => e = .returned (.bool true) ∧ Below w.heap.size w w' := by
  go_enter Try.func4, Try.ntmps4
  go_wp2_with fail
  refine (great_any _ l _ hv).mono ?_
  rintro e w' ⟨rfl, rfl⟩
  rw [hg]
  go_wp2_with fail
  refine (wakes_any _).mono ?_
  rintro e w2 ⟨rfl, b2⟩
  go_wp2
  go_ret
  exact ⟨rfl, b2⟩
theorem plays_open {H : Type} {enc : TypeId × Value → H} {base : Nat} {d : DataW H} {ps : List MemPlace} (v : Value) (w : World)
    (hok : Value.okWide Try.prog w .any base 22 v) (ht : DataW.Trod enc Try.prog w 0 (fun _ => true) true 22 v d ps) :
    Calls Try.prog 4 #[v] w fun e w' => e = .returned (.bool true) ∧ Below w.heap.size w w' := by
  obtain ⟨l, hl⟩ := open_kept hok ht
  cases hg : greatK l
  · exact plays_walk v l w hl hg
  · exact plays_other v l w hl hg
end Ses
end Go.Proofs.Ytidgeljkihamhaa
