/-
  Seat 07: the law BallotTurns, walked.
-/
import Derived.Test.YteaegdigkdghpaaBalOrder
namespace Go.Proofs.Yteaegdigkdghpaa
open Go.RowKit Go.WideShapes
namespace Bal
theorem infoB : (Try.prog.info? 25).map (fun i => (i.zero, i.size, i.bytes)) = some (some (.agg #[.int .u64 0, .int .u8 0]), 2, 16) := by kernel_rfl
set_option maxRecDepth 100000 in
set_option maxHeartbeats 8000000 in
theorem turns_walk (b : B) (hb : b.ok) (v : Value) (l : List Nat) (n : Nat) (_hn : n < 18446744073709551616) (w : World) (hv : RdB w v l) (hlen : ¬ 60 < l.length) :
    Calls Try.prog 5 #[bv b, v, .int .u64 n] w fun e w' => e = .returned (.bool true) ∧ Below w.heap.size w w' := by
  have HV := Lib.hid hv
  obtain ⟨p, cap, rfl, hl8, _, _⟩ := hv
  have HL8 := Lib.hid hl8
  clear hl8
  have d1 : decide (60 < l.length) = false := decide_eq_false hlen
  have d1' : decide ((60 : Int) < (l.length : Int)) = false := decide_eq_false (by omega)
  go_enter Try.func5, Try.ntmps5
  go_wp2_with fail
  go_loopw [7, 8] (fun t i wr => ∃ (k : Nat) (ts : List B) (c : B), k ≤ l.length ∧ i = .int .i64 k ∧ c.ok ∧ ts.length ≤ k ∧ (∀ x ∈ ts, x = c ∨ lt x c = true) ∧ wr.ownsRow (w.heap.size + 1) 25 2 t ts.length (ts.flatMap bV) ∧ Blk wr w.heap.size (.cells #[.int .u64 c.n, .int .u8 c.r] 25) ∧ Below w.heap.size w wr) (fun _ i _ => l.length - (intOf i).toNat)
  case atStart => exact ⟨0, [], b, Nat.zero_le _, rfl, hb, Nat.le_refl _, by simp, ⟨rfl, .inl ⟨rfl, rfl⟩⟩, Blk.new _ _, below1 _ _⟩
  case round =>
    obtain ⟨k, ts, c, hk, rfl, hc, htl, hts, hown, k3, hB⟩ := hrel
    have HTS := Lib.hid hts
    clear hts
    by_cases hlt : k < l.length
    · have hd : decide ((k : Int) < (l.length : Int)) = true := decide_eq_true (by omega)
      obtain ⟨lb, off, rfl, hcl⟩ : ∃ lb off, p = some ⟨lb, off, none⟩ ∧ ∀ w', Below w.heap.size w w' → w'.cell? ⟨lb, off + k, none⟩ = some (.int .u8 (l.getD k 0 : Nat)) := by
        obtain ⟨p', cap', e, _, _, h, _⟩ := HV.out
        cases e
        obtain ⟨lb, off, e, _⟩ := h k hlt
        subst e
        refine ⟨lb, off, rfl, fun w' hb' => ?_⟩
        obtain ⟨p'', cap'', e, _, _, h, _⟩ := HV.out.below hb' (Nat.le_refl _)
        cases e
        obtain ⟨_, _, e, h⟩ := h k hlt
        cases e; exact h
      have hy8 := HL8.out _ (show l.getD k 0 ∈ l by rw [getD_at l k hlt]; exact List.getElem_mem hlt)
      obtain ⟨y, hy⟩ : ∃ y, l.getD k 0 = y := ⟨_, rfl⟩
      rw [hy] at hcl hy8
      clear hy
      have hxok := turnB_ok c y hc hy8
      have hgood := turn_good c y n
      have hbad := turn_bad c y
      have HT := Lib.hid (fun w => turn_any c hc y w)
      obtain ⟨x, e, hxe⟩ : ∃ x e, turnB c y = (x, e) := ⟨_, _, rfl⟩
      rw [hxe] at hxok hgood hbad HT
      simp only at hxok hgood hbad
      have HG := Lib.hid hgood
      have HBD := Lib.hid hbad
      clear hxe hgood hbad
      have hcell := fun (w' : World) (h : Blk w' w.heap.size (.cells #[.int .u64 c.n, .int .u8 c.r] 25)) => (show w'.cell? ⟨w.heap.size, 0, none⟩ = some (.int .u64 c.n) ∧ w'.cell? ⟨w.heap.size, 1, none⟩ = some (.int .u8 c.r) from ⟨h.cell 0, h.cell 1⟩)
      have HC := Lib.hid hcell
      clear hcell
      have hne3 : u7.ownBlock ≠ some w.heap.size := fun e => by have := (hown.lt _ e).1; omega
      have hownlt : ∀ c, u7.ownBlock = some c → c < wr.heap.size := fun c hc => (hown.lt c hc).2
      have HNE := Lib.hid hne3
      have HLT := Lib.hid hownlt
      clear hne3 hownlt
      go_wp2_with fail
      go_cut [9, 10] (fun s9 s10 wx => ∃ n9, s9 = .pointer (some ⟨n9, 0, none⟩) ∧ s10 = .int .i64 e ∧ w.heap.size < n9 ∧ Blk wx n9 (.cells #[.int .u64 x.n, .int .u8 x.r] 25) ∧ Blk wx w.heap.size (.cells #[.int .u64 c.n, .int .u8 c.r] 25) ∧ wx.ownsRow (w.heap.size + 1) 25 2 u7 ts.length (ts.flatMap bV) ∧ u7.ownBlock ≠ some n9 ∧ Below w.heap.size w wx)
      case first =>
        have l3 := k3.lt
        have zB := hB.size
        refine wp_region_way (fun w' => (w'.cell? ⟨w.heap.size, 0, none⟩ = some (.int .u64 c.n) ∧ w'.cell? ⟨w.heap.size, 1, none⟩ = some (.int .u8 c.r)) ∧ Below w.heap.size w w') (.go 0 (.go 1 (.go 2 (.go 3 (.go 4 (.two 5 9 (.go 6 (.go 7 (.go 8 (.go 9 (.go 10 (.go 11 .nil)))))) (.go 5 (.go 6 (.go 7 (.go 8 (.go 10 (.go 11 .nil)))))))))))) [5, 9, 10] (by kernel_rfl) (by kernel_rfl) (by intro c d v a w h; cases d <;> exact h) ⟨HC.out _ k3.drew, hB.drew⟩ ?_
        repeat (first
          | (refine wpWay_take (v := ?_) rfl rfl ?_ ?_ ?_; rotate_left; rfl; (· intro w' hSw; (try dsimp only at hSw); go_simp <;> with_reducible rfl); simp only [Act.put, List.setIfInBounds_toArray, List.set_cons_zero, List.set_cons_succ])
          | (refine wpWay_skip rfl rfl ?_ ?_; rfl; simp only [Act.put, List.setIfInBounds_toArray, List.set_cons_zero, List.set_cons_succ]))
        refine wpWay_two rfl rfl (fun K hK => ?_) (fun K hK => ?_)
        · go_wp2_with fail
          refine (HT.out _).mono ?_
          rintro e wa ⟨rfl, ba⟩
          have k3a := k3.drew.later ba
          have hBa := Below.later' hB.drew ba
          have hoa := ownsRow_below hown (undrew ba)
          have za := ba.size
          go_wp2_with fail
          refine hK.out _ _ ⟨HC.out _ k3a, hBa⟩ ?_
          clear hK K
          repeat (first
            | (refine wpWay_take (v := ?_) rfl rfl ?_ ?_ ?_; rotate_left; rfl; (· intro w' hSw; (try dsimp only at hSw); go_simp <;> with_reducible rfl); simp only [Act.put, List.setIfInBounds_toArray, List.set_cons_zero, List.set_cons_succ])
            | (refine wpWay_skip rfl rfl ?_ ?_; rfl; simp only [Act.put, List.setIfInBounds_toArray, List.set_cons_zero, List.set_cons_succ]))
          refine wpWay_eff rfl rfl (fun K hK => ?_)
          go_wp2_with fail
          refine hK.out _ _ ⟨HC.out _ (k3a.alloc _), hBa.alloc hBa.size _⟩ ?_
          clear hK K
          repeat (first
            | (refine wpWay_take (v := ?_) rfl rfl ?_ ?_ ?_; rotate_left; rfl; (· intro w' hSw; (try dsimp only at hSw); go_simp <;> with_reducible rfl); simp only [Act.put, List.setIfInBounds_toArray, List.set_cons_zero, List.set_cons_succ])
            | (refine wpWay_skip rfl rfl ?_ ?_; rfl; simp only [Act.put, List.setIfInBounds_toArray, List.set_cons_zero, List.set_cons_succ]))
          refine wpWay_eff rfl rfl (fun K hK => ?_)
          go_wp2_with fail
          refine hK.out _ _ ⟨HC.out _ (k3a.alloc _), hBa.alloc hBa.size _⟩ ?_
          clear hK K
          repeat (first
            | (refine wpWay_take (v := ?_) rfl rfl ?_ ?_ ?_; rotate_left; rfl; (· intro w' hSw; (try dsimp only at hSw); go_simp <;> with_reducible rfl); simp only [Act.put, List.setIfInBounds_toArray, List.set_cons_zero, List.set_cons_succ])
            | (refine wpWay_skip rfl rfl ?_ ?_; rfl; simp only [Act.put, List.setIfInBounds_toArray, List.set_cons_zero, List.set_cons_succ]))
          refine wpWay_nil ?_
          go_wp2_with fail
          go_meet
          exact ⟨wa.heap.size, rfl, rfl, k3a.lt, Blk.new _ _, k3a.alloc _, ownsRow_below hoa (below1 _ _), fun e => by have := HLT.out _ e; simp at za; omega, hBa.alloc hBa.size _⟩
        · go_wp2_with fail
          refine hK.out _ _ ⟨HC.out _ (k3.alloc _).drew, (hB.alloc hB.size _).drew⟩ ?_
          clear hK K
          repeat (first
            | (refine wpWay_take (v := ?_) rfl rfl ?_ ?_ ?_; rotate_left; rfl; (· intro w' hSw; (try dsimp only at hSw); go_simp <;> with_reducible rfl); simp only [Act.put, List.setIfInBounds_toArray, List.set_cons_zero, List.set_cons_succ])
            | (refine wpWay_skip rfl rfl ?_ ?_; rfl; simp only [Act.put, List.setIfInBounds_toArray, List.set_cons_zero, List.set_cons_succ]))
          refine wpWay_eff rfl rfl (fun K hK => ?_)
          go_wp2_with fail
          refine (HT.out _).mono ?_
          rintro e wa ⟨rfl, ba⟩
          have k3a := (k3.alloc (.cells #[.int .u64 0, .int .u8 0] 25)).drew.later ba
          have kN := Blk.later (b := wr.heap.size) (Blk.drew (Blk.new wr (.cells #[.int .u64 0, .int .u8 0] 25))) ba
          have hBa := Below.later' (hB.alloc hB.size (.cells #[.int .u64 0, .int .u8 0] 25)).drew ba
          have hoa := ownsRow_below (ownsRow_below hown (below1 wr (.cells #[.int .u64 0, .int .u8 0] 25))) (undrew ba)
          go_wp2_with fail
          refine hK.out _ _ ⟨HC.out _ k3a, hBa⟩ ?_
          clear hK K
          repeat (first
            | (refine wpWay_take (v := ?_) rfl rfl ?_ ?_ ?_; rotate_left; rfl; (· intro w' hSw; (try dsimp only at hSw); go_simp <;> with_reducible rfl); simp only [Act.put, List.setIfInBounds_toArray, List.set_cons_zero, List.set_cons_succ])
            | (refine wpWay_skip rfl rfl ?_ ?_; rfl; simp only [Act.put, List.setIfInBounds_toArray, List.set_cons_zero, List.set_cons_succ]))
          refine wpWay_eff rfl rfl (fun K hK => ?_)
          have q0 : wa.cell? ⟨wr.heap.size, 0, none⟩ = some (.int .u64 0) := kN.cell 0
          have q1 : wa.cell? ⟨wr.heap.size, 1, none⟩ = some (.int .u8 0) := kN.cell 1
          have f0 := kN.frozen 0
          have f1 := kN.frozen 1
          have lN := kN.lt
          go_wp2_with fail
          have k3b := (k3a.other (a := ⟨wr.heap.size, 0, none⟩) (by simp; omega) (.int .u64 x.n)).other (a := ⟨wr.heap.size, 1, none⟩) (by simp; omega) (.int .u8 x.r)
          have hBb := (hBa.setCell (p := ⟨wr.heap.size, 0, none⟩) zB (.int .u64 x.n)).setCell (p := ⟨wr.heap.size, 1, none⟩) zB (.int .u8 x.r)
          have hneN : some wr.heap.size ≠ u7.ownBlock := fun e => by have := HLT.out _ e.symm; omega
          refine hK.out _ _ ⟨HC.out _ k3b, hBb⟩ ?_
          clear hK K
          repeat (first
            | (refine wpWay_take (v := ?_) rfl rfl ?_ ?_ ?_; rotate_left; rfl; (· intro w' hSw; (try dsimp only at hSw); go_simp <;> with_reducible rfl); simp only [Act.put, List.setIfInBounds_toArray, List.set_cons_zero, List.set_cons_succ])
            | (refine wpWay_skip rfl rfl ?_ ?_; rfl; simp only [Act.put, List.setIfInBounds_toArray, List.set_cons_zero, List.set_cons_succ]))
          refine wpWay_nil ?_
          go_wp2_with fail
          go_meet
          exact ⟨wr.heap.size, rfl, rfl, l3, Blk.set (Blk.set kN 0 _) 1 _, k3b, ownsRow_blkset (ownsRow_blkset hoa (a := ⟨wr.heap.size, 0, none⟩) hneN _) (a := ⟨wr.heap.size, 1, none⟩) hneN _, hneN.symm, hBb⟩
      case rest =>
      obtain ⟨n9, rfl, rfl, h9, k9, k3', hown', hne9, hB'⟩ := hcut
      clear k3 hown hB
      by_cases he : e = 0
      · subst he
        obtain ⟨g1, g2, g3, g4⟩ := HG.out rfl
        clear HG HBD HT
        have t0 : ((x.r : Int) != (y : Int)) = false := by rw [g1]; simp
        have hchx : chkB x = 0 := by unfold chkB; rw [if_pos g3]
        have HCX := Lib.hid hchx
        have HG2 := Lib.hid g2
        have HG4 := Lib.hid g4
        clear g1 g3 g4 hchx g2
        obtain ⟨pb, capb, hvb, _⟩ := RdV.owns hown'
        rw [hvb]
        go_wp2_with fail
        refine (of_any n y _).mono ?_
        rintro e x1 ⟨rfl, b_x1⟩
        have k9a := (k9.later b_x1).alloc (.cells #[.int .u64 n, .int .u8 y] 25)
        have k3a := (k3'.later b_x1).alloc (.cells #[.int .u64 n, .int .u8 y] 25)
        have kLa := Blk.new x1 (.cells #[.int .u64 n, .int .u8 y] 25)
        have hoA := ownsRow_below (ownsRow_below hown' b_x1) (below1 x1 (.cells #[.int .u64 n, .int .u8 y] 25))
        have hB1 := Below.later' hB' b_x1
        have hBa := hB1.alloc hB1.size (.cells #[.int .u64 n, .int .u8 y] 25)
        clear k9 k3' hown' hB' hB1 b_x1
        go_upto_region 12 with (fail)
        generalize x1.alloc (.cells #[.int .u64 n, .int .u8 y] 25) = W at *
        obtain ⟨n11, hn11⟩ : ∃ n11, x1.heap.size = n11 := ⟨_, rfl⟩
        rw [hn11] at kLa ⊢
        clear hn11
        have zW := hBa.size
        have a0 := fun w' (hb : Below W.heap.size W w') => (k3a.later hb).cell 0
        have a1 := fun w' (hb : Below W.heap.size W w') => (k3a.later hb).cell 1
        have x0 := fun w' (hb : Below W.heap.size W w') => (k9a.later hb).cell 0
        have x1' := fun w' (hb : Below W.heap.size W w') => (k9a.later hb).cell 1
        have q0 := fun w' (hb : Below W.heap.size W w') => (kLa.later hb).cell 0
        have q1 := fun w' (hb : Below W.heap.size W w') => (kLa.later hb).cell 1
        have hcl' := fun w' (hb : Below W.heap.size W w') => hcl w' (hBa.trans (hb.mono zW))
        have B0 : Below W.heap.size W W.drew := Below.drew (Below.refl _ _)
        go_cut [95] (fun s95 wx => s95 = .bool false ∧ Below W.heap.size W wx)
        case first =>
          clear hcl
          cases hml : mayB ⟨n, y⟩
          · have HCL := Lib.hid (show chkB ⟨n, y⟩ = 2 by unfold chkB; rw [if_neg (by simp [hml])])
            clear hml
            refine wp_region_ord (fun w' => Below W.heap.size W w') (0 :: 1 :: 2 :: 3 :: 4 :: 5 :: 6 :: 7 :: 8 :: 9 :: 10 :: 11 :: 12 :: 13 :: 14 :: 15 :: 16 :: 17 :: 18 :: 19 :: 20 :: 21 :: 22 :: 23 :: 24 :: 25 :: 26 :: 27 :: 28 :: 29 :: 30 :: 31 :: 32 :: []) [10, 15, 20] (by kernel_rfl) (by kernel_rfl) (by intro c d v a w h; cases d <;> exact h) B0 ?_
            repeat (first
              | (refine wpOrd_take (v := ?_) rfl rfl ?_ ?_ ?_; rotate_left; rfl; (· intro w' hSw; (try dsimp only at hSw); go_simp <;> with_reducible rfl); simp only [Act.put, List.setIfInBounds_toArray, List.set_cons_zero, List.set_cons_succ])
              | (refine wpOrd_skip rfl rfl ?_ ?_; rfl; simp only [Act.put, List.setIfInBounds_toArray, List.set_cons_zero, List.set_cons_succ]))
            refine wpOrd_eff rfl rfl (fun K hK => ?_)
            go_wp2_with fail
            refine (below_any c x _).mono ?_
            rintro e z1 ⟨rfl, b_z1⟩
            rw [HG2.out]
            have B_z1 := B0.trans (b_z1.mono B0.size)
            go_wp2_with fail
            refine hK.out _ _ B_z1 ?_
            clear hK K
            repeat (first
              | (refine wpOrd_take (v := ?_) rfl rfl ?_ ?_ ?_; rotate_left; rfl; (· intro w' hSw; (try dsimp only at hSw); go_simp <;> with_reducible rfl); simp only [Act.put, List.setIfInBounds_toArray, List.set_cons_zero, List.set_cons_succ])
              | (refine wpOrd_skip rfl rfl ?_ ?_; rfl; simp only [Act.put, List.setIfInBounds_toArray, List.set_cons_zero, List.set_cons_succ]))
            refine wpOrd_eff rfl rfl (fun K hK => ?_)
            go_wp2_with fail
            refine (check_any x _).mono ?_
            rintro e z2 ⟨rfl, b_z2⟩
            rw [HCX.out]
            have B_z2 := B_z1.trans (b_z2.mono B_z1.size)
            go_wp2_with fail
            refine hK.out _ _ B_z2 ?_
            clear hK K
            repeat (first
              | (refine wpOrd_take (v := ?_) rfl rfl ?_ ?_ ?_; rotate_left; rfl; (· intro w' hSw; (try dsimp only at hSw); go_simp <;> with_reducible rfl); simp only [Act.put, List.setIfInBounds_toArray, List.set_cons_zero, List.set_cons_succ])
              | (refine wpOrd_skip rfl rfl ?_ ?_; rfl; simp only [Act.put, List.setIfInBounds_toArray, List.set_cons_zero, List.set_cons_succ]))
            refine wpOrd_eff rfl rfl (fun K hK => ?_)
            go_wp2_with fail
            refine (check_any ⟨n, y⟩ _).mono ?_
            rintro e z3 ⟨rfl, b_z3⟩
            rw [HCL.out]
            have B_z3 := B_z2.trans (b_z3.mono B_z2.size)
            go_wp2_with fail
            refine hK.out _ _ B_z3 ?_
            clear hK K
            repeat (first
              | (refine wpOrd_take (v := ?_) rfl rfl ?_ ?_ ?_; rotate_left; rfl; (· intro w' hSw; (try dsimp only at hSw); go_simp <;> with_reducible rfl); simp only [Act.put, List.setIfInBounds_toArray, List.set_cons_zero, List.set_cons_succ])
              | (refine wpOrd_skip rfl rfl ?_ ?_; rfl; simp only [Act.put, List.setIfInBounds_toArray, List.set_cons_zero, List.set_cons_succ]))
            refine wpOrd_nil ?_
            go_wp2_with fail
            go_meet
            exact ⟨rfl, B_z3⟩
          · have HCL := Lib.hid (show chkB ⟨n, y⟩ = 0 by unfold chkB; rw [if_pos hml])
            cases hp : lt c ⟨n, y⟩
            · have HP := Lib.hid hp
              clear hml hp
              refine wp_region_ord (fun w' => Below W.heap.size W w') (0 :: 1 :: 2 :: 3 :: 4 :: 5 :: 6 :: 7 :: 8 :: 9 :: 10 :: 11 :: 12 :: 13 :: 14 :: 15 :: 16 :: 17 :: 18 :: 19 :: 20 :: 21 :: 22 :: 23 :: 24 :: 25 :: 26 :: 27 :: 28 :: 29 :: 30 :: 31 :: 32 :: []) [10, 15, 20, 25] (by kernel_rfl) (by kernel_rfl) (by intro c d v a w h; cases d <;> exact h) B0 ?_
              repeat (first
                | (refine wpOrd_take (v := ?_) rfl rfl ?_ ?_ ?_; rotate_left; rfl; (· intro w' hSw; (try dsimp only at hSw); go_simp <;> with_reducible rfl); simp only [Act.put, List.setIfInBounds_toArray, List.set_cons_zero, List.set_cons_succ])
                | (refine wpOrd_skip rfl rfl ?_ ?_; rfl; simp only [Act.put, List.setIfInBounds_toArray, List.set_cons_zero, List.set_cons_succ]))
              refine wpOrd_eff rfl rfl (fun K hK => ?_)
              go_wp2_with fail
              refine (below_any c x _).mono ?_
              rintro e z1 ⟨rfl, b_z1⟩
              rw [HG2.out]
              have B_z1 := B0.trans (b_z1.mono B0.size)
              go_wp2_with fail
              refine hK.out _ _ B_z1 ?_
              clear hK K
              repeat (first
                | (refine wpOrd_take (v := ?_) rfl rfl ?_ ?_ ?_; rotate_left; rfl; (· intro w' hSw; (try dsimp only at hSw); go_simp <;> with_reducible rfl); simp only [Act.put, List.setIfInBounds_toArray, List.set_cons_zero, List.set_cons_succ])
                | (refine wpOrd_skip rfl rfl ?_ ?_; rfl; simp only [Act.put, List.setIfInBounds_toArray, List.set_cons_zero, List.set_cons_succ]))
              refine wpOrd_eff rfl rfl (fun K hK => ?_)
              go_wp2_with fail
              refine (check_any x _).mono ?_
              rintro e z2 ⟨rfl, b_z2⟩
              rw [HCX.out]
              have B_z2 := B_z1.trans (b_z2.mono B_z1.size)
              go_wp2_with fail
              refine hK.out _ _ B_z2 ?_
              clear hK K
              repeat (first
                | (refine wpOrd_take (v := ?_) rfl rfl ?_ ?_ ?_; rotate_left; rfl; (· intro w' hSw; (try dsimp only at hSw); go_simp <;> with_reducible rfl); simp only [Act.put, List.setIfInBounds_toArray, List.set_cons_zero, List.set_cons_succ])
                | (refine wpOrd_skip rfl rfl ?_ ?_; rfl; simp only [Act.put, List.setIfInBounds_toArray, List.set_cons_zero, List.set_cons_succ]))
              refine wpOrd_eff rfl rfl (fun K hK => ?_)
              go_wp2_with fail
              refine (check_any ⟨n, y⟩ _).mono ?_
              rintro e z3 ⟨rfl, b_z3⟩
              rw [HCL.out]
              have B_z3 := B_z2.trans (b_z3.mono B_z2.size)
              go_wp2_with fail
              refine hK.out _ _ B_z3 ?_
              clear hK K
              repeat (first
                | (refine wpOrd_take (v := ?_) rfl rfl ?_ ?_ ?_; rotate_left; rfl; (· intro w' hSw; (try dsimp only at hSw); go_simp <;> with_reducible rfl); simp only [Act.put, List.setIfInBounds_toArray, List.set_cons_zero, List.set_cons_succ])
                | (refine wpOrd_skip rfl rfl ?_ ?_; rfl; simp only [Act.put, List.setIfInBounds_toArray, List.set_cons_zero, List.set_cons_succ]))
              refine wpOrd_eff rfl rfl (fun K hK => ?_)
              go_wp2_with fail
              refine (below_any c ⟨n, y⟩ _).mono ?_
              rintro e z4 ⟨rfl, b_z4⟩
              rw [HP.out]
              have B_z4 := B_z3.trans (b_z4.mono B_z3.size)
              go_wp2_with fail
              refine hK.out _ _ B_z4 ?_
              clear hK K
              repeat (first
                | (refine wpOrd_take (v := ?_) rfl rfl ?_ ?_ ?_; rotate_left; rfl; (· intro w' hSw; (try dsimp only at hSw); go_simp <;> with_reducible rfl); simp only [Act.put, List.setIfInBounds_toArray, List.set_cons_zero, List.set_cons_succ])
                | (refine wpOrd_skip rfl rfl ?_ ?_; rfl; simp only [Act.put, List.setIfInBounds_toArray, List.set_cons_zero, List.set_cons_succ]))
              refine wpOrd_nil ?_
              go_wp2_with fail
              go_meet
              exact ⟨rfl, B_z4⟩
            · have HP := Lib.hid hp
              have HP2 := Lib.hid (show lt ⟨n, y⟩ x = false by cases hq : lt ⟨n, y⟩ x; rfl; exact absurd ⟨hml, hp, hq⟩ HG4.out)
              clear hml hp
              refine wp_region_ord (fun w' => Below W.heap.size W w') (0 :: 1 :: 2 :: 3 :: 4 :: 5 :: 6 :: 7 :: 8 :: 9 :: 10 :: 11 :: 12 :: 13 :: 14 :: 15 :: 16 :: 17 :: 18 :: 19 :: 20 :: 21 :: 22 :: 23 :: 24 :: 25 :: 26 :: 27 :: 28 :: 29 :: 30 :: 31 :: 32 :: []) [10, 15, 20, 25, 30] (by kernel_rfl) (by kernel_rfl) (by intro c d v a w h; cases d <;> exact h) B0 ?_
              repeat (first
                | (refine wpOrd_take (v := ?_) rfl rfl ?_ ?_ ?_; rotate_left; rfl; (· intro w' hSw; (try dsimp only at hSw); go_simp <;> with_reducible rfl); simp only [Act.put, List.setIfInBounds_toArray, List.set_cons_zero, List.set_cons_succ])
                | (refine wpOrd_skip rfl rfl ?_ ?_; rfl; simp only [Act.put, List.setIfInBounds_toArray, List.set_cons_zero, List.set_cons_succ]))
              refine wpOrd_eff rfl rfl (fun K hK => ?_)
              go_wp2_with fail
              refine (below_any c x _).mono ?_
              rintro e z1 ⟨rfl, b_z1⟩
              rw [HG2.out]
              have B_z1 := B0.trans (b_z1.mono B0.size)
              go_wp2_with fail
              refine hK.out _ _ B_z1 ?_
              clear hK K
              repeat (first
                | (refine wpOrd_take (v := ?_) rfl rfl ?_ ?_ ?_; rotate_left; rfl; (· intro w' hSw; (try dsimp only at hSw); go_simp <;> with_reducible rfl); simp only [Act.put, List.setIfInBounds_toArray, List.set_cons_zero, List.set_cons_succ])
                | (refine wpOrd_skip rfl rfl ?_ ?_; rfl; simp only [Act.put, List.setIfInBounds_toArray, List.set_cons_zero, List.set_cons_succ]))
              refine wpOrd_eff rfl rfl (fun K hK => ?_)
              go_wp2_with fail
              refine (check_any x _).mono ?_
              rintro e z2 ⟨rfl, b_z2⟩
              rw [HCX.out]
              have B_z2 := B_z1.trans (b_z2.mono B_z1.size)
              go_wp2_with fail
              refine hK.out _ _ B_z2 ?_
              clear hK K
              repeat (first
                | (refine wpOrd_take (v := ?_) rfl rfl ?_ ?_ ?_; rotate_left; rfl; (· intro w' hSw; (try dsimp only at hSw); go_simp <;> with_reducible rfl); simp only [Act.put, List.setIfInBounds_toArray, List.set_cons_zero, List.set_cons_succ])
                | (refine wpOrd_skip rfl rfl ?_ ?_; rfl; simp only [Act.put, List.setIfInBounds_toArray, List.set_cons_zero, List.set_cons_succ]))
              refine wpOrd_eff rfl rfl (fun K hK => ?_)
              go_wp2_with fail
              refine (check_any ⟨n, y⟩ _).mono ?_
              rintro e z3 ⟨rfl, b_z3⟩
              rw [HCL.out]
              have B_z3 := B_z2.trans (b_z3.mono B_z2.size)
              go_wp2_with fail
              refine hK.out _ _ B_z3 ?_
              clear hK K
              repeat (first
                | (refine wpOrd_take (v := ?_) rfl rfl ?_ ?_ ?_; rotate_left; rfl; (· intro w' hSw; (try dsimp only at hSw); go_simp <;> with_reducible rfl); simp only [Act.put, List.setIfInBounds_toArray, List.set_cons_zero, List.set_cons_succ])
                | (refine wpOrd_skip rfl rfl ?_ ?_; rfl; simp only [Act.put, List.setIfInBounds_toArray, List.set_cons_zero, List.set_cons_succ]))
              refine wpOrd_eff rfl rfl (fun K hK => ?_)
              go_wp2_with fail
              refine (below_any c ⟨n, y⟩ _).mono ?_
              rintro e z4 ⟨rfl, b_z4⟩
              rw [HP.out]
              have B_z4 := B_z3.trans (b_z4.mono B_z3.size)
              go_wp2_with fail
              refine hK.out _ _ B_z4 ?_
              clear hK K
              repeat (first
                | (refine wpOrd_take (v := ?_) rfl rfl ?_ ?_ ?_; rotate_left; rfl; (· intro w' hSw; (try dsimp only at hSw); go_simp <;> with_reducible rfl); simp only [Act.put, List.setIfInBounds_toArray, List.set_cons_zero, List.set_cons_succ])
                | (refine wpOrd_skip rfl rfl ?_ ?_; rfl; simp only [Act.put, List.setIfInBounds_toArray, List.set_cons_zero, List.set_cons_succ]))
              refine wpOrd_eff rfl rfl (fun K hK => ?_)
              go_wp2_with fail
              refine (below_any ⟨n, y⟩ x _).mono ?_
              rintro e z5 ⟨rfl, b_z5⟩
              rw [HP2.out]
              have B_z5 := B_z4.trans (b_z5.mono B_z4.size)
              go_wp2_with fail
              refine hK.out _ _ B_z5 ?_
              clear hK K
              repeat (first
                | (refine wpOrd_take (v := ?_) rfl rfl ?_ ?_ ?_; rotate_left; rfl; (· intro w' hSw; (try dsimp only at hSw); go_simp <;> with_reducible rfl); simp only [Act.put, List.setIfInBounds_toArray, List.set_cons_zero, List.set_cons_succ])
                | (refine wpOrd_skip rfl rfl ?_ ?_; rfl; simp only [Act.put, List.setIfInBounds_toArray, List.set_cons_zero, List.set_cons_succ]))
              refine wpOrd_nil ?_
              go_wp2_with fail
              go_meet
              exact ⟨rfl, B_z5⟩
        case rest =>
        obtain ⟨rfl, Bc⟩ := hcut
        have k9b := k9a.later Bc
        have k3b := k3a.later Bc
        have hoB := ownsRow_below hoA Bc
        have hBb := hBa.trans (Bc.mono zW)
        clear a0 a1 x0 x1' q0 q1 hcl' B0 kLa k9a k3a hoA hBa Bc hcl
        have hrd : RdT bV wc (.slice pb ts.length capb) ts := by rw [← hvb]; exact RdT.owns hoB
        have HRD := Lib.hid hrd
        have HTS2 := Lib.hid (show ∀ t ∈ ts, lt t x = true from fun t ht => by
          rcases HTS.out t ht with e | e
          · rw [e]; exact HG2.out
          · exact lt_trans e HG2.out)
        clear hrd
        go_wp2_with fail
        go_loopw [12] (fun i wr => ∃ k2 : Nat, k2 ≤ ts.length ∧ i = .int .i64 k2 ∧ Below wc.heap.size wc wr) (fun i _ => ts.length - (intOf i).toNat)
        case atStart => exact ⟨0, Nat.zero_le _, rfl, Below.refl _ _⟩
        case round =>
          obtain ⟨k2, hk2, rfl, BI⟩ := hrel
          by_cases hl2 : k2 < ts.length
          · have hd2 : decide ((k2 : Int) < (ts.length : Int)) = true := decide_eq_true (by omega)
            obtain ⟨tb, toff, rfl, _⟩ := HRD.out.at 2 (by decide) bV_len k2 hl2
            have gt : ∀ w', Below wc.heap.size wc w' → ∀ j, j < 2 → w'.cell? ⟨tb, toff + k2 * 2 + j, none⟩ = (bV ts[k2])[j]? := fun w' hb' => by
              obtain ⟨b', off', e, h⟩ := (HRD.out.below hb' (Nat.le_refl _)).at 2 (by decide) bV_len k2 hl2
              cases e; exact h
            have hts2 := HTS2.out ts[k2] (List.getElem_mem hl2)
            generalize ts[k2] = t at gt hts2
            have g0 := fun w' hb' => gt w' hb' 0 (by decide)
            have g1 := fun w' hb' => gt w' hb' 1 (by decide)
            simp only [bV, Nat.add_zero] at g0 g1
            have x0 := fun w' (hb : Below wc.heap.size wc w') => (k9b.later hb).cell 0
            have x1' := fun w' (hb : Below wc.heap.size wc w') => (k9b.later hb).cell 1
            have q := fun w => eql_bal t.n t.r x.n x.r false (eql_no (fun e => by rw [e, lt_irrefl] at hts2; cases hts2)) w
            have HLT2 := Lib.hid hts2
            clear gt hts2
            go_wp2_with fail
            have B0 : Below wc.heap.size wc wr.drew := BI.drew
            refine wp_region_ord (fun w' => Below wc.heap.size wc w') (0 :: 1 :: 2 :: 3 :: 4 :: 5 :: 6 :: 7 :: 8 :: 9 :: 10 :: 11 :: 12 :: 13 :: 14 :: []) [12] (by kernel_rfl) (by kernel_rfl) (by intro c d v a w h; cases d <;> exact h) B0 ?_
            repeat (first
              | (refine wpOrd_take (v := ?_) rfl rfl ?_ ?_ ?_; rotate_left; rfl; (· intro w' hSw; (try dsimp only at hSw); go_simp <;> with_reducible rfl); simp only [Act.put, List.setIfInBounds_toArray, List.set_cons_zero, List.set_cons_succ])
              | (refine wpOrd_skip rfl rfl ?_ ?_; rfl; simp only [Act.put, List.setIfInBounds_toArray, List.set_cons_zero, List.set_cons_succ]))
            refine wpOrd_eff rfl rfl (fun K hK => ?_)
            go_wp2_with fail
            refine (below_any t x _).mono ?_
            rintro e z1 ⟨rfl, b_z1⟩
            rw [HLT2.out]
            have B_z1 := B0.trans (b_z1.mono B0.size)
            go_wp2_with fail
            refine hK.out _ _ B_z1 ?_
            clear hK K
            repeat (first
              | (refine wpOrd_take (v := ?_) rfl rfl ?_ ?_ ?_; rotate_left; rfl; (· intro w' hSw; (try dsimp only at hSw); go_simp <;> with_reducible rfl); simp only [Act.put, List.setIfInBounds_toArray, List.set_cons_zero, List.set_cons_succ])
              | (refine wpOrd_skip rfl rfl ?_ ?_; rfl; simp only [Act.put, List.setIfInBounds_toArray, List.set_cons_zero, List.set_cons_succ]))
            refine wpOrd_nil ?_
            go_wp2
            go_roundw
            case rel => exact ⟨k2 + 1, by omega, by go_num, B_z1⟩
            case measure => simp [intOf]; omega
          · have hd2 : decide ((k2 : Int) < (ts.length : Int)) = false := decide_eq_false (by omega)
            have k9c := k9b.later BI
            have k3c := k3b.later BI
            have hoC := ownsRow_below hoB BI
            rw [hvb] at hoC
            have hBc := hBb.trans (BI.mono hBb.size)
            have x0 := k9c.cell 0
            have x1' := k9c.cell 1
            have zc := hBc.size
            have hz3 : w.heap.size < wr.heap.size := k3c.lt
            have hne3 : (Value.slice pb ts.length capb).ownBlock ≠ some w.heap.size := fun e => by have := (hoC.lt _ e).1; omega
            have hne9' : (Value.slice pb ts.length capb).ownBlock ≠ some n9 := by rw [← hvb]; exact hne9
            go_wp2_with (at_builtin; go_loud (refine appSt rfl _ _ 22 rfl (w.heap.size + 1) 25 (.agg #[.int .u64 0, .int .u8 0]) 2 16 infoB Try.underlying22 rfl (by decide) _ #[.int .u64 x.n, .int .u8 x.r] _ rfl (by intro u hu; simp at hu; rcases hu with rfl | rfl <;> rfl) _ ts.length (ts.flatMap bV) hoC rfl _ (by simp) rfl (by omega) (by omega) (by omega) ?_; intro v' w3 ho3 gr3; have kd9 := gr3.blk k9c hne9'.symm; have kd3 := gr3.blk k3c hne3.symm; have e0 := kd9.cell 0; have e1 := kd9.cell 1; have p0 := kd3.cell 0; have p1 := kd3.cell 1; have f0 := kd3.frozen 0; have f1 := kd3.frozen 1; have l3 := kd3.lt))
            have hBd := gr3.below hBc zc (fun c hc => by have := (hoC.lt c hc).1; omega)
            have hnev : some w.heap.size ≠ v'.ownBlock := gr3.stays hne3.symm hz3
            go_roundw
            case rel => exact ⟨k + 1, ts ++ [x], x, by omega, by go_num, hxok, by simp; omega, fun t ht => by
                rcases List.mem_append.1 ht with h | h
                · exact .inr (HTS2.out t h)
                · exact .inl (by simpa using h), by rw [List.length_append, List.flatMap_append]; exact ownsRow_blkset (ownsRow_blkset ho3 (a := ⟨w.heap.size, 0, none⟩) hnev _) (a := ⟨w.heap.size, 1, none⟩) hnev _, Blk.set (Blk.set kd3 0 _) 1 _, (hBd.setCell (p := ⟨w.heap.size, 0, none⟩) (Nat.le_refl _) _).setCell (p := ⟨w.heap.size, 1, none⟩) (Nat.le_refl _) _⟩
            case measure => simp [intOf]; omega
      · have t0 : ((e : Int) != 0) = true := by simp; omega
        have hb2 := HBD.out he
        clear HG HBD
        have a0 := k3'.cell 0
        have a1 := k3'.cell 1
        have g0 := hcl _ hB'
        rcases hb2 with ⟨rfl, hno⟩ | ⟨rfl, hmax⟩
        · cases hm : mayB c
          · have hchk : chkB c = 2 := by unfold chkB; rw [if_neg (by simp [hm])]
            have HCK := Lib.hid hchk
            clear hm hno hchk
            go_wp2_with fail
            refine (check_any c _).mono ?_
            rintro e x1 ⟨rfl, b_x1⟩
            rw [HCK.out]
            go_wp2
            go_roundw
            case rel => exact ⟨k + 1, ts, c, by omega, by go_num, hc, by omega, HTS.out, ownsRow_below hown' b_x1, k3'.later b_x1, Below.later' hB' b_x1⟩
            case measure => simp [intOf]; omega
          · have hchk : chkB c = 0 := by unfold chkB; rw [if_pos hm]
            have HCK := Lib.hid hchk
            have hy7 : ¬ y < 7 := fun h => hno ⟨hm, h⟩
            have t7 : decide ((y : Int) < 7) = false := decide_eq_false (by omega)
            clear hm hno hchk
            go_wp2_with fail
            refine (check_any c _).mono ?_
            rintro e x1 ⟨rfl, b_x1⟩
            rw [HCK.out]
            have g0' := hcl _ (Below.later' hB' b_x1)
            go_wp2
            go_roundw
            case rel => exact ⟨k + 1, ts, c, by omega, by go_num, hc, by omega, HTS.out, ownsRow_below hown' b_x1, k3'.later b_x1, Below.later' hB' b_x1⟩
            case measure => simp [intOf]; omega
        · have t9 : ((c.n : Int) != 18446744073709551615) = false := by rw [hmax]; rfl
          clear hmax
          go_wp2
          go_roundw
          case rel => exact ⟨k + 1, ts, c, by omega, by go_num, hc, by omega, HTS.out, hown', k3', hB'⟩
          case measure => simp [intOf]; omega
    · have hd : decide ((k : Int) < (l.length : Int)) = false := decide_eq_false (by omega)
      go_wp2_with fail
      refine (wakes_any _).mono ?_
      rintro e x1 ⟨rfl, b_x1⟩
      go_wp2
      go_ret
      exact ⟨rfl, Below.later' hB b_x1⟩
end Bal
end Go.Proofs.Yteaegdigkdghpaa
