/-
  A queue that is known; nil queues.
-/
import Derived.Test.YtcfcikpehekfbaaBatQ
namespace Go.Proofs.Ytcfcikpehekfbaa
open Go.RowKit Go.WideShapes
namespace Bat
theorem get_any (c s : Nat) (w : World) : Calls Try.prog 19 #[.int .u8 c, .int .u32 s] w fun e w' => e = .returned (⟨c, s, 1, ⟨#[107]⟩, ⟨#[]⟩, ⟨#[]⟩, 0⟩ : Cm).val ∧ Below w.heap.size w w' := by
  go_enter Try.func19, Try.ntmps19
  go_wp2
  refine bodyPost_ret (v := (⟨c, s, 1, ⟨#[107]⟩, ⟨#[]⟩, ⟨#[]⟩, 0⟩ : Cm).val) (by simp [results, Try.results19, go_sem]) rfl ⟨rfl, below1 w _⟩
theorem get_ok (c s : Nat) (hc : c ≤ 255) (hs : s ≤ 4294967295) : (⟨c, s, 1, ⟨#[107]⟩, ⟨#[]⟩, ⟨#[]⟩, 0⟩ : Cm).ok := ⟨hc, hs, (by decide : (1 : Nat) ≤ 255), (by decide : ByteArray.size ⟨#[107]⟩ ≤ 9223372036854775807), (by decide : ByteArray.size ⟨#[]⟩ ≤ 9223372036854775807), (by decide : ByteArray.size ⟨#[]⟩ ≤ 9223372036854775807), (by decide : (0 : Nat) ≤ 255)⟩
theorem put_nil (x : Cm) (w : World) : Calls Try.prog 16 #[.pointer none, x.val] w fun e w' => e = .returned (.int .i64 1) ∧ Below w.heap.size w w' := by
  go_enter Try.func16, Try.ntmps16
  go_wp2
  go_ret
  exact ⟨rfl, below1 w _⟩
theorem take_nil (n : Int) (w : World) : Calls Try.prog 10 #[.pointer none, .int .i64 n] w fun e w' => e = .returned (.slice none 0 0) ∧ w = w' := by
  go_enter Try.func10, Try.ntmps10
  go_wp2
  go_ret
  exact ⟨rfl, rfl⟩
theorem all_nil (w : World) : Calls Try.prog 17 #[.pointer none] w fun e w' => e = .returned (.slice none 0 0) ∧ w = w' := by
  go_enter Try.func17, Try.ntmps17
  go_wp2
  go_ret
  exact ⟨rfl, rfl⟩
theorem done_nil (c s : Int) (w : World) : Calls Try.prog 13 #[.pointer none, .int .u8 c, .int .u32 s] w fun e w' => e = .returned (.tuple #[]) ∧ Below w.heap.size w w' := by
  go_enter Try.func13, Try.ntmps13
  go_wp2
  go_end0
  exact ⟨rfl, below2 w _ _⟩
/-- One element's cells, in whatever later world. -/
theorem rd_one {W : World} {v : Value} {l : List Cm} (h : RdT Cm.cells W v l) (i : Nat) (hi : i < l.length) : ∃ lb off cap, v = .slice (some ⟨lb, off, none⟩) l.length cap ∧ ∀ w', Below W.heap.size W w' → ∀ j, j < 7 → w'.cell? ⟨lb, off + i * 7 + j, none⟩ = (l[i]).cells[j]? := by
  obtain ⟨p, cap, rfl, _⟩ := h.len
  obtain ⟨lb, off, rfl, _⟩ := h.at 7 (by decide) Cm.cells_len i hi
  refine ⟨lb, off, cap, rfl, fun w' hb j hj => ?_⟩
  obtain ⟨lb2, off2, e2, g⟩ := (h.later hb).at 7 (by decide) Cm.cells_len i hi
  cases e2
  exact g j hj
theorem Held.rd {w : World} {base : Nat} {v : Value} {l : List Cm} (h : Held w base v l) : RdT Cm.cells w v l := by
  rcases h with ⟨rfl, rfl⟩ | ⟨g, c, cur, rfl, _, k, _, hl, ht⟩
  · exact rdT_nil _ _
  · have := rd_drop (n := 0) (cap := c) l k ht hl
    simpa using this
theorem take_apart {w : World} {base : Nat} {e : TypeId} {size : Nat} {v : Value} {n : Nat} {xs : List Value} (h : w.ownsRow base e size v n xs) {o v2 : Value} (ho : o.ownBlock = none ∨ o.ownBlock = v.ownBlock) (hf : ∀ b, v2.ownBlock = some b → w.heap.size ≤ b) : Apart o v2 := by
  rcases ho with e | e
  · exact .inl e
  · cases hv : v.ownBlock with
    | none => exact .inl (e.trans hv)
    | some b =>
      refine .inr fun e2 => ?_
      have h1 := hf b (by rw [← e2, e, hv])
      have h2 := (h.lt b hv).2
      omega
theorem take_ne {qb : Nat} {o v : Value} (ho : o.ownBlock = none ∨ o.ownBlock = v.ownBlock) (hv : some qb ≠ v.ownBlock) : some qb ≠ o.ownBlock := by
  rcases ho with e | e
  · rw [e]; simp
  · rw [e]; exact hv
theorem fresh_apart {w : World} {base : Nat} {e : TypeId} {size : Nat} {v : Value} {n : Nat} {xs : List Value} (h : w.ownsRow base e size v n xs) {u : Value} (hu : ∀ b, u.ownBlock = some b → w.heap.size ≤ b) : Apart u v := by
  cases hb : u.ownBlock with
  | none => exact .inl hb
  | some b =>
    refine .inr fun e2 => ?_
    have h1 := hu b hb
    have h2 := (h.lt b (by rw [← e2, hb])).2
    omega
set_option maxRecDepth 100000 in
set_option maxHeartbeats 4000000 in
theorem wakes_any (w : World) : Calls Try.prog 8 #[] w fun e w' => e = .returned (.bool true) ∧ Below w.heap.size w w' := by
  have P1 := Lib.hid (show qPut [] (⟨0, 1, 1, ⟨#[107]⟩, ⟨#[]⟩, ⟨#[]⟩, 0⟩ : Cm) = ([(⟨0, 1, 1, ⟨#[107]⟩, ⟨#[]⟩, ⟨#[]⟩, 0⟩ : Cm)], 0) by kernel_rfl)
  have P2 := Lib.hid (show qPut [(⟨0, 1, 1, ⟨#[107]⟩, ⟨#[]⟩, ⟨#[]⟩, 0⟩ : Cm)] (⟨1, 1, 1, ⟨#[107]⟩, ⟨#[]⟩, ⟨#[]⟩, 0⟩ : Cm) = ([(⟨0, 1, 1, ⟨#[107]⟩, ⟨#[]⟩, ⟨#[]⟩, 0⟩ : Cm), (⟨1, 1, 1, ⟨#[107]⟩, ⟨#[]⟩, ⟨#[]⟩, 0⟩ : Cm)], 0) by kernel_rfl)
  have P3 := Lib.hid (show qPut [(⟨0, 1, 1, ⟨#[107]⟩, ⟨#[]⟩, ⟨#[]⟩, 0⟩ : Cm), (⟨1, 1, 1, ⟨#[107]⟩, ⟨#[]⟩, ⟨#[]⟩, 0⟩ : Cm)] (⟨0, 2, 1, ⟨#[107]⟩, ⟨#[]⟩, ⟨#[]⟩, 0⟩ : Cm) = ([(⟨1, 1, 1, ⟨#[107]⟩, ⟨#[]⟩, ⟨#[]⟩, 0⟩ : Cm), (⟨0, 2, 1, ⟨#[107]⟩, ⟨#[]⟩, ⟨#[]⟩, 0⟩ : Cm)], 0) by kernel_rfl)
  have P4 := Lib.hid (show qPut [(⟨0, 2, 1, ⟨#[107]⟩, ⟨#[]⟩, ⟨#[]⟩, 0⟩ : Cm)] (⟨0, 1, 1, ⟨#[107]⟩, ⟨#[]⟩, ⟨#[]⟩, 0⟩ : Cm) = ([(⟨0, 2, 1, ⟨#[107]⟩, ⟨#[]⟩, ⟨#[]⟩, 0⟩ : Cm)], 12) by kernel_rfl)
  have T1 := Lib.hid (show nTake [(⟨1, 1, 1, ⟨#[107]⟩, ⟨#[]⟩, ⟨#[]⟩, 0⟩ : Cm), (⟨0, 2, 1, ⟨#[107]⟩, ⟨#[]⟩, ⟨#[]⟩, 0⟩ : Cm)] 1 = 1 by kernel_rfl)
  have D1 := Lib.hid (show qDone [(⟨0, 2, 1, ⟨#[107]⟩, ⟨#[]⟩, ⟨#[]⟩, 0⟩ : Cm)] 0 2 = [] by kernel_rfl)
  have E1 := cm_eql (⟨1, 1, 1, ⟨#[107]⟩, ⟨#[]⟩, ⟨#[]⟩, 0⟩ : Cm) (⟨1, 1, 1, ⟨#[107]⟩, ⟨#[]⟩, ⟨#[]⟩, 0⟩ : Cm) true (by simp)
  have E2 := cm_eql (⟨0, 2, 1, ⟨#[107]⟩, ⟨#[]⟩, ⟨#[]⟩, 0⟩ : Cm) (⟨0, 2, 1, ⟨#[107]⟩, ⟨#[]⟩, ⟨#[]⟩, 0⟩ : Cm) true (by simp)
  go_enter Try.func8, Try.ntmps8
  go_wp2_with fail
  refine (new_any w).mono ?_
  rintro e w1 ⟨rfl, q1, b1⟩
  go_wp2_with fail
  refine (get_any 0 1 _).mono ?_
  rintro e x2 ⟨rfl, bx2⟩
  have q2 := q1.below bx2
  have b2 := Below.later' b1 bx2
  go_wp2_with fail
  refine (put_any _ _ _ [] (by simp) (⟨0, 1, 1, ⟨#[107]⟩, ⟨#[]⟩, ⟨#[]⟩, 0⟩ : Cm) (get_ok _ _ (by decide) (by decide)) x2 q2).mono ?_
  rintro e w2 ⟨v2, rfl, p2, m2⟩
  rw [P1.out] at p2 ⊢
  have b2 := q2.moved m2 b2 (Nat.le_refl _) b2.size
  clear q2 bx2
  clear m2
  go_wp2_with fail
  refine (get_any 1 1 _).mono ?_
  rintro e x3 ⟨rfl, bx3⟩
  have q3 := p2.below bx3
  have b3 := Below.later' b2 bx3
  go_wp2_with fail
  refine (put_any _ _ _ [(⟨0, 1, 1, ⟨#[107]⟩, ⟨#[]⟩, ⟨#[]⟩, 0⟩ : Cm)] (by simp) (⟨1, 1, 1, ⟨#[107]⟩, ⟨#[]⟩, ⟨#[]⟩, 0⟩ : Cm) (get_ok _ _ (by decide) (by decide)) x3 q3).mono ?_
  rintro e w3 ⟨v3, rfl, p3, m3⟩
  rw [P2.out] at p3 ⊢
  have b3 := q3.moved m3 b3 (Nat.le_refl _) b3.size
  clear q3 bx3
  clear m3
  go_wp2_with fail
  refine (get_any 0 2 _).mono ?_
  rintro e x4 ⟨rfl, bx4⟩
  have q4 := p3.below bx4
  have b4 := Below.later' b3 bx4
  go_wp2_with fail
  refine (put_any _ _ _ [(⟨0, 1, 1, ⟨#[107]⟩, ⟨#[]⟩, ⟨#[]⟩, 0⟩ : Cm), (⟨1, 1, 1, ⟨#[107]⟩, ⟨#[]⟩, ⟨#[]⟩, 0⟩ : Cm)] (by simp) (⟨0, 2, 1, ⟨#[107]⟩, ⟨#[]⟩, ⟨#[]⟩, 0⟩ : Cm) (get_ok _ _ (by decide) (by decide)) x4 q4).mono ?_
  rintro e w4 ⟨v4, rfl, p4, m4⟩
  rw [P3.out] at p4 ⊢
  have b4 := q4.moved m4 b4 (Nat.le_refl _) b4.size
  clear q4 bx4
  clear m4
  go_wp2_with fail
  refine (qtake_any _ _ _ [(⟨1, 1, 1, ⟨#[107]⟩, ⟨#[]⟩, ⟨#[]⟩, 0⟩ : Cm), (⟨0, 2, 1, ⟨#[107]⟩, ⟨#[]⟩, ⟨#[]⟩, 0⟩ : Cm)] (by simp) 1 w4 p4).mono ?_
  rintro e w5 ⟨o5, v5, rfl, hh, p5, m5, f5, a5⟩
  rw [T1.out] at hh p5
  have b5 := p4.moved m5 b4 (Nat.le_refl _) b4.size
  have r5 : RdT Cm.cells w5 o5 [(⟨1, 1, 1, ⟨#[107]⟩, ⟨#[]⟩, ⟨#[]⟩, 0⟩ : Cm)] := hh.rd
  have n5 : some w.heap.size ≠ o5.ownBlock := take_ne a5 p4.apart
  have ap5 : Apart o5 v5 := take_apart p4.row a5 f5
  clear hh m5 f5 a5 p4 b4
  go_wp2_with fail
  refine (get_any 0 1 _).mono ?_
  rintro e x6 ⟨rfl, bx6⟩
  have q6 := p5.below bx6
  have r6 := r5.later bx6
  have b6 := Below.later' b5 bx6
  go_wp2_with fail
  refine (put_any _ _ _ [(⟨0, 2, 1, ⟨#[107]⟩, ⟨#[]⟩, ⟨#[]⟩, 0⟩ : Cm)] (by simp) (⟨0, 1, 1, ⟨#[107]⟩, ⟨#[]⟩, ⟨#[]⟩, 0⟩ : Cm) (get_ok _ _ (by decide) (by decide)) x6 q6).mono ?_
  rintro e w6 ⟨v6, rfl, p6, m6⟩
  rw [P4.out] at p6 ⊢
  have r7 := m6.rd r6 n5 ap5
  have ap6 : Apart o5 v6 := by
    rcases m6.own with e | e
    · unfold Apart; rw [e]; exact ap5
    · cases hb : o5.ownBlock with
      | none => exact .inl hb
      | some b =>
        refine .inr fun e2 => ?_
        have h1 := e b (by rw [← e2, hb])
        obtain ⟨lb, off, cap, e3, g3⟩ := rd_one r6 0 (by simp)
        have h2 := World.block_lt_of_cell? x6 _ (g3 x6 (Below.refl _ _) 0 (by decide))
        rw [e3] at hb
        cases hb
        dsimp only at h1 h2
        omega
  have b7 := q6.moved m6 b6 (Nat.le_refl _) b6.size
  clear q6 bx6 p5 r5 r6 m6 ap5 b5 b6
  go_wp2_with fail
  refine (all_any _ _ _ _ (by simp) w6 p6).mono ?_
  rintro e w7 ⟨o7, rfl, h7, bb7⟩
  have q7 := p6.below bb7
  have r8 := r7.later bb7
  have b8 := Below.later' b7 bb7
  have s7 : RdT Cm.cells w7 o7 [(⟨0, 2, 1, ⟨#[107]⟩, ⟨#[]⟩, ⟨#[]⟩, 0⟩ : Cm)] := RdT.owns h7
  have ap7 : Apart o7 v6 := fresh_apart p6.row (own_base h7)
  have n7 : some w.heap.size ≠ o7.ownBlock := fun e => by have := own_base h7 _ e.symm; have := p6.blk.lt; omega
  clear p6 r7 b7 bb7 h7
  go_wp2_with fail
  refine (qdone_any _ _ _ _ (by simp) 0 2 w7 q7).mono ?_
  rintro e w8 ⟨rfl, v8, p8, m8⟩
  rw [D1.out] at p8
  have r9 := m8.rd r8 n5 ap6
  have s9 := m8.rd s7 n7 ap7
  have b9 := q7.moved m8 b8 (Nat.le_refl _) b8.size
  clear q7 r8 s7 m8 b8 ap6 ap7 n5 n7 P1 P2 P3 P4 T1 D1
  have HALL := Lib.hid (fun w' (hb : Below w8.heap.size w8 w') => all_any _ _ _ _ (by simp) w' (p8.below hb))
  obtain ⟨lb, off, cap, e3, g3⟩ := rd_one r9 0 (by simp)
  obtain ⟨lc, oc, cc, e4, g4⟩ := rd_one s9 0 (by simp)
  subst e3
  subst e4
  have a0 := fun w' hb => g3 w' hb 0 (by decide)
  have a1 := fun w' hb => g3 w' hb 1 (by decide)
  have a2 := fun w' hb => g3 w' hb 2 (by decide)
  have a3 := fun w' hb => g3 w' hb 3 (by decide)
  have a4 := fun w' hb => g3 w' hb 4 (by decide)
  have a5 := fun w' hb => g3 w' hb 5 (by decide)
  have a6 := fun w' hb => g3 w' hb 6 (by decide)
  have c0 := fun w' hb => g4 w' hb 0 (by decide)
  have c1 := fun w' hb => g4 w' hb 1 (by decide)
  have c2 := fun w' hb => g4 w' hb 2 (by decide)
  have c3 := fun w' hb => g4 w' hb 3 (by decide)
  have c4 := fun w' hb => g4 w' hb 4 (by decide)
  have c5 := fun w' hb => g4 w' hb 5 (by decide)
  have c6 := fun w' hb => g4 w' hb 6 (by decide)
  simp only [Nat.zero_mul, Nat.add_zero] at a0 a1 a2 a3 a4 a5 a6 c0 c1 c2 c3 c4 c5 c6
  clear g3 g4 r9 s9
  have B0 : Below w8.heap.size w8 w8.drew := Below.drew (Below.refl _ _)
  go_wp2_with fail
  refine wp_region_ord (fun w' => Below w8.heap.size w8 w') (0 :: 1 :: 2 :: 3 :: 4 :: 5 :: 6 :: 7 :: 8 :: 9 :: 10 :: 11 :: 12 :: 13 :: 14 :: 15 :: 16 :: 17 :: 18 :: 19 :: 20 :: 21 :: 22 :: 23 :: 24 :: 25 :: 26 :: 27 :: 28 :: 29 :: 30 :: 31 :: 32 :: 33 :: 34 :: 35 :: 36 :: 37 :: 38 :: 39 :: 40 :: 41 :: 42 :: 43 :: 44 :: []) [19, 35, 40] (by kernel_rfl) (by kernel_rfl) (by intro c d v a w h; cases d <;> exact h) B0 ?_
  repeat (first
    | (refine wpOrd_take (v := ?_) rfl rfl ?_ ?_ ?_; rotate_left; rfl; (· intro w' hSw; (try dsimp only at hSw); go_simp <;> with_reducible rfl); simp only [Act.put, List.setIfInBounds_toArray, List.set_cons_zero, List.set_cons_succ])
    | (refine wpOrd_skip rfl rfl ?_ ?_; rfl; simp only [Act.put, List.setIfInBounds_toArray, List.set_cons_zero, List.set_cons_succ]))
  refine wpOrd_eff rfl rfl (fun K hK => ?_)
  go_wp2_with fail
  refine (get_any 1 1 _).mono ?_
  rintro e y1 ⟨rfl, by1⟩
  have B1 := B0.trans (by1.mono B0.size)
  go_wp2_with fail
  refine hK.out _ _ B1 ?_
  clear hK K
  repeat (first
    | (refine wpOrd_take (v := ?_) rfl rfl ?_ ?_ ?_; rotate_left; rfl; (· intro w' hSw; (try dsimp only at hSw); go_simp <;> with_reducible rfl); simp only [Act.put, List.setIfInBounds_toArray, List.set_cons_zero, List.set_cons_succ])
    | (refine wpOrd_skip rfl rfl ?_ ?_; rfl; simp only [Act.put, List.setIfInBounds_toArray, List.set_cons_zero, List.set_cons_succ]))
  refine wpOrd_eff rfl rfl (fun K hK => ?_)
  go_wp2_with fail
  refine (get_any 0 2 _).mono ?_
  rintro e y2 ⟨rfl, by2⟩
  have B2 := B1.trans (by2.mono B1.size)
  go_wp2_with fail
  refine hK.out _ _ B2 ?_
  clear hK K
  repeat (first
    | (refine wpOrd_take (v := ?_) rfl rfl ?_ ?_ ?_; rotate_left; rfl; (· intro w' hSw; (try dsimp only at hSw); go_simp <;> with_reducible rfl); simp only [Act.put, List.setIfInBounds_toArray, List.set_cons_zero, List.set_cons_succ])
    | (refine wpOrd_skip rfl rfl ?_ ?_; rfl; simp only [Act.put, List.setIfInBounds_toArray, List.set_cons_zero, List.set_cons_succ]))
  refine wpOrd_eff rfl rfl (fun K hK => ?_)
  go_wp2_with fail
  refine (HALL.out _ B2).mono ?_
  rintro e y3 ⟨o3, rfl, h3, by3⟩
  obtain ⟨p3, k3, e5, _⟩ := RdV.owns h3
  subst e5
  have B3 := B2.trans (by3.mono B2.size)
  go_wp2_with fail
  refine hK.out _ _ B3 ?_
  clear hK K
  repeat (first
    | (refine wpOrd_take (v := ?_) rfl rfl ?_ ?_ ?_; rotate_left; rfl; (· intro w' hSw; (try dsimp only at hSw); go_simp <;> with_reducible rfl); simp only [Act.put, List.setIfInBounds_toArray, List.set_cons_zero, List.set_cons_succ])
    | (refine wpOrd_skip rfl rfl ?_ ?_; rfl; simp only [Act.put, List.setIfInBounds_toArray, List.set_cons_zero, List.set_cons_succ]))
  refine wpOrd_nil ?_
  go_wp2_with fail
  go_ret
  exact ⟨rfl, b9.trans (B3.mono b9.size)⟩
end Bat
end Go.Proofs.Ytcfcikpehekfbaa
