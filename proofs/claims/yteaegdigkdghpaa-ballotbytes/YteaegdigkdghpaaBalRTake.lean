/-
  The document's Take of a ballot, and a ballot's bytes by it, walked.
-/
import Derived.Test.YteaegdigkdghpaaBalTake
namespace Go.Proofs.Yteaegdigkdghpaa
open Go.RowKit Go.WideShapes
namespace Bal
open Wire
set_option maxRecDepth 100000 in
set_option maxHeartbeats 4000000 in
theorem rtake_any (s : R) (hl : s.rest.length ≤ 1000000000) (w : World) :
    Calls Try.prog 22 #[rv s] w fun e w' => e = .returned (.tuple #[bv (takeB s).1, rv (takeB s).2]) ∧ Below w.heap.size w w' := by
  have hl1 := numR_len s
  have HN := Lib.hid (fun w => dnum_any s hl w)
  have HT := Lib.hid (show takeB s = if (byteR (numR s).2).2.e ≠ 0 then (zero, (byteR (numR s).2).2) else
    if mayB ⟨(numR s).1, (byteR (numR s).2).1⟩ = true then (⟨(numR s).1, (byteR (numR s).2).1⟩, (byteR (numR s).2).2) else (zero, ⟨[], 4⟩) from rfl)
  obtain ⟨x, s1, hn⟩ : ∃ x s1, numR s = (x, s1) := ⟨_, _, rfl⟩
  rw [hn] at HN HT hl1
  simp only at HT hl1
  clear hn
  have HB := Lib.hid (fun w => dbyte_any s1 (by omega) w)
  obtain ⟨c, s2, hc⟩ : ∃ c s2, byteR s1 = (c, s2) := ⟨_, _, rfl⟩
  rw [hc] at HB HT
  simp only at HT
  clear hc
  rw [show rv s = .agg #[.string (bs s.rest), .int .i64 s.e] from rfl]
  go_enter Try.func22, Try.ntmps22
  go_wp2_with fail
  refine (HN.out _).mono ?_
  rintro e w1 ⟨rfl, b1⟩
  have k1 := Blk.later (b := w.heap.size) (Blk.alloc (Blk.alloc (Blk.new w (.cells #[.string (bs s.rest), .int .i64 s.e] 46)) (.cells #[.int .u64 0, .int .u8 0] 25)) (.cells #[.string ⟨#[]⟩, .int .i64 0] 46)) b1
  have k2 := Blk.later (b := w.heap.size + 1) (Blk.alloc (Blk.newAt (w := w.alloc (.cells #[.string (bs s.rest), .int .i64 s.e] 46)) (.cells #[.int .u64 0, .int .u8 0] 25) (by simp)) (.cells #[.string ⟨#[]⟩, .int .i64 0] 46)) b1
  have k3 := Blk.later (b := w.heap.size + 1 + 1) (Blk.newAt (w := (w.alloc (.cells #[.string (bs s.rest), .int .i64 s.e] 46)).alloc (.cells #[.int .u64 0, .int .u8 0] 25)) (.cells #[.string ⟨#[]⟩, .int .i64 0] 46) (by simp)) b1
  have B1 := (below3 w (.cells #[.string (bs s.rest), .int .i64 s.e] 46) (.cells #[.int .u64 0, .int .u8 0] 25) (.cells #[.string ⟨#[]⟩, .int .i64 0] 46)).trans (b1.mono (by simp; omega))
  clear b1
  have p0 := k1.cell 0
  have p1 := k1.cell 1
  have pf0 := k1.frozen 0
  have pf1 := k1.frozen 1
  have pl := k1.lt
  have r1 := ((k1.set 0 (.string (bs s1.rest))).set 1 (.int .i64 s1.e))
  have r2 := (k2.other (a := ⟨w.heap.size, 0, none⟩) (by simp) (.string (bs s1.rest))).other (a := ⟨w.heap.size, 1, none⟩) (by simp) (.int .i64 s1.e)
  have r3 := (k3.other (a := ⟨w.heap.size, 0, none⟩) (by simp; omega) (.string (bs s1.rest))).other (a := ⟨w.heap.size, 1, none⟩) (by simp; omega) (.int .i64 s1.e)
  have Bs := (B1.setCell (p := ⟨w.heap.size, 0, none⟩) (Nat.le_refl _) (.string (bs s1.rest))).setCell (p := ⟨w.heap.size, 1, none⟩) (Nat.le_refl _) (.int .i64 s1.e)
  rw [show rv s1 = .agg #[.string (bs s1.rest), .int .i64 s1.e] from rfl]
  go_upto_region 2 with (fail)
  clear p0 p1 pf0 pf1 pl k1 k2 k3 B1
  generalize (w1.setCell ⟨w.heap.size, 0, none⟩ (.string (bs s1.rest))).setCell ⟨w.heap.size, 1, none⟩ (.int .i64 s1.e) = W1 at *
  have p0 : W1.cell? ⟨w.heap.size, 0, none⟩ = some (.string (bs s1.rest)) := r1.cell 0
  have p1 : W1.cell? ⟨w.heap.size, 1, none⟩ = some (.int .i64 s1.e) := r1.cell 1
  go_wp2_with fail
  refine (HB.out _).mono ?_
  rintro e w2 ⟨rfl, b2⟩
  have k1 := r1.later b2
  have k2 := r2.later b2
  have k3 := r3.later b2
  have B1 := Below.later' Bs b2
  clear b2 r1 r2 r3 Bs p0 p1
  have p0 := k1.cell 0
  have p1 := k1.cell 1
  have pf0 := k1.frozen 0
  have pf1 := k1.frozen 1
  have pl := k1.lt
  have r1 := ((k1.set 0 (.string (bs s2.rest))).set 1 (.int .i64 s2.e))
  have r2 := (k2.other (a := ⟨w.heap.size, 0, none⟩) (by simp) (.string (bs s2.rest))).other (a := ⟨w.heap.size, 1, none⟩) (by simp) (.int .i64 s2.e)
  have r3 := (k3.other (a := ⟨w.heap.size, 0, none⟩) (by simp; omega) (.string (bs s2.rest))).other (a := ⟨w.heap.size, 1, none⟩) (by simp; omega) (.int .i64 s2.e)
  have Bs := (B1.setCell (p := ⟨w.heap.size, 0, none⟩) (Nat.le_refl _) (.string (bs s2.rest))).setCell (p := ⟨w.heap.size, 1, none⟩) (Nat.le_refl _) (.int .i64 s2.e)
  rw [show rv s2 = .agg #[.string (bs s2.rest), .int .i64 s2.e] from rfl]
  go_upto_region 3 with (fail)
  clear p0 p1 pf0 pf1 pl k1 k2 k3 B1
  generalize (w2.setCell ⟨w.heap.size, 0, none⟩ (.string (bs s2.rest))).setCell ⟨w.heap.size, 1, none⟩ (.int .i64 s2.e) = W2 at *
  have p0 : W2.cell? ⟨w.heap.size, 0, none⟩ = some (.string (bs s2.rest)) := r1.cell 0
  have p1 : W2.cell? ⟨w.heap.size, 1, none⟩ = some (.int .i64 s2.e) := r1.cell 1
  have LB := Lib.hid (fun (B : World → Prop) (h : ∀ v1 v2 v3 v4 : Value, B ((((W2.setCell ⟨w.heap.size + 1, 0, none⟩ v1).setCell ⟨w.heap.size + 1, 1, none⟩ v2).setCell ⟨w.heap.size + 1 + 1, 0, none⟩ v3).setCell ⟨w.heap.size + 1 + 1, 1, none⟩ v4)) => h)
  clear LB
  by_cases he : s2.e = 0
  · have t0 : ((s2.e : Int) != 0) = false := by rw [he]; rfl
    go_wp2_with fail
    refine (rmay_any ⟨x, c⟩ _).mono ?_
    rintro e w3 ⟨rfl, b3⟩
    have q1 := (r1.alloc (.cells #[.int .u64 x, .int .u8 c] 25)).later b3
    have q2 := (r2.alloc (.cells #[.int .u64 x, .int .u8 c] 25)).later b3
    have q3 := (r3.alloc (.cells #[.int .u64 x, .int .u8 c] 25)).later b3
    have q6 := (Blk.new W2 (.cells #[.int .u64 x, .int .u8 c] 25)).later b3
    have Bq := Below.later' (Bs.alloc Bs.size (.cells #[.int .u64 x, .int .u8 c] 25)) b3
    have n6 : w.heap.size + 1 + 1 < W2.heap.size := r3.lt
    clear b3 r1 r2 r3 Bs p0 p1
    obtain ⟨N6, hN6⟩ : ∃ N6, W2.heap.size = N6 := ⟨_, rfl⟩
    rw [hN6] at q6 n6 ⊢
    clear hN6
    have p0 := q1.cell 0
    have p1 := q1.cell 1
    have pf0 := q1.frozen 0
    have pf1 := q1.frozen 1
    have pl := q1.lt
    have u0 := q2.cell 0
    have u1 := q2.cell 1
    have uf0 := q2.frozen 0
    have uf1 := q2.frozen 1
    have ul := q2.lt
    have v0 := q3.cell 0
    have v1 := q3.cell 1
    have vf0 := q3.frozen 0
    have vf1 := q3.frozen 1
    have vl := q3.lt
    have z0 := q6.cell 0
    have z1 := q6.cell 1
    have zf0 := q6.frozen 0
    have zf1 := q6.frozen 1
    have zl := q6.lt
    cases hm : mayB ⟨x, c⟩
    · have HT2 := Lib.hid (show takeB s = (zero, ⟨[], 4⟩) by rw [HT.out, if_neg (by simp [he]), if_neg (by simp [hm])])
      clear hm he HT
      go_wp2_with fail
      refine bodyPost_ret (v := .tuple #[.agg #[.int .u64 0, .int .u8 0], .agg #[.string ⟨#[]⟩, .int .i64 4]]) (by simp [results, Try.results22, go_sem, u0, u1, v0, v1]) rfl ⟨by rw [HT2.out]; rfl, ?_⟩
      repeat (first | (with_reducible refine Below.drew ?_) | (with_reducible refine Below.setCell ?_ (by dsimp only; omega) _))
      exact Bq
    · have HT2 := Lib.hid (show takeB s = (⟨x, c⟩, s2) by rw [HT.out, if_neg (by simp [he]), if_pos hm])
      clear hm he HT
      go_wp2_with fail
      go_region
      all_goals go_wp2
      all_goals refine bodyPost_ret (v := .tuple #[bv ⟨x, c⟩, rv s2]) (by simp [results, Try.results22, go_sem, rv, u0, u1, v0, v1]) rfl ⟨by rw [HT2.out], ?_⟩
      all_goals repeat (first | (with_reducible refine Below.drew ?_) | (with_reducible refine Below.setCell ?_ (by dsimp only; omega) _))
      all_goals exact Bq
  · have t0 : ((s2.e : Int) != 0) = true := by simp; omega
    have HT2 := Lib.hid (show takeB s = (zero, s2) by rw [HT.out, if_pos he])
    clear he HT p0 p1
    have p0 := r1.cell 0
    have p1 := r1.cell 1
    have pf0 := r1.frozen 0
    have pf1 := r1.frozen 1
    have pl := r1.lt
    have u0 := r2.cell 0
    have u1 := r2.cell 1
    have uf0 := r2.frozen 0
    have uf1 := r2.frozen 1
    have ul := r2.lt
    have v0 := r3.cell 0
    have v1 := r3.cell 1
    have vf0 := r3.frozen 0
    have vf1 := r3.frozen 1
    have vl := r3.lt
    go_wp2_with fail
    go_region
    all_goals go_wp2
    all_goals refine bodyPost_ret (v := .tuple #[.agg #[.int .u64 0, .int .u8 0], rv s2]) (by simp [results, Try.results22, go_sem, rv, u0, u1, v0, v1]) rfl ⟨by rw [HT2.out]; rfl, ?_⟩
    all_goals repeat (first | (with_reducible refine Below.drew ?_) | (with_reducible refine Below.setCell ?_ (by dsimp only; omega) _))
    all_goals exact Bs
set_option maxHeartbeats 2000000 in
theorem rbytes_any (b : B) (hb : b.ok) (w : World) : Calls Try.prog 19 #[bv b] w fun e w' => e = .returned (.string (bs (balB b))) ∧ Below w.heap.size w w' := by
  have hn := hb.1
  have hle := numB_le b.n
  have hA := bs_size (numB b.n)
  have hA1 := bs_size [UInt8.ofNat b.r]
  have hu : by8 [UInt8.ofNat b.r] = [.int .u8 (b.r : Int)] := by have := hb.2; simp [by8]; omega
  have HU := Lib.hid hu
  have cat : bs (numB b.n) ++ bs [UInt8.ofNat b.r] = bs (balB b) := bs_append _ _
  have q : ¬ 9223372036854775807 < (numB b.n).length + 1 := by omega
  clear hu
  go_enter Try.func19, Try.ntmps19
  go_wp2_with fail
  have k1 := Blk.new w (.cells #[.int .u64 b.n, .int .u8 b.r] 25)
  have B1 := below1 w (.cells #[.int .u64 b.n, .int .u8 b.r] 25)
  generalize w.alloc (.cells #[.int .u64 b.n, .int .u8 b.r] 25) = W at *
  have g0 := fun w' (hb : Below W.heap.size W w') => (k1.later hb).cell 0
  have g1 := fun w' (hb : Below W.heap.size W w') => (k1.later hb).cell 1
  have B0 : Below W.heap.size W W.drew := Below.drew (Below.refl _ _)
  refine wp_region_way (fun w' => Below W.heap.size W w') (.go 0 (.go 1 (.go 3 (.go 4 (.two 2 5 (.go 5 (.go 6 (.go 7 (.go 8 .nil)))) (.go 6 (.go 2 (.go 7 (.go 8 .nil))))))))) [2, 5] (by kernel_rfl) (by kernel_rfl) (by intro c d v a w h; cases d <;> exact h) B0 ?_
  repeat (first
    | (refine wpWay_take (v := ?_) rfl rfl ?_ ?_ ?_; rotate_left; rfl; (· intro w' hSw; (try dsimp only at hSw); go_simp <;> with_reducible rfl); simp only [Act.put, List.setIfInBounds_toArray, List.set_cons_zero, List.set_cons_succ])
    | (refine wpWay_skip rfl rfl ?_ ?_; rfl; simp only [Act.put, List.setIfInBounds_toArray, List.set_cons_zero, List.set_cons_succ]))
  refine wpWay_twoS rfl rfl (fun K hK => ?_) (fun K hK => ?_)
  · go_wp2_with fail
    refine (rnum_any b.n hn _).mono ?_
    rintro e w1 ⟨rfl, b1⟩
    have B2 : Below W.heap.size W w1 := undrew b1
    go_wp2_with fail
    refine hK.out _ _ _ (fun _ h => h) B2 ?_
    clear hK K
    repeat (first
      | (refine wpWay_take (v := ?_) rfl rfl ?_ ?_ ?_; rotate_left; rfl; (· intro w' hSw; (try dsimp only at hSw); go_simp <;> with_reducible rfl); simp only [Act.put, List.setIfInBounds_toArray, List.set_cons_zero, List.set_cons_succ])
      | (refine wpWay_skip rfl rfl ?_ ?_; rfl; simp only [Act.put, List.setIfInBounds_toArray, List.set_cons_zero, List.set_cons_succ]))
    refine wpWay_effS rfl rfl (fun K hK => ?_)
    go_wp2_with fail
    have B3 := B2.alloc B2.size (.cells #[.int .u8 b.r] 5)
    have kU : Blk (w1.alloc (.cells #[.int .u8 b.r] 5)) w1.heap.size _ := Blk.new w1 (.cells #[.int .u8 b.r] 5)
    obtain ⟨Wd, hWd⟩ : ∃ Wd, w1.alloc (.cells #[.int .u8 b.r] 5) = Wd := ⟨_, rfl⟩
    rw [hWd] at B3 kU ⊢
    clear hWd
    have hcv : ∀ w', Below Wd.heap.size Wd w' → (convert 37 9 (.slice (some ⟨w1.heap.size, 0, none⟩) 1 1)).run Try.prog w' = .ok (.string (bs [UInt8.ofNat b.r])) w' := fun w' h => own_text (ownsRow_below (by rw [HU.out]; exact own_one kU (Nat.zero_le _)) h)
    refine hK.out (fun w' => Below Wd.heap.size Wd w') _ _ (fun w' h => B3.trans (h.mono B3.size)) (Below.refl _ _) ?_
    clear hK K
    repeat (first
      | (refine wpWay_take (v := ?_) rfl rfl ?_ ?_ ?_; rotate_left; rfl; (· intro w' hSw; (try dsimp only at hSw); go_simp <;> with_reducible rfl); simp only [Act.put, List.setIfInBounds_toArray, List.set_cons_zero, List.set_cons_succ])
      | (refine wpWay_skip rfl rfl ?_ ?_; rfl; simp only [Act.put, List.setIfInBounds_toArray, List.set_cons_zero, List.set_cons_succ]))
    refine wpWay_nil ?_
    go_wp2_with fail
    go_ret
    exact ⟨rfl, B1.trans (B3.mono B1.size)⟩
  · go_wp2_with fail
    have B3 : Below W.heap.size W (W.alloc (.cells #[.int .u8 b.r] 5)).drew := Below.drew (Below.alloc (Below.refl _ _) (Nat.le_refl _) _)
    have kU : Blk (W.alloc (.cells #[.int .u8 b.r] 5)).drew W.heap.size _ := Blk.drew (Blk.new W (.cells #[.int .u8 b.r] 5))
    obtain ⟨Wd, hWd⟩ : ∃ Wd, (W.alloc (.cells #[.int .u8 b.r] 5)).drew = Wd := ⟨_, rfl⟩
    rw [hWd] at B3 kU ⊢
    clear hWd
    have hcv : ∀ w', Below Wd.heap.size Wd w' → (convert 37 9 (.slice (some ⟨W.heap.size, 0, none⟩) 1 1)).run Try.prog w' = .ok (.string (bs [UInt8.ofNat b.r])) w' := fun w' h => own_text (ownsRow_below (by rw [HU.out]; exact own_one kU (Nat.zero_le _)) h)
    refine hK.out (fun w' => Below Wd.heap.size Wd w') _ _ (fun w' h => B3.trans (h.mono B3.size)) (Below.refl _ _) ?_
    clear hK K
    repeat (first
      | (refine wpWay_take (v := ?_) rfl rfl ?_ ?_ ?_; rotate_left; rfl; (· intro w' hSw; (try dsimp only at hSw); go_simp <;> with_reducible rfl); simp only [Act.put, List.setIfInBounds_toArray, List.set_cons_zero, List.set_cons_succ])
      | (refine wpWay_skip rfl rfl ?_ ?_; rfl; simp only [Act.put, List.setIfInBounds_toArray, List.set_cons_zero, List.set_cons_succ]))
    refine wpWay_eff rfl rfl (fun K hK => ?_)
    go_wp2_with fail
    refine (rnum_any b.n hn _).mono ?_
    rintro e w1 ⟨rfl, b1⟩
    have B4 := B3.trans (b1.mono B3.size)
    go_wp2_with fail
    refine hK.out _ _ b1 ?_
    clear hK K
    repeat (first
      | (refine wpWay_take (v := ?_) rfl rfl ?_ ?_ ?_; rotate_left; rfl; (· intro w' hSw; (try dsimp only at hSw); go_simp <;> with_reducible rfl); simp only [Act.put, List.setIfInBounds_toArray, List.set_cons_zero, List.set_cons_succ])
      | (refine wpWay_skip rfl rfl ?_ ?_; rfl; simp only [Act.put, List.setIfInBounds_toArray, List.set_cons_zero, List.set_cons_succ]))
    refine wpWay_nil ?_
    go_wp2_with fail
    go_ret
    exact ⟨rfl, B1.trans (B4.mono B1.size)⟩
end Bal
end Go.Proofs.Yteaegdigkdghpaa
