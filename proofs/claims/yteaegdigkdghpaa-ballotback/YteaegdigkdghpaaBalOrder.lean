/-
  Seat 07: the law BallotOrder, walked.
-/
import Derived.OpenShut
import Derived.Test.YteaegdigkdghpaaBalWakes
namespace Go.Proofs.Yteaegdigkdghpaa
open Go.RowKit Go.WideShapes
namespace Bal
/-- Two ballots held against each other, as the walk has it. -/
theorem eql_bal (n r m s : Int) (e : Bool) (h : e = (n == m && r == s)) (w : World) : (binOp .eql 25 (.agg #[.int .u64 n, .int .u8 r]) (.agg #[.int .u64 m, .int .u8 s])).run Try.prog w = .ok (.bool e) w := by
  subst h
  have key : ∀ e : Bool, e = (n == m && r == s) → (if n = m then if r = s then Result.ok (Value.bool true) w else Result.ok (Value.bool false) w else Result.ok (Value.bool false) w) = Result.ok (Value.bool e) w := by
    intro e h
    by_cases h1 : n = m
    · by_cases h2 : r = s
      · rw [if_pos h1, if_pos h2, h, h1, h2]; simp
      · rw [if_pos h1, if_neg h2, h, beq_eq_false_iff_ne.2 h2]; simp
    · rw [if_neg h1, h, beq_eq_false_iff_ne.2 h1]; simp
  have HK := Lib.hid (key _ rfl)
  clear key
  go_simp
  exact HK.out
theorem eql_no {a b : B} (h : a ≠ b) : false = ((a.n : Int) == (b.n : Int) && (a.r : Int) == (b.r : Int)) := by
  by_cases h1 : a.n = b.n
  · have : (a.r : Int) ≠ b.r := fun e => h (B.ext' h1 (by omega))
    rw [beq_eq_false_iff_ne.2 this, Bool.and_false]
  · rw [beq_eq_false_iff_ne.2 (show (a.n : Int) ≠ b.n by omega), Bool.false_and]
theorem eql_yes (a : B) : true = ((a.n : Int) == (a.n : Int) && (a.r : Int) == (a.r : Int)) := by simp
instance : DecidableEq B := fun a b => if h : a.n = b.n ∧ a.r = b.r then .isTrue (B.ext' h.1 h.2) else .isFalse (fun e => h (by rw [e]; exact ⟨rfl, rfl⟩))
def thereB (l : List B) (k : Nat) : Bool := (l.isEmpty || (l.take k).any fun x => decide (x = topB l))
theorem there_end (l : List B) : thereB l l.length = true := by
  unfold thereB
  rw [List.take_length]
  rcases topB_mem l with ⟨h, _⟩ | h
  · subst h; rfl
  · rw [Bool.or_eq_true]; right; exact List.any_eq_true.2 ⟨_, h, by simp⟩
theorem there_step (l : List B) (k : Nat) (h : k < l.length) : thereB l (k + 1) = (thereB l k || decide (l[k] = topB l)) := by
  unfold thereB
  rw [List.take_succ_eq_append_getElem h, List.any_append]
  simp [Bool.or_assoc]
set_option maxRecDepth 100000 in
set_option maxHeartbeats 4000000 in
theorem order_walk (a b c : B) (v : Value) (l : List B) (w : World) (hv : RdT bV w v l) (hlen : ¬ 100 < l.length) :
    Calls Try.prog 4 #[bv a, bv b, bv c, v] w fun e w' => e = .returned (.bool true) ∧ Below w.heap.size w w' := by
  have HV := Lib.hid hv
  obtain ⟨p, cap, rfl, _⟩ := hv.len
  clear hv
  have d1 : decide (100 < l.length) = false := decide_eq_false hlen
  have d1' : decide ((100 : Int) < (l.length : Int)) = false := decide_eq_false (by omega)
  go_enter Try.func4, Try.ntmps4
  go_wp2_with fail
  have kA := Blk.alloc (Blk.alloc (Blk.new w (.cells #[.int .u64 a.n, .int .u8 a.r] 25)) (.cells #[.int .u64 b.n, .int .u8 b.r] 25)) (.cells #[.int .u64 c.n, .int .u8 c.r] 25)
  have kB := Blk.alloc (Blk.newAt (w := w.alloc (.cells #[.int .u64 a.n, .int .u8 a.r] 25)) (b := w.heap.size + 1) (.cells #[.int .u64 b.n, .int .u8 b.r] 25) (by simp)) (.cells #[.int .u64 c.n, .int .u8 c.r] 25)
  have kC := Blk.newAt (w := (w.alloc (.cells #[.int .u64 a.n, .int .u8 a.r] 25)).alloc (.cells #[.int .u64 b.n, .int .u8 b.r] 25)) (b := w.heap.size + 1 + 1) (.cells #[.int .u64 c.n, .int .u8 c.r] 25) (by simp)
  have bW := below3 w (.cells #[.int .u64 a.n, .int .u8 a.r] 25) (.cells #[.int .u64 b.n, .int .u8 b.r] 25) (.cells #[.int .u64 c.n, .int .u8 c.r] 25)
  generalize ((w.alloc (.cells #[.int .u64 a.n, .int .u8 a.r] 25)).alloc (.cells #[.int .u64 b.n, .int .u8 b.r] 25)).alloc (.cells #[.int .u64 c.n, .int .u8 c.r] 25) = W at *
  have zW := bW.size
  have a0 := fun w' (hb : Below W.heap.size W w') => (kA.later hb).cell 0
  have a1 := fun w' (hb : Below W.heap.size W w') => (kA.later hb).cell 1
  have b0 := fun w' (hb : Below W.heap.size W w') => (kB.later hb).cell 0
  have b1 := fun w' (hb : Below W.heap.size W w') => (kB.later hb).cell 1
  have c0 := fun w' (hb : Below W.heap.size W w') => (kC.later hb).cell 0
  have c1 := fun w' (hb : Below W.heap.size W w') => (kC.later hb).cell 1
  clear kA kB kC
  have B0 : Below W.heap.size W W.drew := Below.drew (Below.refl _ _)
  go_cut [9, 10] (fun s9 s10 wx => s9 = .bool (lt a b) ∧ s10 = .bool (lt b a) ∧ Below W.heap.size W wx)
  case first =>
    refine wp_region_ord (fun w' => Below W.heap.size W w') (0 :: 1 :: 3 :: 4 :: 2 :: 5 :: 6 :: 7 :: []) [2, 5] (by kernel_rfl) (by kernel_rfl) (by intro c d v a w h; cases d <;> exact h) B0 ?_
    repeat (first
      | (refine wpOrd_take (v := ?_) rfl rfl ?_ ?_ ?_; rotate_left; rfl; (· intro w' hSw; (try dsimp only at hSw); go_simp <;> with_reducible rfl); simp only [Act.put, List.setIfInBounds_toArray, List.set_cons_zero, List.set_cons_succ])
      | (refine wpOrd_skip rfl rfl ?_ ?_; rfl; simp only [Act.put, List.setIfInBounds_toArray, List.set_cons_zero, List.set_cons_succ]))
    refine wpOrd_eff rfl rfl (fun K hK => ?_)
    go_wp2_with fail
    refine (below_any a b _).mono ?_
    rintro e x1 ⟨rfl, b_x1⟩
    have B_x1 := B0.trans (b_x1.mono B0.size)
    go_wp2_with fail
    refine hK.out _ _ B_x1 ?_
    clear hK K
    repeat (first
      | (refine wpOrd_take (v := ?_) rfl rfl ?_ ?_ ?_; rotate_left; rfl; (· intro w' hSw; (try dsimp only at hSw); go_simp <;> with_reducible rfl); simp only [Act.put, List.setIfInBounds_toArray, List.set_cons_zero, List.set_cons_succ])
      | (refine wpOrd_skip rfl rfl ?_ ?_; rfl; simp only [Act.put, List.setIfInBounds_toArray, List.set_cons_zero, List.set_cons_succ]))
    refine wpOrd_eff rfl rfl (fun K hK => ?_)
    go_wp2_with fail
    refine (below_any b a _).mono ?_
    rintro e x2 ⟨rfl, b_x2⟩
    have B_x2 := B_x1.trans (b_x2.mono B_x1.size)
    go_wp2_with fail
    refine hK.out _ _ B_x2 ?_
    clear hK K
    repeat (first
      | (refine wpOrd_take (v := ?_) rfl rfl ?_ ?_ ?_; rotate_left; rfl; (· intro w' hSw; (try dsimp only at hSw); go_simp <;> with_reducible rfl); simp only [Act.put, List.setIfInBounds_toArray, List.set_cons_zero, List.set_cons_succ])
      | (refine wpOrd_skip rfl rfl ?_ ?_; rfl; simp only [Act.put, List.setIfInBounds_toArray, List.set_cons_zero, List.set_cons_succ]))
    refine wpOrd_nil ?_
    go_wp2_with fail
    go_meet
    exact ⟨rfl, rfl, B_x2⟩
  case rest =>
  obtain ⟨rfl, rfl, Bc⟩ := hcut
  clear B0
  go_upto_region 4 with (fail)
  go_cut [9, 10, 51] (fun _ _ s51 wx => s51 = .bool false ∧ Below W.heap.size W wx)
  case first =>
    have r1 := a0 wc Bc
    have r2 := a1 wc Bc
    have r3 := b0 wc Bc
    have r4 := b1 wc Bc
    have r5 := c0 wc Bc
    have r6 := c1 wc Bc
    clear b0 b1
    rcases lt_total a b with hx | hy | he
    · have hy := lt_asymm hx
      have q := fun w => eql_bal a.n a.r b.n b.r false (eql_no (fun e => by rw [e, lt_irrefl] at hx; cases hx)) w
      have HT := Lib.hid (fun h => lt_trans hx (c := c) h)
      rw [hx, hy]
      clear hx hy
      go_wp2_with fail
      refine (below_any b c _).mono ?_
      rintro e x1 ⟨rfl, b_x1⟩
      have B_x1 := Bc.trans (b_x1.mono Bc.size)
      cases hp : lt b c
      · clear hp
        go_wp2_with fail
        go_meet
        exact ⟨rfl, B_x1⟩
      · have hq := HT.out hp
        have s1 := a0 x1 B_x1
        have s2 := a1 x1 B_x1
        have s5 := c0 x1 B_x1
        have s6 := c1 x1 B_x1
        clear hp HT r1 r2 r3 r4 r5 r6 a0 a1 c0 c1
        go_wp2_with fail
        refine (below_any a c _).mono ?_
        rintro e x2 ⟨rfl, b_x2⟩
        rw [hq]
        have B_x2 := B_x1.trans (b_x2.mono B_x1.size)
        go_wp2_with fail
        go_meet
        exact ⟨rfl, B_x2⟩
    · have hx := lt_asymm hy
      have q := fun w => eql_bal a.n a.r b.n b.r false (eql_no (fun e => by rw [e, lt_irrefl] at hy; cases hy)) w
      rw [hx, hy]
      clear hx hy
      go_wp2_with fail
      go_meet
      exact ⟨rfl, Bc⟩
    · subst he
      have q := fun w => eql_bal a.n a.r a.n a.r true (eql_yes a) w
      rw [lt_irrefl]
      go_wp2_with fail
      go_meet
      exact ⟨rfl, Bc⟩
  case rest =>
  obtain ⟨rfl, Bd⟩ := hcut
  have BdW := bW.trans (Bd.mono zW)
  clear a0 a1 b0 b1 c0 c1 Bc Bd
  go_wp2_with fail
  refine (top_any _ l _ (HV.out.below BdW (Nat.le_refl _))).mono ?_
  rintro e w2 ⟨rfl, b2⟩
  have B2 := Below.later' BdW b2
  go_upto_region 7 with (fail)
  have k11 := Blk.new w2 (.cells #[.int .u64 (topB l).n, .int .u8 (topB l).r] 25)
  have B3 := B2.alloc B2.size (.cells #[.int .u64 (topB l).n, .int .u8 (topB l).r] 25)
  have z11 : w.heap.size ≤ w2.heap.size := B2.size
  generalize w2.alloc (.cells #[.int .u64 (topB l).n, .int .u8 (topB l).r] 25) = W2 at *
  obtain ⟨n11, hn11⟩ : ∃ n11, w2.heap.size = n11 := ⟨_, rfl⟩
  rw [hn11] at k11 z11 ⊢
  clear hn11 BdW b2 B2 zW bW
  go_cut [12] (fun s12 wx => s12 = .bool (thereB l 0) ∧ W2 = wx)
  case first =>
    have m0 := k11.cell 0
    have m1 := k11.cell 1
    by_cases h0 : l.length = 0
    · have hl : l = [] := List.eq_nil_of_length_eq_zero h0
      subst hl
      have q := fun w => eql_bal (topB []).n (topB []).r 0 0 true rfl w
      go_wp2_with fail
      go_meet
      exact ⟨rfl, rfl⟩
    · have t0 : ((l.length : Int) == 0) = false := beq_eq_false_iff_ne.2 (by omega)
      have HT := Lib.hid (show thereB l 0 = false by cases l with | nil => exact absurd rfl h0 | cons x l => simp [thereB])
      clear h0
      go_wp2_with fail
      go_meet
      exact ⟨by rw [HT.out], rfl⟩
  case rest =>
  obtain ⟨rfl, rfl⟩ := hcut
  have HST := Lib.hid (there_step l)
  have HEN := Lib.hid (there_end l)
  have HNO := Lib.hid (topB_none l)
  obtain ⟨m, hm⟩ : ∃ m, topB l = m := ⟨_, rfl⟩
  rw [hm] at HST HNO k11
  clear hm
  obtain ⟨th, hth⟩ : ∃ th, thereB l = th := ⟨_, rfl⟩
  rw [hth] at HST HEN ⊢
  clear hth
  go_wp2_with fail
  go_loopw [12, 13] (fun t i wr => ∃ k : Nat, k ≤ l.length ∧ i = .int .i64 k ∧ t = .bool (th k) ∧ Blk wr n11 (.cells #[.int .u64 m.n, .int .u8 m.r] 25) ∧ Below w.heap.size w wr) (fun _ i _ => l.length - (intOf i).toNat)
  case atStart => exact ⟨0, Nat.zero_le _, rfl, rfl, k11, B3⟩
  case round =>
    clear k11 B3
    obtain ⟨k, hk, rfl, rfl, k11, hB⟩ := hrel
    by_cases hlt : k < l.length
    · have hd : decide ((k : Int) < (l.length : Int)) = true := decide_eq_true (by omega)
      obtain ⟨lb, off, rfl, _⟩ := HV.out.at 2 (by decide) bV_len k hlt
      have g : ∀ w', Below w.heap.size w w' → ∀ j, j < 2 → w'.cell? ⟨lb, off + k * 2 + j, none⟩ = (bV l[k])[j]? := fun w' hb' => by
        obtain ⟨b', off', e, h⟩ := (HV.out.below hb' (Nat.le_refl _)).at 2 (by decide) bV_len k hlt
        cases e; exact h
      have hst := HST.out k hlt
      have hno := HNO.out l[k] (List.getElem_mem hlt)
      generalize l[k] = x at g hst hno
      have g0 := fun w' hb' => g w' hb' 0 (by decide)
      have g1 := fun w' hb' => g w' hb' 1 (by decide)
      simp only [bV, Nat.add_zero] at g0 g1
      clear g
      have hcm := fun (w' : World) (h : Blk w' n11 (.cells #[.int .u64 m.n, .int .u8 m.r] 25)) => (show w'.cell? ⟨n11, 0, none⟩ = some (.int .u64 m.n) ∧ w'.cell? ⟨n11, 1, none⟩ = some (.int .u8 m.r) from ⟨h.cell 0, h.cell 1⟩)
      have HM := Lib.hid hcm
      have HS := Lib.hid hst
      clear hcm hst
      go_wp2_with fail
      go_cut [12] (fun t wx => t = .bool (th (k + 1)) ∧ Blk wx n11 (.cells #[.int .u64 m.n, .int .u8 m.r] 25) ∧ Below w.heap.size w wx)
      case first =>
        cases htk : th k
        · by_cases hxm : x = m
          · subst hxm
            have q := fun w => eql_bal x.n x.r x.n x.r true (eql_yes x) w
            have HS2 := Lib.hid (show th (k + 1) = true by rw [HS.out, htk]; simp)
            clear htk HS
            refine wp_region_ord (fun w' => (w'.cell? ⟨n11, 0, none⟩ = some (.int .u64 x.n) ∧ w'.cell? ⟨n11, 1, none⟩ = some (.int .u8 x.r)) ∧ Below w.heap.size w w') (0 :: 1 :: 2 :: 3 :: 4 :: 5 :: 6 :: 7 :: 8 :: 9 :: []) [] (by kernel_rfl) (by kernel_rfl) (by intro c d v a w h; cases d <;> exact h) ⟨HM.out _ k11.drew, hB.drew⟩ ?_
            repeat (first
              | (refine wpOrd_take (v := ?_) rfl rfl ?_ ?_ ?_; rotate_left; rfl; (· intro w' hSw; (try dsimp only at hSw); go_simp <;> with_reducible rfl); simp only [Act.put, List.setIfInBounds_toArray, List.set_cons_zero, List.set_cons_succ])
              | (refine wpOrd_skip rfl rfl ?_ ?_; rfl; simp only [Act.put, List.setIfInBounds_toArray, List.set_cons_zero, List.set_cons_succ]))
            refine wpOrd_nil ?_
            go_wp2_with fail
            go_meet
            exact ⟨by rw [HS2.out], k11.drew, hB.drew⟩
          · have q := fun w => eql_bal x.n x.r m.n m.r false (eql_no hxm) w
            have HS2 := Lib.hid (show th (k + 1) = false by rw [HS.out, htk, decide_eq_false hxm]; rfl)
            clear htk HS
            refine wp_region_ord (fun w' => (w'.cell? ⟨n11, 0, none⟩ = some (.int .u64 m.n) ∧ w'.cell? ⟨n11, 1, none⟩ = some (.int .u8 m.r)) ∧ Below w.heap.size w w') (0 :: 1 :: 2 :: 3 :: 4 :: 5 :: 6 :: 7 :: 8 :: 9 :: []) [] (by kernel_rfl) (by kernel_rfl) (by intro c d v a w h; cases d <;> exact h) ⟨HM.out _ k11.drew, hB.drew⟩ ?_
            repeat (first
              | (refine wpOrd_take (v := ?_) rfl rfl ?_ ?_ ?_; rotate_left; rfl; (· intro w' hSw; (try dsimp only at hSw); go_simp <;> with_reducible rfl); simp only [Act.put, List.setIfInBounds_toArray, List.set_cons_zero, List.set_cons_succ])
              | (refine wpOrd_skip rfl rfl ?_ ?_; rfl; simp only [Act.put, List.setIfInBounds_toArray, List.set_cons_zero, List.set_cons_succ]))
            refine wpOrd_nil ?_
            go_wp2_with fail
            go_meet
            exact ⟨by rw [HS2.out], k11.drew, hB.drew⟩
        · have HS2 := Lib.hid (show th (k + 1) = true by rw [HS.out, htk]; rfl)
          clear htk HS
          refine wp_region_ord (fun w' => (w'.cell? ⟨n11, 0, none⟩ = some (.int .u64 m.n) ∧ w'.cell? ⟨n11, 1, none⟩ = some (.int .u8 m.r)) ∧ Below w.heap.size w w') (0 :: 1 :: 2 :: 3 :: 4 :: 5 :: 6 :: 7 :: 8 :: 9 :: []) [] (by kernel_rfl) (by kernel_rfl) (by intro c d v a w h; cases d <;> exact h) ⟨HM.out _ k11.drew, hB.drew⟩ ?_
          repeat (first
            | (refine wpOrd_take (v := ?_) rfl rfl ?_ ?_ ?_; rotate_left; rfl; (· intro w' hSw; (try dsimp only at hSw); go_simp <;> with_reducible rfl); simp only [Act.put, List.setIfInBounds_toArray, List.set_cons_zero, List.set_cons_succ])
            | (refine wpOrd_skip rfl rfl ?_ ?_; rfl; simp only [Act.put, List.setIfInBounds_toArray, List.set_cons_zero, List.set_cons_succ]))
          refine wpOrd_nil ?_
          go_wp2_with fail
          go_meet
          exact ⟨by rw [HS2.out], k11.drew, hB.drew⟩
      case rest =>
        obtain ⟨rfl, k11', hB'⟩ := hcut
        clear k11 hB HS
        go_wp2_with fail
        refine wp_region_ord (fun w' => (w'.cell? ⟨n11, 0, none⟩ = some (.int .u64 m.n) ∧ w'.cell? ⟨n11, 1, none⟩ = some (.int .u8 m.r)) ∧ Below w.heap.size w w') (0 :: 1 :: 2 :: 3 :: 4 :: 5 :: []) [5] (by kernel_rfl) (by kernel_rfl) (by intro c d v a w h; cases d <;> exact h) ⟨HM.out _ k11'.drew, hB'.drew⟩ ?_
        repeat (first
          | (refine wpOrd_take (v := ?_) rfl rfl ?_ ?_ ?_; rotate_left; rfl; (· intro w' hSw; (try dsimp only at hSw); go_simp <;> with_reducible rfl); simp only [Act.put, List.setIfInBounds_toArray, List.set_cons_zero, List.set_cons_succ])
          | (refine wpOrd_skip rfl rfl ?_ ?_; rfl; simp only [Act.put, List.setIfInBounds_toArray, List.set_cons_zero, List.set_cons_succ]))
        refine wpOrd_eff rfl rfl (fun K hK => ?_)
        go_wp2_with fail
        refine (below_any m x _).mono ?_
        rintro e x1 ⟨rfl, b_x1⟩
        rw [hno]
        have k1 := k11'.drew.later b_x1
        have B1 := Below.later' hB'.drew b_x1
        go_wp2_with fail
        refine hK.out _ _ ⟨HM.out _ k1, B1⟩ ?_
        clear hK K
        repeat (first
          | (refine wpOrd_take (v := ?_) rfl rfl ?_ ?_ ?_; rotate_left; rfl; (· intro w' hSw; (try dsimp only at hSw); go_simp <;> with_reducible rfl); simp only [Act.put, List.setIfInBounds_toArray, List.set_cons_zero, List.set_cons_succ])
          | (refine wpOrd_skip rfl rfl ?_ ?_; rfl; simp only [Act.put, List.setIfInBounds_toArray, List.set_cons_zero, List.set_cons_succ]))
        refine wpOrd_nil ?_
        go_wp2
        go_roundw
        case rel => exact ⟨k + 1, by omega, by go_num, rfl, k1, B1⟩
        case measure => simp [intOf]; omega
    · have hd : decide ((k : Int) < (l.length : Int)) = false := decide_eq_false (by omega)
      obtain rfl : k = l.length := by omega
      rw [HEN.out]
      go_wp2_with fail
      refine (wakes_any _).mono ?_
      rintro e x1 ⟨rfl, b_x1⟩
      go_wp2
      go_ret
      exact ⟨rfl, Below.later' hB b_x1⟩
set_option maxRecDepth 100000 in
theorem order_long (a b c : B) (v : Value) (l : List B) (w : World) (hv : RdT bV w v l) (hlen : 100 < l.length) :
    Calls Try.prog 4 #[bv a, bv b, bv c, v] w fun e w' => e = .returned (.bool true) ∧ Below w.heap.size w w' := by
  obtain ⟨p, cap, rfl, _⟩ := hv.len
  clear hv
  have d1 : decide (100 < l.length) = true := decide_eq_true hlen
  have d1' : decide ((100 : Int) < (l.length : Int)) = true := decide_eq_true (by omega)
  go_enter Try.func4, Try.ntmps4
  go_wp2_with fail
  refine (wakes_any _).mono ?_
  rintro e w1 ⟨rfl, hb⟩
  go_wp2
  go_ret
  exact ⟨rfl, Below.later' (below3 w _ _ _) hb⟩
theorem dec_bal (xs : List Value) (h : Fit [Leaf.int .u64, .int .u8] xs) : ∃ x, xs = bV x ∧ x.ok := by
  match xs, h with
  | [], h => exact h.elim
  | [_], h => exact h.2.elim
  | _ :: _ :: _ :: _, h => exact h.2.2.elim
  | [a, b], h =>
    obtain ⟨⟨x, rfl, h1⟩, ⟨y, rfl, h2⟩, _⟩ := h
    obtain ⟨a0, a1⟩ := bounds_u64 h1
    obtain ⟨b0, b1⟩ := bounds_u8 h2
    exact ⟨⟨x.toNat, y.toNat⟩, by simp [bV, Int.toNat_of_nonneg a0, Int.toNat_of_nonneg b0], by simp only []; omega, by simp only []; omega⟩
theorem okWide_struct {P : Program} {w : World} {r : Reach} {base : Nat} {t : TypeId} {fs : Array Field} {v : Value} (hu : P.underlying t = some (.struct fs)) (h : Value.okWide P w r base t v) : ∃ cs, v = .agg cs := by
  unfold Value.okWide at h
  rw [hu] at h
  obtain ⟨cs, rfl, _⟩ := h
  exact ⟨cs, rfl⟩
theorem open_bal {H : Type} {enc : TypeId × Value → H} {base : Nat} {d : DataW H} {ps : List MemPlace} {v : Value} {w : World}
    (hok : Value.okWide Try.prog w .any base 25 v) (ht : DataW.Trod enc Try.prog w 0 (fun _ => true) true 25 v d ps) : ∃ b : B, v = bv b ∧ b.ok := by
  have hf := fit_Trod 3 (ks := [Leaf.int .u64, .int .u8]) (by kernel_rfl) ht
  obtain ⟨cs, rfl⟩ := okWide_struct Try.underlying25 hok
  obtain ⟨x, hx, hk⟩ := dec_bal _ hf
  refine ⟨x, ?_, hk⟩
  obtain ⟨cs⟩ := cs
  simp only [Value.cells] at hx
  rw [show cs = bV x from by simpa using hx]; rfl
theorem open_bals {H : Type} {enc : TypeId × Value → H} {base : Nat} {d : DataW H} {ps : List MemPlace} {v : Value} {w : World}
    (hok : Value.okWide Try.prog w .any base 22 v) (ht : DataW.Trod enc Try.prog w 0 (fun _ => true) true 22 v d ps) : ∃ l : List B, RdT bV w v l ∧ ∀ b ∈ l, b.ok :=
  open_rows 3 (ks := [Leaf.int .u64, .int .u8]) bV B.ok dec_bal Try.underlying22 (by kernel_rfl) (by kernel_rfl) hok ht
theorem order_open {H : Type} {enc : TypeId × Value → H} {base : Nat} {d0 d1 d2 d3 : DataW H} {p0 p1 p2 p3 : List MemPlace} (a b c v : Value) (w : World)
    (h0 : Value.okWide Try.prog w .any base 25 a) (t0 : DataW.Trod enc Try.prog w 0 (fun _ => true) true 25 a d0 p0)
    (h1 : Value.okWide Try.prog w .any base 25 b) (t1 : DataW.Trod enc Try.prog w 0 (fun _ => true) true 25 b d1 p1)
    (h2 : Value.okWide Try.prog w .any base 25 c) (t2 : DataW.Trod enc Try.prog w 0 (fun _ => true) true 25 c d2 p2)
    (h3 : Value.okWide Try.prog w .any base 22 v) (t3 : DataW.Trod enc Try.prog w 0 (fun _ => true) true 22 v d3 p3) :
    Calls Try.prog 4 #[a, b, c, v] w fun e w' => e = .returned (.bool true) ∧ Below w.heap.size w w' := by
  obtain ⟨x, rfl, _⟩ := open_bal h0 t0
  obtain ⟨y, rfl, _⟩ := open_bal h1 t1
  obtain ⟨z, rfl, _⟩ := open_bal h2 t2
  obtain ⟨l, hl, _⟩ := open_bals h3 t3
  by_cases h : 100 < l.length
  · exact order_long x y z v l w hl h
  · exact order_walk x y z v l w hl h
end Bal
end Go.Proofs.Yteaegdigkdghpaa
