/-
  Seat 07: the law BallotBytes, walked.
-/
import Derived.Test.YteaegdigkdghpaaBalRTake
namespace Go.Proofs.Yteaegdigkdghpaa
open Go.RowKit Go.WideShapes
namespace Bal
open Wire
set_option maxRecDepth 100000 in
set_option maxHeartbeats 4000000 in
theorem bytes_walk (b : B) (hb : b.ok) (v : Value) (l : List UInt8) (s : List UInt8) (w : World) (hrd : RdV w v l.length (by8 l)) (h1 : ¬ 100 < l.length) (h2 : ¬ 100 < s.length) :
    Calls Try.prog 6 #[bv b, v, .string (bs s)] w fun e w' => e = .returned (.bool true) ∧ Below w.heap.size w w' := by
  have hz := bs_size s
  have hzl := bs_size l
  have hbl := balB_le b
  have d1 : decide (100 < l.length) = false := decide_eq_false h1
  have d1' : decide ((100 : Int) < (l.length : Int)) = false := decide_eq_false (by omega)
  have d2 : decide (100 < s.length) = false := decide_eq_false h2
  have d2' : decide ((100 : Int) < (s.length : Int)) = false := decide_eq_false (by omega)
  have htx := rd_text (RdV.below hrd (below1 w (.cells #[.int .u64 b.n, .int .u8 b.r] 25)) (Nat.le_refl _)) rfl
  have hrd0 := hrd
  obtain ⟨p, cap, rfl, _, _, _⟩ := hrd
  go_enter Try.func6, Try.ntmps6
  go_wp2_with fail
  have kA := Blk.new w (.cells #[.int .u64 b.n, .int .u8 b.r] 25)
  have bA := below1 w (.cells #[.int .u64 b.n, .int .u8 b.r] 25)
  clear htx
  generalize w.alloc (.cells #[.int .u64 b.n, .int .u8 b.r] 25) = W at *
  have zA := bA.size
  go_cut [32] (fun s32 wx => s32 = .bool false ∧ Below W.heap.size W wx)
  case first =>
    have a0 := fun w' (hb : Below W.heap.size W w') => (kA.later hb).cell 0
    have a1 := fun w' (hb : Below W.heap.size W w') => (kA.later hb).cell 1
    have cat := bs_append l (balB b)
    have hzb := bs_size (balB b)
    have q : ¬ 9223372036854775807 < l.length + (balB b).length := by omega
    have e1 : ((bs (l ++ balB b)).toList == (bs (l ++ balB b)).toList) = true := beq_self_eq_true _
    have e2 : ((bs (l ++ balB b)).toList != (bs (l ++ balB b)).toList) = false := by simp
    have B0 : Below W.heap.size W W.drew := Below.drew (Below.refl _ _)
    refine wp_region_ord (fun w' => Below W.heap.size W w') (0 :: 2 :: 5 :: 6 :: 1 :: 3 :: 4 :: 7 :: 8 :: 9 :: []) [1, 3, 7] (by kernel_rfl) (by kernel_rfl) (by intro c d v a w h; cases d <;> exact h) B0 ?_
    repeat (first
      | (refine wpOrd_take (v := ?_) rfl rfl ?_ ?_ ?_; rotate_left; rfl; (· intro w' hSw; (try dsimp only at hSw); go_simp <;> with_reducible rfl); simp only [Act.put, List.setIfInBounds_toArray, List.set_cons_zero, List.set_cons_succ])
      | (refine wpOrd_skip rfl rfl ?_ ?_; rfl; simp only [Act.put, List.setIfInBounds_toArray, List.set_cons_zero, List.set_cons_succ]))
    refine wpOrd_eff rfl rfl (fun K hK => ?_)
    go_wp2_with (at_builtin; go_loud (refine appNg rfl _ _ 37 rfl W.heap.size 5 (.int .u8 0) 1 1 info Try.underlying37 rfl (by decide) _ (.slice none 0 0) 0 [] (own_nil _ _) rfl (.slice p l.length cap) l.length (by8 l) (hrd0.below (bA.trans (B0.mono zA)) (Nat.le_refl _)) (by simp [by8_length]) (one_u8 _) rfl (by omega) (by omega) (Nat.le_refl _) ?_; intro va wa hoa ga))
    have B1 := ga.below B0 (Nat.le_refl _) (fun b hb => by cases hb)
    rw [Nat.zero_add, List.nil_append] at hoa
    refine hK.out _ _ B1 ?_
    clear hK K
    repeat (first
      | (refine wpOrd_take (v := ?_) rfl rfl ?_ ?_ ?_; rotate_left; rfl; (· intro w' hSw; (try dsimp only at hSw); go_simp <;> with_reducible rfl); simp only [Act.put, List.setIfInBounds_toArray, List.set_cons_zero, List.set_cons_succ])
      | (refine wpOrd_skip rfl rfl ?_ ?_; rfl; simp only [Act.put, List.setIfInBounds_toArray, List.set_cons_zero, List.set_cons_succ]))
    refine wpOrd_effS rfl rfl (fun K hK => ?_)
    go_wp2_with fail
    refine (put_any W.heap.size va l.length (by8 l) b hb _ hoa (by omega) B1.size).mono ?_
    rintro e wb ⟨vb, rfl, hob, gb⟩
    have B2 := gb.below B1 B1.size (fun c hc => (hoa.lt c hc).1)
    have hcv : ∀ w', Below wb.heap.size wb w' → (convert 37 9 vb).run Try.prog w' = .ok (.string (bs (l ++ balB b))) w' := fun w' h => own_text (ownsRow_below (by rw [by8_append]; exact hob) h)
    go_wp2_with fail
    refine hK.out (fun w' => Below wb.heap.size wb w') _ _ (fun w' h => B2.trans (h.mono B2.size)) (Below.refl _ _) ?_
    clear hK K
    repeat (first
      | (refine wpOrd_take (v := ?_) rfl rfl ?_ ?_ ?_; rotate_left; rfl; (· intro w' hSw; (try dsimp only at hSw); go_simp <;> with_reducible rfl); simp only [Act.put, List.setIfInBounds_toArray, List.set_cons_zero, List.set_cons_succ])
      | (refine wpOrd_skip rfl rfl ?_ ?_; rfl; simp only [Act.put, List.setIfInBounds_toArray, List.set_cons_zero, List.set_cons_succ]))
    refine wpOrd_eff rfl rfl (fun K hK => ?_)
    go_wp2_with fail
    refine (rbytes_any b hb _).mono ?_
    rintro e wc ⟨rfl, bc⟩
    have B3 := B2.trans (bc.mono B2.size)
    go_wp2_with fail
    refine hK.out _ _ bc ?_
    clear hK K
    repeat (first
      | (refine wpOrd_take (v := ?_) rfl rfl ?_ ?_ ?_; rotate_left; rfl; (· intro w' hSw; (try dsimp only at hSw); go_simp <;> with_reducible rfl); simp only [Act.put, List.setIfInBounds_toArray, List.set_cons_zero, List.set_cons_succ])
      | (refine wpOrd_skip rfl rfl ?_ ?_; rfl; simp only [Act.put, List.setIfInBounds_toArray, List.set_cons_zero, List.set_cons_succ]))
    refine wpOrd_nil ?_
    go_wp2_with fail
    go_meet
    exact ⟨rfl, B3⟩
  case rest =>
  obtain ⟨rfl, Bc⟩ := hcut
  have B4 := bA.trans (Bc.mono zA)
  clear Bc kA hrd0
  have HT := Lib.hid (fun b w h => take_of b ⟨s, 0⟩ w h (by simp only; omega))
  have HRT := Lib.hid (fun w => rtake_any ⟨s, 0⟩ (by simp only; omega) w)
  obtain ⟨x, s1, hxs⟩ : ∃ x s1, takeB ⟨s, 0⟩ = (x, s1) := ⟨_, _, rfl⟩
  rw [hxs] at HT HRT
  clear hxs
  have hz1 := bs_size s1.rest
  go_wp2_with fail
  refine (Wire.of_any s _).mono ?_
  rintro e w1 ⟨br, rfl, hbr, b1, hr1⟩
  have B5 := Below.later' B4 b1
  have hbw : w.heap.size ≤ br := Nat.le_trans B4.size hbr
  go_wp2_with fail
  refine (HT.out br _ hr1).mono ?_
  rintro e w2 ⟨rfl, g2, hr2⟩
  have B6 := Below.grew B5 g2 B5.size hbw
  have k9 := Blk.new w2 (.cells #[.int .u64 x.n, .int .u8 x.r] 25)
  have hr3 : Rdr (w2.alloc (.cells #[.int .u64 x.n, .int .u8 x.r] 25)) br s1 := Blk.alloc hr2 _
  have B7 := B6.alloc B6.size (.cells #[.int .u64 x.n, .int .u8 x.r] 25)
  clear B4 b1 B5 B6 g2 hr2 hr1
  go_wp2_with fail
  refine (HRT.out _).mono ?_
  rintro e w3 ⟨rfl, b3⟩
  have k9a := ((k9.later b3).alloc (.cells #[.int .u64 x.n, .int .u8 x.r] 25)).alloc (.cells #[.string (bs s1.rest), .int .i64 s1.e] 46)
  have k10 := (Blk.new w3 (.cells #[.int .u64 x.n, .int .u8 x.r] 25)).alloc (.cells #[.string (bs s1.rest), .int .i64 s1.e] 46)
  have k11 := Blk.newAt (w := w3.alloc (.cells #[.int .u64 x.n, .int .u8 x.r] 25)) (b := w3.heap.size + 1) (.cells #[.string (bs s1.rest), .int .i64 s1.e] 46) (by simp)
  have hr4 : Rdr ((w3.alloc (.cells #[.int .u64 x.n, .int .u8 x.r] 25)).alloc (.cells #[.string (bs s1.rest), .int .i64 s1.e] 46)) br s1 := Blk.alloc (Blk.alloc (Blk.later hr3 b3) _) _
  have B8 := Below.later' B7 b3
  have B9 := (B8.alloc B8.size (.cells #[.int .u64 x.n, .int .u8 x.r] 25)).alloc (by have := B8.size; simp; omega) (.cells #[.string (bs s1.rest), .int .i64 s1.e] 46)
  rw [show rv s1 = .agg #[.string (bs s1.rest), .int .i64 s1.e] from rfl]
  go_upto_region 9 with (fail)
  clear k9 b3 B7 B8 hr3
  generalize (w3.alloc (.cells #[.int .u64 x.n, .int .u8 x.r] 25)).alloc (.cells #[.string (bs s1.rest), .int .i64 s1.e] 46) = X at *
  have zX := B9.size
  have p0 := fun w' (hb : Below X.heap.size X w') => (k9a.later hb).cell 0
  have p1 := fun w' (hb : Below X.heap.size X w') => (k9a.later hb).cell 1
  have q0 := fun w' (hb : Below X.heap.size X w') => (k10.later hb).cell 0
  have q1 := fun w' (hb : Below X.heap.size X w') => (k10.later hb).cell 1
  have r0 := fun w' (hb : Below X.heap.size X w') => (k11.later hb).cell 0
  have r1 := fun w' (hb : Below X.heap.size X w') => (k11.later hb).cell 1
  have q := fun w => eql_bal x.n x.r x.n x.r true (eql_yes x) w
  have q' := fun w => eql_bal 0 0 0 0 true rfl w
  have t1 : ((s1.e : Int) == (s1.e : Int)) = true := by simp
  have t2 : ((s1.rest.length : Int) == (s1.rest.length : Int)) = true := by simp
  have t3 : (s1.rest.length == s1.rest.length) = true := by simp
  have B0 : Below X.heap.size X X.drew := Below.drew (Below.refl _ _)
  refine wp_region_ord (fun w' => Below X.heap.size X w') (0 :: 1 :: 2 :: 3 :: 4 :: 6 :: 7 :: 5 :: 8 :: 9 :: 10 :: 11 :: 13 :: 14 :: 15 :: 12 :: 16 :: 17 :: 18 :: 20 :: 19 :: 21 :: 22 :: 23 :: 24 :: 25 :: 26 :: []) [5, 12, 19, 24] (by kernel_rfl) (by kernel_rfl) (by intro c d v a w h; cases d <;> exact h) B0 ?_
  repeat (first
    | (refine wpOrd_take (v := ?_) rfl rfl ?_ ?_ ?_; rotate_left; rfl; (· intro w' hSw; (try dsimp only at hSw); go_simp <;> with_reducible rfl); simp only [Act.put, List.setIfInBounds_toArray, List.set_cons_zero, List.set_cons_succ])
    | (refine wpOrd_skip rfl rfl ?_ ?_; rfl; simp only [Act.put, List.setIfInBounds_toArray, List.set_cons_zero, List.set_cons_succ]))
  refine wpOrd_eff rfl rfl (fun K hK => ?_)
  go_wp2_with fail
  refine (err_of br s1 _ (Blk.drew hr4)).mono ?_
  rintro e w' ⟨rfl, rfl⟩
  go_wp2_with fail
  refine hK.out _ _ B0 ?_
  clear hK K
  repeat (first
    | (refine wpOrd_take (v := ?_) rfl rfl ?_ ?_ ?_; rotate_left; rfl; (· intro w' hSw; (try dsimp only at hSw); go_simp <;> with_reducible rfl); simp only [Act.put, List.setIfInBounds_toArray, List.set_cons_zero, List.set_cons_succ])
    | (refine wpOrd_skip rfl rfl ?_ ?_; rfl; simp only [Act.put, List.setIfInBounds_toArray, List.set_cons_zero, List.set_cons_succ]))
  refine wpOrd_eff rfl rfl (fun K hK => ?_)
  go_wp2_with fail
  refine (left_of br s1 _ (Blk.drew hr4)).mono ?_
  rintro e w' ⟨rfl, rfl⟩
  go_wp2_with fail
  refine hK.out _ _ B0 ?_
  clear hK K
  repeat (first
    | (refine wpOrd_take (v := ?_) rfl rfl ?_ ?_ ?_; rotate_left; rfl; (· intro w' hSw; (try dsimp only at hSw); go_simp <;> with_reducible rfl); simp only [Act.put, List.setIfInBounds_toArray, List.set_cons_zero, List.set_cons_succ])
    | (refine wpOrd_skip rfl rfl ?_ ?_; rfl; simp only [Act.put, List.setIfInBounds_toArray, List.set_cons_zero, List.set_cons_succ]))
  refine wpOrd_eff rfl rfl (fun K hK => ?_)
  go_wp2_with fail
  refine (take_nil _).mono ?_
  rintro e x1 ⟨rfl, b_x1⟩
  rw [show bv zero = .agg #[.int .u64 0, .int .u8 0] from rfl]
  have B_x1 := B0.trans (b_x1.mono B0.size)
  go_wp2_with fail
  refine hK.out _ _ B_x1 ?_
  clear hK K
  repeat (first
    | (refine wpOrd_take (v := ?_) rfl rfl ?_ ?_ ?_; rotate_left; rfl; (· intro w' hSw; (try dsimp only at hSw); go_simp <;> with_reducible rfl); simp only [Act.put, List.setIfInBounds_toArray, List.set_cons_zero, List.set_cons_succ])
    | (refine wpOrd_skip rfl rfl ?_ ?_; rfl; simp only [Act.put, List.setIfInBounds_toArray, List.set_cons_zero, List.set_cons_succ]))
  refine wpOrd_eff rfl rfl (fun K hK => ?_)
  go_wp2_with fail
  refine (wakes_any _).mono ?_
  rintro e x2 ⟨rfl, b_x2⟩
  have B_x2 := B_x1.trans (b_x2.mono B_x1.size)
  go_wp2_with fail
  refine hK.out _ _ B_x2 ?_
  clear hK K
  repeat (first
    | (refine wpOrd_take (v := ?_) rfl rfl ?_ ?_ ?_; rotate_left; rfl; (· intro w' hSw; (try dsimp only at hSw); go_simp <;> with_reducible rfl); simp only [Act.put, List.setIfInBounds_toArray, List.set_cons_zero, List.set_cons_succ])
    | (refine wpOrd_skip rfl rfl ?_ ?_; rfl; simp only [Act.put, List.setIfInBounds_toArray, List.set_cons_zero, List.set_cons_succ]))
  refine wpOrd_nil ?_
  go_wp2_with fail
  go_ret
  exact ⟨rfl, B9.trans (B_x2.mono zX)⟩
set_option maxRecDepth 100000 in
theorem bytes_short (b : B) (v : Value) (l : List UInt8) (s : List UInt8) (w : World) (hrd : RdV w v l.length (by8 l)) (h : 100 < l.length ∨ 100 < s.length) :
    Calls Try.prog 6 #[bv b, v, .string (bs s)] w fun e w' => e = .returned (.bool true) ∧ Below w.heap.size w w' := by
  have hz := bs_size s
  obtain ⟨p, cap, rfl, _, _, _⟩ := hrd
  by_cases h1 : 100 < l.length
  · have d1 : decide (100 < l.length) = true := decide_eq_true h1
    have d1' : decide ((100 : Int) < (l.length : Int)) = true := decide_eq_true (by omega)
    clear h
    go_enter Try.func6, Try.ntmps6
    go_wp2_with fail
    refine (wakes_any _).mono ?_
    rintro e w1 ⟨rfl, hb⟩
    go_wp2
    go_ret
    exact ⟨rfl, Below.later' (below1 w _) hb⟩
  · have h2 : 100 < s.length := h.resolve_left h1
    have d1 : decide (100 < l.length) = false := decide_eq_false h1
    have d1' : decide ((100 : Int) < (l.length : Int)) = false := decide_eq_false (by omega)
    have d2 : decide (100 < s.length) = true := decide_eq_true h2
    have d2' : decide ((100 : Int) < (s.length : Int)) = true := decide_eq_true (by omega)
    clear h
    go_enter Try.func6, Try.ntmps6
    go_wp2_with fail
    refine (wakes_any _).mono ?_
    rintro e w1 ⟨rfl, hb⟩
    go_wp2
    go_ret
    exact ⟨rfl, Below.later' (below1 w _) hb⟩
theorem u8s_by8 (l : List Nat) (hl : ∀ x ∈ l, x < 256) : u8s l = by8 (l.map UInt8.ofNat) := by
  rw [by8_u8s]
  congr 1
  rw [List.map_map]
  conv => lhs; rw [← List.map_id l]
  apply List.map_congr_left
  intro x hx
  have := hl x hx
  simp; omega
theorem open_u8 {w : World} {v : Value} {l : List Nat} (h : RdB w v l) : ∃ l : List UInt8, RdV w v l.length (by8 l) := by
  have hl : ∀ x ∈ l, x < 256 := by obtain ⟨_, _, _, hl, _⟩ := h; exact hl
  have := h.to
  rw [u8s_by8 l hl] at this
  exact ⟨l.map UInt8.ofNat, by simpa using this⟩
theorem bytes_open {H : Type} {enc : TypeId × Value → H} {base : Nat} {d0 d1 : DataW H} {p0 p1 : List MemPlace} (b v : Value) (s : ByteArray) (w : World)
    (h0 : Value.okWide Try.prog w .any base 25 b) (t0 : DataW.Trod enc Try.prog w 0 (fun _ => true) true 25 b d0 p0)
    (h1 : Value.okWide Try.prog w .any base 37 v) (t1 : DataW.Trod enc Try.prog w 0 (fun _ => true) true 37 v d1 p1) (_ : s.size ≤ maxLen) :
    Calls Try.prog 6 #[b, v, .string s] w fun e w' => e = .returned (.bool true) ∧ Below w.heap.size w w' := by
  obtain ⟨x, rfl, hx⟩ := open_bal h0 t0
  obtain ⟨l0, hl0⟩ := flat_u8s Try.underlying37 Try.underlying5 (by kernel_rfl) h1 t1
  obtain ⟨l, hl⟩ := open_u8 hl0
  rw [← bs_list s]
  by_cases h : 100 < l.length ∨ 100 < s.data.toList.length
  · exact bytes_short x v l _ w hl h
  · exact bytes_walk x hx v l _ w hl (fun e => h (.inl e)) (fun e => h (.inr e))
end Bal
end Go.Proofs.Yteaegdigkdghpaa
