/-
  Seat 01: the law WireWrites, walked.
-/
import Derived.Deep.RegionLaw
import Derived.Deep.RegionHeld3
import Derived.BigCall
import Derived.BigGuard
import Derived.Deep.CutRange
import Derived.OpenShut
import Derived.Test.YteilmkknedgmpaaWireWr
import Derived.Test.YteilmkknedgmpaaOrd
namespace Go.Proofs.Yteilmkknedgmpaa
open Go.RowKit
namespace Wire
theorem writes_short (v : Value) (k : Nat) (l : List UInt8) (n : Nat) (s : List UInt8) (w : World) (hrd : RdV w v k (by8 l)) (h : 2000 < k ∨ 2000 < s.length) :
    Calls Try.prog 3 #[v, .int .u64 n, .string (bs s)] w fun e w' => e = .returned (.bool true) ∧ Below w.heap.size w w' := by
  have hs := bs_size s
  obtain ⟨p, cap, rfl, _, _, _⟩ := hrd
  by_cases h1 : 2000 < k
  · have d1 : decide (2000 < k) = true := by simp; omega
    have d1' : decide ((2000 : Int) < (k : Int)) = true := by simp; omega
    clear h h1
    go_enter Try.func3, Try.ntmps3
    go_wp2_with fail
    refine (wakes_any w).mono ?_
    rintro e w1 ⟨rfl, hb⟩
    go_wp2
    go_ret
    exact ⟨rfl, hb⟩
  · have d1 : decide (2000 < k) = false := by simp; omega
    have d1' : decide ((2000 : Int) < (k : Int)) = false := by simp; omega
    have d2 : decide (2000 < s.length) = true := by simp; omega
    have d2' : decide ((2000 : Int) < (s.length : Int)) = true := by simp; omega
    clear h h1
    go_enter Try.func3, Try.ntmps3
    go_wp2_with fail
    refine (wakes_any w).mono ?_
    rintro e w1 ⟨rfl, hb⟩
    go_wp2
    go_ret
    exact ⟨rfl, hb⟩
theorem ownsRow_later {w : World} {base : Nat} {v : Value} {n : Nat} {xs : List Value} (h : w.ownsRow base 5 1 v n xs) : ∀ w', Below w.heap.size w w' → w'.ownsRow base 5 1 v n xs := fun _ hb => ownsRow_below h hb
/-- Num behind a slice of the call's own, made since B: the text, kept in every later world. -/
theorem num_on (B : Nat) (v : Value) (l : List UInt8) (n : Nat) (hn : n < 18446744073709551616) (w : World) (hown : w.ownsRow B 5 1 v l.length (by8 l)) (hl : l.length ≤ 2000) (hB : B ≤ w.heap.size) :
    Calls Try.prog 10 #[v, .int .u64 n] w fun e w' => ∃ v', e = .returned v' ∧ (∀ w2, Below w'.heap.size w' w2 → (convert 22 9 v').run Try.prog w2 = .ok (.string (bs (l ++ numB n))) w2) ∧ Below B w w' := by
  refine (num_any B v l.length (by8 l) n hn w hown (by omega) hB).mono ?_
  rintro e w' ⟨v', rfl, h1, h2⟩
  refine ⟨v', rfl, fun w2 hb => own_text (ownsRow_below (by rw [by8_append]; exact h1) hb), h2.below (Below.refl _ _) hB (fun b hb => ?_)⟩
  rcases hown.2 with ⟨rfl, _⟩ | ⟨g, cap, cur, rfl, hbg, _⟩
  · cases hb
  · cases hb; exact hbg
theorem str_on (B : Nat) (v : Value) (l : List UInt8) (s : List UInt8) (hn : s.length ≤ 2000) (w : World) (hown : w.ownsRow B 5 1 v l.length (by8 l)) (hl : l.length ≤ 2000) (hB : B ≤ w.heap.size) :
    Calls Try.prog 12 #[v, .string (bs s)] w fun e w' => ∃ v', e = .returned v' ∧ (∀ w2, Below w'.heap.size w' w2 → (convert 22 9 v').run Try.prog w2 = .ok (.string (bs (l ++ strB s))) w2) ∧ Below B w w' := by
  refine (str_put B v l.length (by8 l) s (by omega) w hown (by omega) hB).mono ?_
  rintro e w' ⟨v', rfl, h1, h2⟩
  refine ⟨v', rfl, fun w2 hb => own_text (ownsRow_below (by rw [by8_append]; exact h1) hb), h2.below (Below.refl _ _) hB (fun b hb => ?_)⟩
  rcases hown.2 with ⟨rfl, _⟩ | ⟨g, cap, cur, rfl, hbg, _⟩
  · cases hb
  · cases hb; exact hbg
theorem own_base {w : World} {b1 b2 : Nat} {v : Value} {n : Nat} {xs : List Value} (h : w.ownsRow b1 5 1 v n xs) (hb : b2 ≤ b1) : w.ownsRow b2 5 1 v n xs := by
  refine ⟨h.1, ?_⟩
  rcases h.2 with h2 | ⟨g, cap, cur, e, hbg, h3⟩
  · exact .inl h2
  · exact .inr ⟨g, cap, cur, e, Nat.le_trans hb hbg, h3⟩
theorem step_copyB {ops : Array Oper} {o : Oper} {a : Act} {w : World} {K : Act → World → Prop} {Q : Exit → Act → World → Prop} {E : Prop} (B : Nat) (s x : Operand)
    (ho : o.op = .call { callee := .builtin .append, args := #[s, x], argTypes := #[22, 22] })
    (v : Value) (l : List UInt8) (hrd : RdV w v l.length (by8 l)) (hn : l.length ≤ 2000) (hB : B ≤ w.heap.size) (hs : a.eval s = .slice none 0 0) (hx : a.eval x = v)
    (hw : Region.wanted o (yielded ops a.tmps) = true)
    (h : ∀ v' w', w'.ownsRow B 5 1 v' l.length (by8 l) → Below B w w' → K (a.put o.dst v') w') :
    if Region.wanted o (yielded ops a.tmps) = true then Oper.wp Try.prog o a w K Q else E :=
  step_copy s x ho v l.length l hrd rfl (by omega) hs hx hw fun v' w' h1 h2 => h v' w' (own_base h1 hB) (h2.mono hB)
set_option maxRecDepth 100000 in
set_option maxHeartbeats 800000 in
theorem writes_walk (v : Value) (l : List UInt8) (n : Nat) (hn : n < 18446744073709551616) (s : List UInt8) (w : World) (hrd : RdV w v l.length (by8 l)) (h1 : ¬ 2000 < l.length) (h2 : ¬ 2000 < s.length) :
    Calls Try.prog 3 #[v, .int .u64 n, .string (bs s)] w fun e w' => e = .returned (.bool true) ∧ Below w.heap.size w w' := by
  have hs := bs_size s
  have hsl := bs_size l
  have hA := bs_size (numB n)
  have hS := bs_size (strB s)
  have hle := numB_le n
  have hle2 := numB_le s.length
  have hsb := strB_length s
  have cat1 := bs_append l (numB n)
  have cat2 := bs_append l (strB s)
  have q1 : ¬ 9223372036854775807 < l.length + (numB n).length := by omega
  have q2 : ¬ 9223372036854775807 < l.length + (strB s).length := by omega
  have e1 : ((bs (l ++ numB n)).toList == (bs (l ++ numB n)).toList) = true := beq_self_eq_true _
  have e2 : ((bs (l ++ strB s)).toList == (bs (l ++ strB s)).toList) = true := beq_self_eq_true _
  have d1 : decide (2000 < l.length) = false := by simp; omega
  have d1' : decide ((2000 : Int) < (l.length : Int)) = false := by simp; omega
  have d2 : decide (2000 < s.length) = false := by simp; omega
  have d2' : decide ((2000 : Int) < (s.length : Int)) = false := by simp; omega
  have htx := rd_text hrd rfl
  have hrd0 := hrd
  obtain ⟨p, cap, rfl, _, _, _⟩ := hrd
  go_enter Try.func3, Try.ntmps3
  go_upto_region 4 with (fail)
  clear d1 d1' d2 d2' htx hsb
  have bT : Below w.heap.size w w.drew := Below.drew (Below.refl _ _)
  refine wp_region_ord (fun w' => Below w.heap.size w w') (0 :: 2 :: 5 :: 6 :: 1 :: 3 :: 4 :: 7 :: 8 :: 9 :: 10 :: 11 :: 13 :: 16 :: 17 :: 12 :: 14 :: 15 :: 18 :: 19 :: 20 :: 21 :: 22 :: 23 :: 24 :: 25 :: []) [1, 3, 7, 12, 14, 18, 23] (by kernel_rfl) (by kernel_rfl) (by intro c d v a w h; cases d <;> exact h) bT ?_
  repeat (first
    | (refine wpOrd_take (v := ?_) rfl rfl ?_ ?_ ?_; rotate_left; rfl; (· intro w' hSw; (try dsimp only at hSw); go_simp <;> with_reducible rfl); simp only [Act.put, List.setIfInBounds_toArray, List.set_cons_zero, List.set_cons_succ])
    | (refine wpOrd_skip rfl rfl ?_ ?_; rfl; simp only [Act.put, List.setIfInBounds_toArray, List.set_cons_zero, List.set_cons_succ]))
  refine wpOrd_eff rfl rfl (fun K hK => ?_)
  go_wp2_with (at_builtin; go_loud (refine appNg rfl _ _ 22 rfl w.heap.size 5 (.int .u8 0) 1 1 info Try.underlying22 rfl (by decide) _ (.slice none 0 0) 0 [] (own_nil _ _) rfl (.slice p l.length cap) l.length (by8 l) (hrd0.below bT (Nat.le_refl _)) (by simp [by8_length]) (one_u8 _) rfl (by omega) (by omega) bT.size ?_; intro va wa hoa ga))
  have ba := ga.below bT bT.size (fun b hb => by cases hb)
  rw [Nat.zero_add, List.nil_append] at hoa
  refine hK.out _ _ ba ?_
  clear hK K
  repeat (first
    | (refine wpOrd_take (v := ?_) rfl rfl ?_ ?_ ?_; rotate_left; rfl; (· intro w' hSw; (try dsimp only at hSw); go_simp <;> with_reducible rfl); simp only [Act.put, List.setIfInBounds_toArray, List.set_cons_zero, List.set_cons_succ])
    | (refine wpOrd_skip rfl rfl ?_ ?_; rfl; simp only [Act.put, List.setIfInBounds_toArray, List.set_cons_zero, List.set_cons_succ]))
  refine wpOrd_effS rfl rfl (fun K hK => ?_)
  go_wp2_with fail
  refine (num_on w.heap.size _ l n hn _ hoa (by omega) ba.size).mono ?_
  rintro e wb ⟨vb, rfl, hcb, bb⟩
  have bB := ba.trans bb
  go_wp2_with fail
  refine hK.out (fun w' => Below wb.heap.size wb w') _ _ (fun w' h => bB.trans (h.mono bB.size)) (Below.refl _ _) ?_
  clear hK K
  repeat (first
    | (refine wpOrd_take (v := ?_) rfl rfl ?_ ?_ ?_; rotate_left; rfl; (· intro w' hSw; (try dsimp only at hSw); go_simp <;> with_reducible rfl); simp only [Act.put, List.setIfInBounds_toArray, List.set_cons_zero, List.set_cons_succ])
    | (refine wpOrd_skip rfl rfl ?_ ?_; rfl; simp only [Act.put, List.setIfInBounds_toArray, List.set_cons_zero, List.set_cons_succ]))
  refine wpOrd_eff rfl rfl (fun K hK => ?_)
  go_wp2_with fail
  refine (rnum_any n hn _).mono ?_
  rintro e wd ⟨rfl, bd⟩
  go_wp2_with fail
  refine hK.out _ _ bd ?_
  clear hK K hcb
  have bT := bB.trans (bd.mono bB.size)
  repeat (first
    | (refine wpOrd_take (v := ?_) rfl rfl ?_ ?_ ?_; rotate_left; rfl; (· intro w' hSw; (try dsimp only at hSw); go_simp <;> with_reducible rfl); simp only [Act.put, List.setIfInBounds_toArray, List.set_cons_zero, List.set_cons_succ])
    | (refine wpOrd_skip rfl rfl ?_ ?_; rfl; simp only [Act.put, List.setIfInBounds_toArray, List.set_cons_zero, List.set_cons_succ]))
  refine wpOrd_eff rfl rfl (fun K hK => ?_)
  refine wpList_unguard rfl ?_
  go_wp2_with (at_builtin; go_loud (refine appNg rfl _ _ 22 rfl wb.heap.size 5 (.int .u8 0) 1 1 info Try.underlying22 rfl (by decide) _ (.slice none 0 0) 0 [] (own_nil _ _) rfl (.slice p l.length cap) l.length (by8 l) (hrd0.below bT (Nat.le_refl _)) (by simp [by8_length]) (one_u8 _) rfl (by omega) (by omega) bd.size ?_; intro va2 wa2 hoa2 ga2))
  have ba2 := ga2.below bd bd.size (fun b hb => by cases hb)
  rw [Nat.zero_add, List.nil_append] at hoa2
  refine hK.out _ _ ba2 ?_
  clear hK K
  repeat (first
    | (refine wpOrd_take (v := ?_) rfl rfl ?_ ?_ ?_; rotate_left; rfl; (· intro w' hSw; (try dsimp only at hSw); go_simp <;> with_reducible rfl); simp only [Act.put, List.setIfInBounds_toArray, List.set_cons_zero, List.set_cons_succ])
    | (refine wpOrd_skip rfl rfl ?_ ?_; rfl; simp only [Act.put, List.setIfInBounds_toArray, List.set_cons_zero, List.set_cons_succ]))
  refine wpOrd_effS rfl rfl (fun K hK => ?_)
  go_wp2_with fail
  refine (str_on wb.heap.size _ l s (by omega) _ hoa2 (by omega) ba2.size).mono ?_
  rintro e wb2 ⟨vb2, rfl, hcb2, bb2⟩
  have bB2 := ba2.trans bb2
  go_wp2_with fail
  refine hK.out (fun w' => Below wb2.heap.size wb2 w') _ _ (fun w' h => bB2.trans (h.mono bB2.size)) (Below.refl _ _) ?_
  clear hK K
  repeat (first
    | (refine wpOrd_take (v := ?_) rfl rfl ?_ ?_ ?_; rotate_left; rfl; (· intro w' hSw; (try dsimp only at hSw); go_simp <;> with_reducible rfl); simp only [Act.put, List.setIfInBounds_toArray, List.set_cons_zero, List.set_cons_succ])
    | (refine wpOrd_skip rfl rfl ?_ ?_; rfl; simp only [Act.put, List.setIfInBounds_toArray, List.set_cons_zero, List.set_cons_succ]))
  refine wpOrd_eff rfl rfl (fun K hK => ?_)
  go_wp2_with fail
  refine (rstr_any s (by omega) _).mono ?_
  rintro e wd2 ⟨rfl, bd2⟩
  go_wp2_with fail
  refine hK.out _ _ bd2 ?_
  clear hK K hcb2
  repeat (first
    | (refine wpOrd_take (v := ?_) rfl rfl ?_ ?_ ?_; rotate_left; rfl; (· intro w' hSw; (try dsimp only at hSw); go_simp <;> with_reducible rfl); simp only [Act.put, List.setIfInBounds_toArray, List.set_cons_zero, List.set_cons_succ])
    | (refine wpOrd_skip rfl rfl ?_ ?_; rfl; simp only [Act.put, List.setIfInBounds_toArray, List.set_cons_zero, List.set_cons_succ]))
  refine wpOrd_eff rfl rfl (fun K hK => ?_)
  go_wp2_with fail
  refine (wakes_any _).mono ?_
  rintro e we ⟨rfl, be⟩
  go_wp2_with fail
  refine hK.out _ _ (bd2.trans (be.mono bd2.size)) ?_
  clear hK K
  repeat (first
    | (refine wpOrd_take (v := ?_) rfl rfl ?_ ?_ ?_; rotate_left; rfl; (· intro w' hSw; (try dsimp only at hSw); go_simp <;> with_reducible rfl); simp only [Act.put, List.setIfInBounds_toArray, List.set_cons_zero, List.set_cons_succ])
    | (refine wpOrd_skip rfl rfl ?_ ?_; rfl; simp only [Act.put, List.setIfInBounds_toArray, List.set_cons_zero, List.set_cons_succ]))
  refine wpOrd_nil ?_
  go_wp2_with fail
  go_ret
  have z1 := bB.size
  have z2 := bB2.size
  have z3 := bd2.size
  exact ⟨rfl, bB.trans (bB2.trans ((bd2.trans (be.mono z3)).mono z2) |>.mono z1)⟩
theorem writes_law (v : Value) (n : Int) (s : ByteArray) (w : World) (hv : ∃ l : List UInt8, RdV w v l.length (by8 l)) (h1 : (Lit.int .u64 n).wf = true) :
    Calls Try.prog 3 #[v, .int .u64 n, .string s] w fun e w' => e = .returned (.bool true) ∧ Below w.heap.size w w' := by
  have b1 := bounds_u64 h1
  obtain ⟨n, rfl⟩ : ∃ k : Nat, n = k := ⟨n.toNat, by omega⟩
  obtain ⟨l, hrd⟩ := hv
  rw [← bs_list s]
  by_cases h : 2000 < l.length ∨ 2000 < s.data.toList.length
  · exact writes_short v l.length l n _ w hrd h
  · exact writes_walk v l n (by omega) _ w hrd (fun e => h (.inl e)) (fun e => h (.inr e))
end Wire
end Go.Proofs.Yteilmkknedgmpaa
