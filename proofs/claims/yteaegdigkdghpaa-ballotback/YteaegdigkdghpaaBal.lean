/-
  The package ballot, walked: may a ballot be, order, the top, a node's turn.
-/
import Derived.BigRegion
import Derived.Deep.DeepCutAuto
import Derived.Test.YteaegdigkdghpaaBalPure
import Derived.Test.YteaegdigkdghpaaElem
import Derived.Test.YteaegdigkdghpaaOrd
namespace Go.Proofs.Yteaegdigkdghpaa
open Go.RowKit
namespace Bal
def bV (b : B) : List Value := [.int .u64 b.n, .int .u8 b.r]
abbrev bv (b : B) : Value := .agg #[.int .u64 b.n, .int .u8 b.r]
theorem bV_len (b : B) : (bV b).length = 2 := rfl
def cmpI (a b : Int) : Int := if a < b then -1 else if b < a then 1 else 0
def orI (x y : Int) : Int := if x ≠ 0 then x else y
def ordI (a b : B) : Int := orI (cmpI a.n b.n) (cmpI a.r b.r)
theorem ordI_lt (a b : B) : decide (ordI a b < 0) = lt a b := by
  unfold ordI orI cmpI lt
  rw [decide_eq_decide]
  rcases Nat.lt_trichotomy a.n b.n with h | h | h
  · rw [if_pos (show (a.n : Int) < b.n by omega)]; simp; omega
  · rw [if_neg (show ¬ (a.n : Int) < b.n by omega), if_neg (show ¬ (b.n : Int) < a.n by omega)]
    rcases Nat.lt_trichotomy a.r b.r with g | g | g
    · rw [if_pos (show (a.r : Int) < b.r by omega)]; simp; omega
    · rw [if_neg (show ¬ (a.r : Int) < b.r by omega), if_neg (show ¬ (b.r : Int) < a.r by omega)]; simp; omega
    · rw [if_neg (show ¬ (a.r : Int) < b.r by omega), if_pos (show (b.r : Int) < a.r by omega)]; simp; omega
  · rw [if_neg (show ¬ (a.n : Int) < b.n by omega), if_pos (show (b.n : Int) < a.n by omega)]; simp; omega
theorem cmp_u64 (a b : Int) (w : World) : Calls Try.prog 36 #[.int .u64 a, .int .u64 b] w fun e w' => e = .returned (.int .i64 (cmpI a b)) ∧ w = w' := by
  by_cases h : a < b
  · have H := Lib.hid (show cmpI a b = -1 by unfold cmpI; rw [if_pos h])
    go_enter Try.func36, Try.ntmps36
    go_wp2
    go_ret
    exact ⟨by rw [H.out]; rfl, rfl⟩
  · by_cases h2 : b < a
    · have H := Lib.hid (show cmpI a b = 1 by unfold cmpI; rw [if_neg h, if_pos h2])
      go_enter Try.func36, Try.ntmps36
      go_wp2
      go_ret
      exact ⟨by rw [H.out]; rfl, rfl⟩
    · obtain rfl : a = b := by omega
      have H := Lib.hid (show cmpI a a = 0 by unfold cmpI; rw [if_neg h, if_neg h])
      go_enter Try.func36, Try.ntmps36
      go_wp2
      go_ret
      exact ⟨by rw [H.out]; rfl, rfl⟩
theorem cmp_u8 (a b : Int) (w : World) : Calls Try.prog 37 #[.int .u8 a, .int .u8 b] w fun e w' => e = .returned (.int .i64 (cmpI a b)) ∧ w = w' := by
  by_cases h : a < b
  · have H := Lib.hid (show cmpI a b = -1 by unfold cmpI; rw [if_pos h])
    go_enter Try.func37, Try.ntmps37
    go_wp2
    go_ret
    exact ⟨by rw [H.out]; rfl, rfl⟩
  · by_cases h2 : b < a
    · have H := Lib.hid (show cmpI a b = 1 by unfold cmpI; rw [if_neg h, if_pos h2])
      go_enter Try.func37, Try.ntmps37
      go_wp2
      go_ret
      exact ⟨by rw [H.out]; rfl, rfl⟩
    · obtain rfl : a = b := by omega
      have H := Lib.hid (show cmpI a a = 0 by unfold cmpI; rw [if_neg h, if_neg h])
      go_enter Try.func37, Try.ntmps37
      go_wp2
      go_ret
      exact ⟨by rw [H.out]; rfl, rfl⟩
theorem or_any (b : Nat) (x y : Int) (w : World) (h0 : w.cell? ⟨b, 0, none⟩ = some (.int .i64 x)) (h1 : w.cell? ⟨b, 1, none⟩ = some (.int .i64 y)) :
    Calls Try.prog 35 #[.slice (some ⟨b, 0, none⟩) 2 2] w fun e w' => e = .returned (.int .i64 (orI x y)) ∧ w = w' := by
  unfold orI
  by_cases hx : x = 0
  · subst hx
    rw [if_neg (by simp)]
    by_cases hy : y = 0
    · subst hy
      go_enter Try.func35, Try.ntmps35
      go_wp2
      go_loop [5, 8] (fun _ i => ∃ k : Nat, k ≤ 2 ∧ i = .int .i64 k) (fun _ i => 2 - (intOf i).toNat)
      case atStart => exact ⟨0, by omega, rfl⟩
      case round =>
        obtain ⟨k, hk, rfl⟩ := hrel
        have hc : k < 2 → w.cell? ⟨b, k, none⟩ = some (.int .i64 0) := fun h => by
          rcases (show k = 0 ∨ k = 1 by omega) with e | e
          · subst e; exact h0
          · subst e; exact h1
        by_cases hlt : k < 2
        · have hc' := hc hlt
          clear hc
          go_wp2
          go_round
          case rel => exact ⟨k + 1, by omega, by go_num⟩
          case measure => simp [intOf]; omega
        · clear hc
          go_wp2
          go_ret
          exact ⟨rfl, rfl⟩
    · have hyb : (y != 0) = true := by simpa using hy
      clear hy
      go_enter Try.func35, Try.ntmps35
      go_wp2
      go_loop [5, 8] (fun _ i => ∃ k : Nat, k ≤ 1 ∧ i = .int .i64 k) (fun _ i => 2 - (intOf i).toNat)
      case atStart => exact ⟨0, by omega, rfl⟩
      case round =>
        obtain ⟨k, hk, rfl⟩ := hrel
        rcases (show k = 0 ∨ k = 1 by omega) with e | e
        · subst e
          go_wp2
          go_round
          case rel => exact ⟨1, by omega, rfl⟩
          case measure => simp [intOf]
        · subst e
          go_wp2
          go_ret
          exact ⟨rfl, rfl⟩
  · rw [if_pos hx]
    have hxb : (x != 0) = true := by simpa using hx
    clear hx
    go_enter Try.func35, Try.ntmps35
    go_wp2
    go_loop [5, 8] (fun _ i => i = .int .i64 0) (fun _ _ => 0)
    case atStart => rfl
    case round =>
      obtain rfl := hrel
      go_wp2
      go_ret
      exact ⟨rfl, rfl⟩
set_option maxHeartbeats 1000000 in
theorem order_any (a b : B) (w : World) : Calls Try.prog 26 #[bv a, bv b] w fun e w' => e = .returned (.int .i64 (ordI a b)) ∧ Below w.heap.size w w' := by
  have H := Lib.hid (show ordI a b = orI (cmpI a.n b.n) (cmpI a.r b.r) from rfl)
  go_enter Try.func26, Try.ntmps26
  go_wp2_with fail
  have kA : Blk ((w.alloc (.cells #[.int .u64 a.n, .int .u8 a.r] 25)).alloc (.cells #[.int .u64 b.n, .int .u8 b.r] 25)) w.heap.size _ := Blk.alloc (Blk.new _ _) _
  have kB : Blk ((w.alloc (.cells #[.int .u64 a.n, .int .u8 a.r] 25)).alloc (.cells #[.int .u64 b.n, .int .u8 b.r] 25)) (w.heap.size + 1) _ := Blk.newAt _ (by simp)
  have bW := below2 w (.cells #[.int .u64 a.n, .int .u8 a.r] 25) (.cells #[.int .u64 b.n, .int .u8 b.r] 25)
  generalize (w.alloc (.cells #[.int .u64 a.n, .int .u8 a.r] 25)).alloc (.cells #[.int .u64 b.n, .int .u8 b.r] 25) = W at *
  have gA := fun w' hb j => Blk.held kA w' j hb
  have gB := fun w' hb j => Blk.held kB w' j hb
  have a0 := fun w' hb => gA w' hb 0
  have a1 := fun w' hb => gA w' hb 1
  have b0 := fun w' hb => gB w' hb 0
  have b1 := fun w' hb => gB w' hb 1
  clear gA gB
  refine wp_region_ord (fun w' => Below W.heap.size W w') (0 :: 1 :: 2 :: 3 :: 5 :: 6 :: 7 :: 8 :: 4 :: 9 :: 10 :: 11 :: 12 :: []) [4, 9, 10, 11] (by kernel_rfl) (by kernel_rfl) (by intro c d v a w h; cases d <;> exact h) (Below.drew (Below.refl _ _)) ?_
  repeat (first
    | (refine wpOrd_take (v := ?_) rfl rfl ?_ ?_ ?_; rotate_left; rfl; (· intro w' hSw; (try dsimp only at hSw); go_simp <;> with_reducible rfl); simp only [Act.put, List.setIfInBounds_toArray, List.set_cons_zero, List.set_cons_succ])
    | (refine wpOrd_skip rfl rfl ?_ ?_; rfl; simp only [Act.put, List.setIfInBounds_toArray, List.set_cons_zero, List.set_cons_succ]))
  refine wpOrd_eff rfl rfl (fun K hK => ?_)
  go_wp2_with fail
  refine (cmp_u64 _ _ _).mono ?_
  rintro e w' ⟨rfl, rfl⟩
  go_wp2_with fail
  refine hK.out _ _ (Below.drew (Below.refl _ _)) ?_
  clear hK K
  repeat (first
    | (refine wpOrd_take (v := ?_) rfl rfl ?_ ?_ ?_; rotate_left; rfl; (· intro w' hSw; (try dsimp only at hSw); go_simp <;> with_reducible rfl); simp only [Act.put, List.setIfInBounds_toArray, List.set_cons_zero, List.set_cons_succ])
    | (refine wpOrd_skip rfl rfl ?_ ?_; rfl; simp only [Act.put, List.setIfInBounds_toArray, List.set_cons_zero, List.set_cons_succ]))
  refine wpOrd_eff rfl rfl (fun K hK => ?_)
  go_wp2_with fail
  refine (cmp_u8 _ _ _).mono ?_
  rintro e w' ⟨rfl, rfl⟩
  go_wp2_with fail
  refine hK.out _ _ (Below.drew (Below.refl _ _)) ?_
  clear hK K
  repeat (first
    | (refine wpOrd_take (v := ?_) rfl rfl ?_ ?_ ?_; rotate_left; rfl; (· intro w' hSw; (try dsimp only at hSw); go_simp <;> with_reducible rfl); simp only [Act.put, List.setIfInBounds_toArray, List.set_cons_zero, List.set_cons_succ])
    | (refine wpOrd_skip rfl rfl ?_ ?_; rfl; simp only [Act.put, List.setIfInBounds_toArray, List.set_cons_zero, List.set_cons_succ]))
  refine wpOrd_eff rfl rfl (fun K hK => ?_)
  go_wp2_with fail
  refine hK.out _ _ (Below.drew (Below.alloc (Below.refl _ _) (Nat.le_refl _) _)) ?_
  clear hK K
  repeat (first
    | (refine wpOrd_take (v := ?_) rfl rfl ?_ ?_ ?_; rotate_left; rfl; (· intro w' hSw; (try dsimp only at hSw); go_simp <;> with_reducible rfl); simp only [Act.put, List.setIfInBounds_toArray, List.set_cons_zero, List.set_cons_succ])
    | (refine wpOrd_skip rfl rfl ?_ ?_; rfl; simp only [Act.put, List.setIfInBounds_toArray, List.set_cons_zero, List.set_cons_succ]))
  refine wpOrd_eff rfl rfl (fun K hK => ?_)
  go_wp2_with fail
  refine (or_any _ _ _ _ ((Blk.drew (Blk.new W _)).cell 0) ((Blk.drew (Blk.new W _)).cell 1)).mono ?_
  rintro e w' ⟨rfl, rfl⟩
  go_wp2_with fail
  refine hK.out _ _ (Below.drew (Below.alloc (Below.refl _ _) (Nat.le_refl _) _)) ?_
  clear hK K
  repeat (first
    | (refine wpOrd_take (v := ?_) rfl rfl ?_ ?_ ?_; rotate_left; rfl; (· intro w' hSw; (try dsimp only at hSw); go_simp <;> with_reducible rfl); simp only [Act.put, List.setIfInBounds_toArray, List.set_cons_zero, List.set_cons_succ])
    | (refine wpOrd_skip rfl rfl ?_ ?_; rfl; simp only [Act.put, List.setIfInBounds_toArray, List.set_cons_zero, List.set_cons_succ]))
  refine wpOrd_nil ?_
  go_wp2_with fail
  go_ret
  exact ⟨by rw [H.out]; rfl, bW.trans ((Below.drew (Below.alloc (Below.refl W.heap.size W) (Nat.le_refl _) _)).mono bW.size)⟩
theorem below_any (a b : B) (w : World) : Calls Try.prog 13 #[bv a, bv b] w fun e w' => e = .returned (.bool (lt a b)) ∧ Below w.heap.size w w' := by
  have H := Lib.hid (ordI_lt a b)
  go_enter Try.func13, Try.ntmps13
  go_wp2_with fail
  refine (order_any a b _).mono ?_
  rintro e w1 ⟨rfl, b1⟩
  go_wp2_with fail
  go_ret
  exact ⟨by rw [← H.out]; rfl, (below2 _ _ _).trans (b1.mono (by simp; omega))⟩
theorem check_any (b : B) (w : World) : Calls Try.prog 12 #[bv b] w fun e w' => e = .returned (.int .i64 (chkB b)) ∧ Below w.heap.size w w' := by
  by_cases h1 : b.n = 0
  · have t1 : ((b.n : Int) == 0) = true := beq_iff_eq.2 (by omega)
    by_cases h2 : b.r = 0
    · have t2 : ((b.r : Int) == 0) = true := beq_iff_eq.2 (by omega)
      have H := Lib.hid (show chkB b = 0 by unfold chkB; rw [if_pos ((may_iff b).2 (by omega))])
      clear h1 h2
      go_enter Try.func12, Try.ntmps12
      go_wp2
      go_ret
      exact ⟨by rw [H.out]; rfl, below1 _ _⟩
    · have t2 : ((b.r : Int) == 0) = false := beq_eq_false_iff_ne.2 (by omega)
      have H := Lib.hid (show chkB b = 2 by unfold chkB; rw [if_neg (fun e => by have := (may_iff b).1 e; omega)])
      clear h1 h2
      go_enter Try.func12, Try.ntmps12
      go_wp2
      go_ret
      exact ⟨by rw [H.out]; rfl, below1 _ _⟩
  · have t1 : ((b.n : Int) == 0) = false := beq_eq_false_iff_ne.2 (by omega)
    by_cases h2 : 7 ≤ b.r
    · have t2 : decide ((7 : Int) ≤ (b.r : Int)) = true := decide_eq_true (by omega)
      have H := Lib.hid (show chkB b = 2 by unfold chkB; rw [if_neg (fun e => by have := (may_iff b).1 e; omega)])
      clear h1 h2
      go_enter Try.func12, Try.ntmps12
      go_wp2
      go_ret
      exact ⟨by rw [H.out]; rfl, below1 _ _⟩
    · have t2 : decide ((7 : Int) ≤ (b.r : Int)) = false := decide_eq_false (by omega)
      have H := Lib.hid (show chkB b = 0 by unfold chkB; rw [if_pos ((may_iff b).2 (by omega))])
      clear h1 h2
      go_enter Try.func12, Try.ntmps12
      go_wp2
      go_ret
      exact ⟨by rw [H.out]; rfl, below1 _ _⟩
theorem of_any (n r : Nat) (w : World) : Calls Try.prog 17 #[.int .u64 n, .int .u8 r] w fun e w' => e = .returned (bv ⟨n, r⟩) ∧ Below w.heap.size w w' := by
  go_enter Try.func17, Try.ntmps17
  go_wp2
  refine bodyPost_ret (v := bv ⟨n, r⟩) (by simp [results, Try.results17, go_sem]) rfl ⟨rfl, below1 _ _⟩
set_option maxHeartbeats 1000000 in
theorem top_any (v : Value) (l : List B) (w : World) (hv : RdT bV w v l) : Calls Try.prog 15 #[v] w fun e w' => e = .returned (bv (topB l)) ∧ Below w.heap.size w w' := by
  have HV := Lib.hid hv
  obtain ⟨p, cap, rfl, hlen⟩ := hv.len
  clear hv
  go_enter Try.func15, Try.ntmps15
  go_wp2_with fail
  go_loopw [5, 8] (fun _ i wr => ∃ k : Nat, k ≤ l.length ∧ i = .int .i64 k ∧ Blk wr (w.heap.size + 1) (.cells #[.int .u64 (topB (l.take k)).n, .int .u8 (topB (l.take k)).r] 25) ∧ Blk wr w.heap.size (.cells #[.int .u64 0, .int .u8 0] 25) ∧ Below w.heap.size w wr) (fun _ i _ => l.length - (intOf i).toNat)
  case atStart => exact ⟨0, Nat.zero_le _, rfl, Blk.newAt _ (by simp), Blk.alloc (Blk.new _ _) _, below2 _ _ _⟩
  case round =>
    obtain ⟨k, hk, rfl, k3, k2, hB⟩ := hrel
    have z := hB.size
    have l3 := k3.lt
    by_cases hlt : k < l.length
    · have hd : decide ((k : Int) < (l.length : Int)) = true := decide_eq_true (by omega)
      obtain ⟨b, off, rfl, hc⟩ := (HV.out.below hB (Nat.le_refl _)).at 2 (by decide) bV_len k hlt
      have c0 := hc 0 (by decide)
      have c1 := hc 1 (by decide)
      simp only [Nat.add_zero] at c0
      clear hc
      have HT := Lib.hid (show topB (l.take (k + 1)) = if lt (topB (l.take k)) l[k] = true then l[k] else topB (l.take k) by rw [List.take_succ_eq_append_getElem hlt, topB_snoc])
      generalize l[k] = x at c0 c1 HT
      obtain ⟨t, ht⟩ : ∃ t, topB (l.take k) = t := ⟨_, rfl⟩
      rw [ht] at k3 HT
      clear ht
      simp only [bV] at c0 c1
      have a0 : (wr.alloc (.cells #[.int .u64 x.n, .int .u8 x.r] 25)).cell? ⟨w.heap.size + 1, 0, none⟩ = some (.int .u64 t.n) := (k3.alloc _).cell 0
      have a1 : (wr.alloc (.cells #[.int .u64 x.n, .int .u8 x.r] 25)).cell? ⟨w.heap.size + 1, 1, none⟩ = some (.int .u8 t.r) := (k3.alloc _).cell 1
      go_wp2_with fail
      refine (below_any t x _).mono ?_
      rintro e w1 ⟨rfl, b1⟩
      have k3' := (k3.alloc _).later b1
      have k2' := (k2.alloc _).later b1
      have k5 := (Blk.new wr _).later b1
      have hB' := Below.later' (hB.alloc z _) b1
      clear c0 c1 a0 a1 k3 k2 hB b1
      have e0 := k5.cell 0
      have e1 := k5.cell 1
      have a0 := k3'.cell 0
      have a1 := k3'.cell 1
      have f0 := k3'.frozen 0
      have f1 := k3'.frozen 1
      have l3' := k3'.lt
      cases hlt' : lt t x
      · have HT' := Lib.hid (show topB (l.take (k + 1)) = t by rw [HT.out, if_neg (by simp [hlt'])])
        clear hlt' HT
        go_wp2
        go_roundw
        case rel => exact ⟨k + 1, by omega, by go_num, by rw [HT'.out]; exact k3', k2', hB'⟩
        case measure => simp [intOf]; omega
      · have HT' := Lib.hid (show topB (l.take (k + 1)) = x by rw [HT.out, if_pos hlt'])
        clear hlt' HT
        go_wp2
        go_roundw
        case rel => exact ⟨k + 1, by omega, by go_num, by rw [HT'.out]; exact Blk.set (Blk.set k3' 0 _) 1 _, Blk.other (Blk.other k2' (a := ⟨w.heap.size + 1, 0, none⟩) (by simp) _) (a := ⟨w.heap.size + 1, 1, none⟩) (by simp) _, (hB'.setCell (p := ⟨w.heap.size + 1, 0, none⟩) (by simp) _).setCell (p := ⟨w.heap.size + 1, 1, none⟩) (by simp) _⟩
        case measure => simp [intOf]; omega
    · have hd : decide ((k : Int) < (l.length : Int)) = false := decide_eq_false (by omega)
      rw [List.take_of_length_le (by omega)] at k3
      have a0 := k3.cell 0
      have a1 := k3.cell 1
      have b0 := k2.cell 0
      have b1 := k2.cell 1
      have f0 := k2.frozen 0
      have f1 := k2.frozen 1
      have l2 := k2.lt
      go_wp2
      refine bodyPost_ret (v := bv (topB l)) (by simp [results, Try.results15, go_sem, b0, b1]) rfl ⟨rfl, ?_⟩
      exact (hB.setCell (p := ⟨w.heap.size, 0, none⟩) (Nat.le_refl _) _).setCell (p := ⟨w.heap.size, 1, none⟩) (Nat.le_refl _) _
set_option maxHeartbeats 2000000 in
theorem turn_any (b : B) (hb : b.ok) (node : Nat) (w : World) : Calls Try.prog 9 #[bv b, .int .u8 node] w fun e w' => e = .returned (.tuple #[bv (turnB b node).1, .int .i64 (turnB b node).2]) ∧ Below w.heap.size w w' := by
  have hok := hb.1
  by_cases hm : mayB b = false
  · have HC := Lib.hid (show chkB b = 2 by unfold chkB; rw [if_neg (by simp [hm])])
    have HX := Lib.hid (turn_arg b node (.inl hm))
    clear hm
    go_enter Try.func9, Try.ntmps9
    go_wp2_with fail
    refine (check_any b _).mono ?_
    rintro e w1 ⟨rfl, b1⟩
    have k2 := Blk.later (b := w.heap.size) (Blk.alloc (Blk.new _ _) _) b1
    have k4 := Blk.later (b := w.heap.size + 1) (Blk.newAt _ (by simp)) b1
    have bw1 : Below w.heap.size w w1 := (below2 _ _ _).trans (b1.mono (by simp; omega))
    rw [HC.out]
    clear b1
    have a0 := k2.cell 0
    have a1 := k2.cell 1
    have l4 := k4.lt
    have r0 := k4.cell 0
    have r1 := k4.cell 1
    have f0 := k4.frozen 0
    have f1 := k4.frozen 1
    have l4' := k4.lt
    go_wp2
    refine bodyPost_ret (v := .tuple #[.agg #[.int .u64 0, .int .u8 0], .int .i64 2]) (by simp [results, Try.results9, go_sem, r0, r1]) rfl ⟨by rw [HX.out]; rfl, ?_⟩
    repeat (first | (with_reducible refine Below.setCell ?_ (by dsimp only; omega) _))
    exact bw1
  · have HC := Lib.hid (show chkB b = 0 by unfold chkB; rw [if_pos (by simpa using hm)])
    by_cases hn : 6 < node
    · have HX := Lib.hid (turn_arg b node (.inr hn))
      have t1 : decide ((7 : Int) ≤ (node : Int)) = true := decide_eq_true (by omega)
      clear hm
      go_enter Try.func9, Try.ntmps9
      go_wp2_with fail
      refine (check_any b _).mono ?_
      rintro e w1 ⟨rfl, b1⟩
      have k2 := Blk.later (b := w.heap.size) (Blk.alloc (Blk.new _ _) _) b1
      have k4 := Blk.later (b := w.heap.size + 1) (Blk.newAt _ (by simp)) b1
      have bw1 : Below w.heap.size w w1 := (below2 _ _ _).trans (b1.mono (by simp; omega))
      rw [HC.out]
      clear b1
      have a0 := k2.cell 0
      have a1 := k2.cell 1
      have l4 := k4.lt
      have r0 := k4.cell 0
      have r1 := k4.cell 1
      have f0 := k4.frozen 0
      have f1 := k4.frozen 1
      have l4' := k4.lt
      go_wp2
      refine bodyPost_ret (v := .tuple #[.agg #[.int .u64 0, .int .u8 0], .int .i64 2]) (by simp [results, Try.results9, go_sem, r0, r1]) rfl ⟨by rw [HX.out]; rfl, ?_⟩
      repeat (first | (with_reducible refine Below.setCell ?_ (by dsimp only; omega) _))
      exact bw1
    · have hne : ¬ (mayB b = false ∨ 6 < node) := fun e => e.elim hm hn
      have t1 : decide ((7 : Int) ≤ (node : Int)) = false := decide_eq_false (by omega)
      clear hm
      by_cases h0 : b.n = 0
      · have HX := Lib.hid (turn_next b node hne (by omega) (by omega))
        have t0 : ((b.n : Int) == 0) = true := beq_iff_eq.2 (by omega)
        have hw : IntKind.u64.wrap ((b.n : Int) + 1) = (b.n : Int) + 1 := by rw [IntKind.wrap_u64]; omega
        have t3 : ((b.n : Int) + 1 == 0) = false := beq_eq_false_iff_ne.2 (by omega)
        clear hne h0
        go_enter Try.func9, Try.ntmps9
        go_wp2_with fail
        refine (check_any b _).mono ?_
        rintro e w1 ⟨rfl, b1⟩
        have k2 := Blk.later (b := w.heap.size) (Blk.alloc (Blk.new _ _) _) b1
        have k4 := Blk.later (b := w.heap.size + 1) (Blk.newAt _ (by simp)) b1
        have bw1 : Below w.heap.size w w1 := (below2 _ _ _).trans (b1.mono (by simp; omega))
        rw [HC.out]
        clear b1
        have a0 := k2.cell 0
        have a1 := k2.cell 1
        have l4 := k4.lt
        have k6 := Blk.new w1 (.cells #[.int .u64 b.n, .int .u8 node] 25)
        have k4' := k4.alloc (.cells #[.int .u64 b.n, .int .u8 node] 25)
        have bw2 := bw1.alloc bw1.size (.cells #[.int .u64 b.n, .int .u8 node] 25)
        have e0 := (k2.alloc (.cells #[.int .u64 b.n, .int .u8 node] 25)).cell 0
        have e1 := (k2.alloc (.cells #[.int .u64 b.n, .int .u8 node] 25)).cell 1
        clear k4 k2
        go_upto_region 5 with (fail)
        generalize w1.alloc (.cells #[.int .u64 b.n, .int .u8 node] 25) = w2 at *
        obtain ⟨n6, hn6⟩ : ∃ n6, w1.heap.size = n6 := ⟨_, rfl⟩
        rw [hn6] at k6 l4 ⊢
        clear hn6 a0 a1
        have g0 : w2.cell? ⟨n6, 0, none⟩ = some (.int .u64 b.n) := k6.cell 0
        have g1 : w2.cell? ⟨n6, 1, none⟩ = some (.int .u8 node) := k6.cell 1
        have g2 := k6.frozen 0
        have l6 := k6.lt
        go_upto_region 6 with (fail)
        have k4s := k4'.other (a := ⟨n6, 0, none⟩) (by simp; omega) (.int .u64 ((b.n : Int) + 1))
        have k6s := k6.set 0 (.int .u64 ((b.n : Int) + 1))
        have bw3 := bw2.setCell (p := ⟨n6, 0, none⟩) (by simp; omega) (.int .u64 ((b.n : Int) + 1))
        clear g0 g1 g2 k6 k4' bw2
        generalize w2.setCell ⟨n6, 0, none⟩ (.int .u64 ((b.n : Int) + 1)) = w3 at *
        have bw2 := bw3
        clear bw3
        have g0 : w3.cell? ⟨n6, 0, none⟩ = some (.int .u64 ((b.n : Int) + 1)) := k6s.cell 0
        have g1 : w3.cell? ⟨n6, 1, none⟩ = some (.int .u8 node) := k6s.cell 1
        have r0 := k4s.cell 0
        have r1 := k4s.cell 1
        have f0 := k4s.frozen 0
        have f1 := k4s.frozen 1
        have l4' := k4s.lt
        go_wp2
        refine bodyPost_ret (v := .tuple #[.agg #[.int .u64 (b.n + 1), .int .u8 node], .int .i64 0]) (by simp [results, Try.results9, go_sem, r0, r1]) rfl ⟨by rw [HX.out]; rfl, ?_⟩
        repeat (first | (with_reducible refine Below.setCell ?_ (by dsimp only; omega) _))
        exact bw2
      · have t0 : ((b.n : Int) == 0) = false := beq_eq_false_iff_ne.2 (by omega)
        cases hlt : lt b ⟨b.n, node⟩
        · have hlt2 : ¬ b.r < node := fun h => (lt_no _ _).1 hlt (.inr ⟨rfl, h⟩)
          by_cases hf : b.n = 18446744073709551615
          · have HX := Lib.hid (turn_full b node hne (by omega) hf)
            have hw : IntKind.u64.wrap ((b.n : Int) + 1) = 0 := by rw [IntKind.wrap_u64]; omega
            clear hne hlt2 hf
            go_enter Try.func9, Try.ntmps9
            go_wp2_with fail
            refine (check_any b _).mono ?_
            rintro e w1 ⟨rfl, b1⟩
            have k2 := Blk.later (b := w.heap.size) (Blk.alloc (Blk.new _ _) _) b1
            have k4 := Blk.later (b := w.heap.size + 1) (Blk.newAt _ (by simp)) b1
            have bw1 : Below w.heap.size w w1 := (below2 _ _ _).trans (b1.mono (by simp; omega))
            rw [HC.out]
            clear b1
            have a0 := k2.cell 0
            have a1 := k2.cell 1
            have l4 := k4.lt
            have d0 : (w1.alloc (.cells #[.int .u64 b.n, .int .u8 node] 25)).cell? ⟨w.heap.size, 0, none⟩ = some (.int .u64 b.n) := (k2.alloc _).cell 0
            have d1 : (w1.alloc (.cells #[.int .u64 b.n, .int .u8 node] 25)).cell? ⟨w.heap.size, 1, none⟩ = some (.int .u8 b.r) := (k2.alloc _).cell 1
            go_wp2_with fail
            refine (below_any b ⟨b.n, node⟩ _).mono ?_
            rintro e w2 ⟨rfl, b2⟩
            rw [hlt]
            have k6 := (Blk.new w1 _).later b2
            have k4' := (k4.alloc _).later b2
            have bw2 := Below.later' (bw1.alloc bw1.size _) b2
            obtain ⟨n6, hn6⟩ : ∃ n6, w1.heap.size = n6 := ⟨_, rfl⟩
            rw [hn6] at k6 l4 ⊢
            clear hn6 a0 a1 d0 d1 k2 k4 b2
            go_upto_region 5 with (fail)
            have g0 : w2.cell? ⟨n6, 0, none⟩ = some (.int .u64 b.n) := k6.cell 0
            have g1 : w2.cell? ⟨n6, 1, none⟩ = some (.int .u8 node) := k6.cell 1
            have g2 := k6.frozen 0
            have l6 := k6.lt
            go_upto_region 6 with (fail)
            have k4s := k4'.other (a := ⟨n6, 0, none⟩) (by simp; omega) (.int .u64 0)
            have k6s := k6.set 0 (.int .u64 0)
            have bw3 := bw2.setCell (p := ⟨n6, 0, none⟩) (by simp; omega) (.int .u64 0)
            clear g0 g1 g2 k6 k4' bw2
            generalize w2.setCell ⟨n6, 0, none⟩ (.int .u64 0) = w3 at *
            have bw2 := bw3
            clear bw3
            have g0 : w3.cell? ⟨n6, 0, none⟩ = some (.int .u64 0) := k6s.cell 0
            have g1 : w3.cell? ⟨n6, 1, none⟩ = some (.int .u8 node) := k6s.cell 1
            have r0 := k4s.cell 0
            have r1 := k4s.cell 1
            have f0 := k4s.frozen 0
            have f1 := k4s.frozen 1
            have l4' := k4s.lt
            go_wp2
            refine bodyPost_ret (v := .tuple #[.agg #[.int .u64 0, .int .u8 0], .int .i64 7]) (by simp [results, Try.results9, go_sem, r0, r1]) rfl ⟨by rw [HX.out]; rfl, ?_⟩
            repeat (first | (with_reducible refine Below.setCell ?_ (by dsimp only; omega) _))
            exact bw2
          · have HX := Lib.hid (turn_next b node hne (by omega) hf)
            have hw : IntKind.u64.wrap ((b.n : Int) + 1) = (b.n : Int) + 1 := by rw [IntKind.wrap_u64]; omega
            have t3 : ((b.n : Int) + 1 == 0) = false := beq_eq_false_iff_ne.2 (by omega)
            clear hne hlt2 hf
            go_enter Try.func9, Try.ntmps9
            go_wp2_with fail
            refine (check_any b _).mono ?_
            rintro e w1 ⟨rfl, b1⟩
            have k2 := Blk.later (b := w.heap.size) (Blk.alloc (Blk.new _ _) _) b1
            have k4 := Blk.later (b := w.heap.size + 1) (Blk.newAt _ (by simp)) b1
            have bw1 : Below w.heap.size w w1 := (below2 _ _ _).trans (b1.mono (by simp; omega))
            rw [HC.out]
            clear b1
            have a0 := k2.cell 0
            have a1 := k2.cell 1
            have l4 := k4.lt
            have d0 : (w1.alloc (.cells #[.int .u64 b.n, .int .u8 node] 25)).cell? ⟨w.heap.size, 0, none⟩ = some (.int .u64 b.n) := (k2.alloc _).cell 0
            have d1 : (w1.alloc (.cells #[.int .u64 b.n, .int .u8 node] 25)).cell? ⟨w.heap.size, 1, none⟩ = some (.int .u8 b.r) := (k2.alloc _).cell 1
            go_wp2_with fail
            refine (below_any b ⟨b.n, node⟩ _).mono ?_
            rintro e w2 ⟨rfl, b2⟩
            rw [hlt]
            have k6 := (Blk.new w1 _).later b2
            have k4' := (k4.alloc _).later b2
            have bw2 := Below.later' (bw1.alloc bw1.size _) b2
            obtain ⟨n6, hn6⟩ : ∃ n6, w1.heap.size = n6 := ⟨_, rfl⟩
            rw [hn6] at k6 l4 ⊢
            clear hn6 a0 a1 d0 d1 k2 k4 b2
            go_upto_region 5 with (fail)
            have g0 : w2.cell? ⟨n6, 0, none⟩ = some (.int .u64 b.n) := k6.cell 0
            have g1 : w2.cell? ⟨n6, 1, none⟩ = some (.int .u8 node) := k6.cell 1
            have g2 := k6.frozen 0
            have l6 := k6.lt
            go_upto_region 6 with (fail)
            have k4s := k4'.other (a := ⟨n6, 0, none⟩) (by simp; omega) (.int .u64 ((b.n : Int) + 1))
            have k6s := k6.set 0 (.int .u64 ((b.n : Int) + 1))
            have bw3 := bw2.setCell (p := ⟨n6, 0, none⟩) (by simp; omega) (.int .u64 ((b.n : Int) + 1))
            clear g0 g1 g2 k6 k4' bw2
            generalize w2.setCell ⟨n6, 0, none⟩ (.int .u64 ((b.n : Int) + 1)) = w3 at *
            have bw2 := bw3
            clear bw3
            have g0 : w3.cell? ⟨n6, 0, none⟩ = some (.int .u64 ((b.n : Int) + 1)) := k6s.cell 0
            have g1 : w3.cell? ⟨n6, 1, none⟩ = some (.int .u8 node) := k6s.cell 1
            have r0 := k4s.cell 0
            have r1 := k4s.cell 1
            have f0 := k4s.frozen 0
            have f1 := k4s.frozen 1
            have l4' := k4s.lt
            go_wp2
            refine bodyPost_ret (v := .tuple #[.agg #[.int .u64 (b.n + 1), .int .u8 node], .int .i64 0]) (by simp [results, Try.results9, go_sem, r0, r1]) rfl ⟨by rw [HX.out]; rfl, ?_⟩
            repeat (first | (with_reducible refine Below.setCell ?_ (by dsimp only; omega) _))
            exact bw2
        · have hlt2 := (lt_iff _ _).1 hlt
          have HX := Lib.hid (turn_same b node hne (by simp only at hlt2; omega))
          clear hne hlt2
          go_enter Try.func9, Try.ntmps9
          go_wp2_with fail
          refine (check_any b _).mono ?_
          rintro e w1 ⟨rfl, b1⟩
          have k2 := Blk.later (b := w.heap.size) (Blk.alloc (Blk.new _ _) _) b1
          have k4 := Blk.later (b := w.heap.size + 1) (Blk.newAt _ (by simp)) b1
          have bw1 : Below w.heap.size w w1 := (below2 _ _ _).trans (b1.mono (by simp; omega))
          rw [HC.out]
          clear b1
          have a0 := k2.cell 0
          have a1 := k2.cell 1
          have l4 := k4.lt
          have d0 : (w1.alloc (.cells #[.int .u64 b.n, .int .u8 node] 25)).cell? ⟨w.heap.size, 0, none⟩ = some (.int .u64 b.n) := (k2.alloc _).cell 0
          have d1 : (w1.alloc (.cells #[.int .u64 b.n, .int .u8 node] 25)).cell? ⟨w.heap.size, 1, none⟩ = some (.int .u8 b.r) := (k2.alloc _).cell 1
          go_wp2_with fail
          refine (below_any b ⟨b.n, node⟩ _).mono ?_
          rintro e w2 ⟨rfl, b2⟩
          rw [hlt]
          have k6 := (Blk.new w1 _).later b2
          have k4' := (k4.alloc _).later b2
          have bw2 := Below.later' (bw1.alloc bw1.size _) b2
          have g0 := k6.cell 0
          have g1 := k6.cell 1
          clear a0 a1 d0 d1 k2 k4 b2
          have r0 := k4'.cell 0
          have r1 := k4'.cell 1
          have f0 := k4'.frozen 0
          have f1 := k4'.frozen 1
          have l4' := k4'.lt
          go_wp2
          refine bodyPost_ret (v := .tuple #[bv ⟨b.n, node⟩, .int .i64 0]) (by simp [results, Try.results9, go_sem, r0, r1]) rfl ⟨by rw [HX.out]; rfl, ?_⟩
          repeat (first | (with_reducible refine Below.setCell ?_ (by dsimp only; omega) _))
          exact bw2
end Bal
end Go.Proofs.Yteaegdigkdghpaa
