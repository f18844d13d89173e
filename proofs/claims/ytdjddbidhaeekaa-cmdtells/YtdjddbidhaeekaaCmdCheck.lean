/-
  cmd.Check: whether a command may be.
-/
import Derived.Test.YtdjddbidhaeekaaCmdPure
import Derived.Test.YtdjddbidhaeekaaOrd
import Derived.Test.YtdjddbidhaeekaaBlk
import Derived.Maps.Own
import Derived.Maps.OwnSet
import Derived.Maps.OwnOps
import Derived.Deep.DeepCutAuto
namespace Go.Proofs.Ytdjddbidhaeekaa
open Go.RowKit Go.WideShapes
open Go.Maps
namespace Cm
def Dk : DataW Unit := .map [(.int .u8 1, .lit (.int .i64 1)), (.int .u8 2, .lit (.int .i64 5)), (.int .u8 3, .lit (.int .i64 1)), (.int .u8 4, .lit (.int .i64 7)), (.int .u8 5, .lit (.int .i64 8))]
theorem law8 : Keyed Try.prog 5 := int_keyed Try.underlying5
theorem zeroInt (w : World) : (zeroValue 3).run Try.prog w = .ok (.int .i64 0) w := by kernel_rfl
theorem kinds_any (w : World) : Calls Try.prog 23 #[] w fun e w' => e = .returned (.map (some w.heap.size)) ∧ w'.ownsMap Try.prog 5 (plainElem Try.prog 3) w.heap.size 5 Dk ∧ Below w.heap.size w w' := by
  have hmm := @run_makeMap Try.prog
  have o0 := World.ownsMap_made (H := Unit) w Try.prog 5 (plainElem Try.prog 3)
  have g0 := below1 w (.map #[] 0)
  obtain ⟨w1, e1, o1, h1⟩ := o0.update (t := 53) (key := .int .u8 1) (val := .int .i64 1) law8 Try.underlying53 (by decide) (keyOf_int_mk Try.underlying5 (by decide)) (plainElem_int Try.underlying3 (by decide))
  have g1 := g0.grown h1 g0.size (fun k hk => by cases hk; exact Nat.le_refl _)
  obtain ⟨w2, e2, o2, h2⟩ := o1.update (t := 53) (key := .int .u8 2) (val := .int .i64 5) law8 Try.underlying53 (by decide) (keyOf_int_mk Try.underlying5 (by decide)) (plainElem_int Try.underlying3 (by decide))
  have g2 := g1.grown h2 g1.size (fun k hk => by cases hk; exact Nat.le_refl _)
  obtain ⟨w3, e3, o3, h3⟩ := o2.update (t := 53) (key := .int .u8 3) (val := .int .i64 1) law8 Try.underlying53 (by decide) (keyOf_int_mk Try.underlying5 (by decide)) (plainElem_int Try.underlying3 (by decide))
  have g3 := g2.grown h3 g2.size (fun k hk => by cases hk; exact Nat.le_refl _)
  obtain ⟨w4, e4, o4, h4⟩ := o3.update (t := 53) (key := .int .u8 4) (val := .int .i64 7) law8 Try.underlying53 (by decide) (keyOf_int_mk Try.underlying5 (by decide)) (plainElem_int Try.underlying3 (by decide))
  have g4 := g3.grown h4 g3.size (fun k hk => by cases hk; exact Nat.le_refl _)
  obtain ⟨w5, e5, o5, h5⟩ := o4.update (t := 53) (key := .int .u8 5) (val := .int .i64 8) law8 Try.underlying53 (by decide) (keyOf_int_mk Try.underlying5 (by decide)) (plainElem_int Try.underlying3 (by decide))
  have g5 := g4.grown h5 g4.size (fun k hk => by cases hk; exact Nat.le_refl _)
  have hD : (((((DataW.map (H := Unit) []).put (.int .u8 1) (.lit (.int .i64 1))).put (.int .u8 2) (.lit (.int .i64 5))).put (.int .u8 3) (.lit (.int .i64 1))).put (.int .u8 4) (.lit (.int .i64 7))).put (.int .u8 5) (.lit (.int .i64 8)) = Dk := by rfl
  rw [hD] at o5
  clear hD o0 o1 o2 o3 o4 h1 h2 h3 h4 h5 g0 g1 g2 g3 g4
  go_enter Try.func23, Try.ntmps23
  go_wp2
  go_ret
  exact ⟨rfl, o5, g5⟩
def bitK (k : Nat) : Nat := if k = 1 then 1 else if k = 2 then 5 else if k = 3 then 1 else if k = 4 then 7 else if k = 5 then 8 else 0
theorem Dk_has : ∀ k : Nat, Maps.has Dk (.int .u8 k) = decide (1 ≤ k ∧ k ≤ 5)
  | 0 => rfl
  | 1 => rfl
  | 2 => rfl
  | 3 => rfl
  | 4 => rfl
  | 5 => rfl
  | k + 6 => by
    simp [Maps.has, Dk, Lit.sameKey]
    omega
theorem Dk_at : ∀ k : Nat, Dk.atKey (.int .u8 k) (.lit (.int .i64 0)) = .lit (.int .i64 (bitK k))
  | 0 => rfl
  | 1 => rfl
  | 2 => rfl
  | 3 => rfl
  | 4 => rfl
  | 5 => rfl
  | k + 6 => by
    have h : bitK (k + 6) = 0 := by unfold bitK; simp
    rw [h]
    rw [Dk]
    simp only [DataW.atKey, Lit.sameKey, List.find?, show decide (True ∧ (1 : Int) = ((k + 6 : Nat) : Int)) = false from decide_eq_false (by omega), show decide (True ∧ (2 : Int) = ((k + 6 : Nat) : Int)) = false from decide_eq_false (by omega), show decide (True ∧ (3 : Int) = ((k + 6 : Nat) : Int)) = false from decide_eq_false (by omega), show decide (True ∧ (4 : Int) = ((k + 6 : Nat) : Int)) = false from decide_eq_false (by omega), show decide (True ∧ (5 : Int) = ((k + 6 : Nat) : Int)) = false from decide_eq_false (by omega)]
    rfl
theorem bit_1 (k : Nat) (h : 1 ≤ k ∧ k ≤ 5) : (bits .and .i64 (bitK k : Int) 1 == 0) = decide (k = 5) := by
  have : k = 1 ∨ k = 2 ∨ k = 3 ∨ k = 4 ∨ k = 5 := by omega
  rcases this with rfl | rfl | rfl | rfl | rfl <;> decide
theorem bit_2 (k : Nat) (h : 1 ≤ k ∧ k ≤ 5) : (bits .and .i64 (bitK k : Int) 2 == 0) = decide (k ≠ 4) := by
  have : k = 1 ∨ k = 2 ∨ k = 3 ∨ k = 4 ∨ k = 5 := by omega
  rcases this with rfl | rfl | rfl | rfl | rfl <;> decide
theorem bit_4 (k : Nat) (h : 1 ≤ k ∧ k ≤ 5) : (bits .and .i64 (bitK k : Int) 4 == 0) = decide (¬ (k = 2 ∨ k = 4)) := by
  have : k = 1 ∨ k = 2 ∨ k = 3 ∨ k = 4 ∨ k = 5 := by omega
  rcases this with rfl | rfl | rfl | rfl | rfl <;> decide
theorem bit_8 (k : Nat) (h : 1 ≤ k ∧ k ≤ 5) : (bits .and .i64 (bitK k : Int) 8 == 0) = decide (k ≠ 5) := by
  have : k = 1 ∨ k = 2 ∨ k = 3 ∨ k = 4 ∨ k = 5 := by omega
  rcases this with rfl | rfl | rfl | rfl | rfl <;> decide
theorem long_any (s : ByteArray) (most part : Nat) (hs : Nat) (b : Nat) (w : World) (hc : w.cell? ⟨b, 0, none⟩ = some (.int .i64 hs)) (f : Bool) (hf : (bits .and .i64 (hs : Int) (part : Int) == 0) = f) (z : Bool) (hz : z = (decide (most < s.size) || (decide (s.size ≠ 0) && f))) :
    Calls Try.prog 24 #[.string s, .int .i64 most, .int .i64 part, .pointer (some ⟨b, 0, none⟩)] w fun e w' => e = .returned (.bool z) ∧ w = w' := by
  have n1 := size_ne s
  have n2 := size_eq s
  have n3 := size_list s
  by_cases h1 : most < s.size
  · have HZ := Lib.hid (show z = true by rw [hz]; simp [h1])
    have d1 : decide ((most : Int) < (s.size : Int)) = true := decide_eq_true (by omega)
    have d1' : decide (most < s.size) = true := decide_eq_true h1
    clear hz
    go_enter Try.func24, Try.ntmps24
    go_wp2
    go_ret
    exact ⟨by rw [HZ.out]; rfl, rfl⟩
  · have d1 : decide ((most : Int) < (s.size : Int)) = false := decide_eq_false (by omega)
    have d1' : decide (most < s.size) = false := decide_eq_false h1
    by_cases h2 : s.size = 0
    · have HZ := Lib.hid (show z = false by rw [hz, d1']; simp [h2])
      have m1 : decide (s.size = 0) = true := decide_eq_true h2
      have m2 : decide (s.size ≠ 0) = false := decide_eq_false (by omega)
      rw [m1] at n2 n3
      rw [m2] at n1
      clear hz m1 m2 h2 h1
      go_enter Try.func24, Try.ntmps24
      go_wp2
      go_ret
      exact ⟨by rw [HZ.out]; rfl, rfl⟩
    · have HZ := Lib.hid (show z = f by rw [hz, d1']; simp [h2])
      have m1 : decide (s.size = 0) = false := decide_eq_false h2
      have m2 : decide (s.size ≠ 0) = true := decide_eq_true h2
      rw [m1] at n2 n3
      rw [m2] at n1
      clear hz m1 m2 h2 h1
      obtain ⟨r, hr⟩ : ∃ r, bits .and .i64 (hs : Int) (part : Int) = r := ⟨_, rfl⟩
      rw [hr] at hf
      go_enter Try.func24, Try.ntmps24
      go_wp2
      go_ret
      exact ⟨by rw [HZ.out]; rfl, rfl⟩
def chk (x : Cm) : Int := if x.may then 0 else 2
set_option maxRecDepth 100000 in
set_option maxHeartbeats 4000000 in
theorem check_any (x : Cm) (hx : x.ok) (w : World) : Calls Try.prog 11 #[x.val] w fun e w' => e = .returned (.int .i64 (chk x)) ∧ Below w.heap.size w w' := by
  have HN := Lib.hid (show ¬ x.may → chk x = 2 from fun h => if_neg h)
  have HP := Lib.hid (show x.may → chk x = 0 from fun h => if_pos h)
  obtain ⟨ox1, ox2, ox3, ox4, ox5, ox6, ox7⟩ := hx
  have wfk : (Lit.int .u8 (x.kd : Int)).wf = true := WalkArith.wf_u8 (by omega)
  go_enter Try.func11, Try.ntmps11
  go_wp2_with fail
  have kB := Blk.new w (.cells #[.int .u8 x.cl, .int .u32 x.sq, .int .u8 x.kd, .string x.key, .string x.old, .string x.new, .int .u8 x.set] 25)
  have hB := below1 w (.cells #[.int .u8 x.cl, .int .u32 x.sq, .int .u8 x.kd, .string x.key, .string x.old, .string x.new, .int .u8 x.set] 25)
  have hz := kB.lt
  generalize w.alloc (.cells #[.int .u8 x.cl, .int .u32 x.sq, .int .u8 x.kd, .string x.key, .string x.old, .string x.new, .int .u8 x.set] 25) = W at kB hB hz ⊢
  obtain ⟨z0, hz0⟩ : ∃ z : Bool, decide (1 ≤ x.kd ∧ x.kd ≤ 5) = z := ⟨_, rfl⟩
  go_cut [3, 4] (fun s3 s4 wx => ∃ bh : Nat, s3 = .pointer (some ⟨bh, 0, none⟩) ∧ s4 = .bool z0 ∧ Blk wx bh (.cells #[.int .i64 (bitK x.kd)] 3) ∧ Below W.heap.size W wx)
  case first =>
    have F := kB.held
    have BB : Below W.heap.size W W.drew := Below.drew (Below.refl _ _)
    refine wp_region_way (fun w' => Below W.heap.size W w') (.go 1 (.go 2 (.two 0 7 (.two 3 7 (.go 4 (.go 5 (.go 6 (.go 7 (.go 8 (.go 9 .nil)))))) (.go 3 (.go 4 (.go 5 (.go 6 (.go 8 (.go 9 .nil))))))) (.go 0 (.go 3 (.go 4 (.go 5 (.go 6 (.go 8 (.go 9 .nil)))))))))) [0, 3, 7, 8] (by kernel_rfl) (by kernel_rfl) (by intro c d v a w h; cases d <;> exact h) BB ?_
    repeat (first
      | (refine wpWay_take (v := ?_) rfl rfl ?_ ?_ ?_; rotate_left; rfl; (· intro w' hSw; (try dsimp only at hSw); go_simp <;> with_reducible rfl); simp only [Act.put, List.setIfInBounds_toArray, List.set_cons_zero, List.set_cons_succ])
      | (refine wpWay_skip rfl rfl ?_ ?_; rfl; simp only [Act.put, List.setIfInBounds_toArray, List.set_cons_zero, List.set_cons_succ]))
    refine wpWay_two rfl rfl (fun K hK => ?_) (fun K hK => ?_)
    · go_wp2_with fail
      refine (kinds_any _).mono ?_
      rintro e w1 ⟨rfl, om, b1⟩
      have BB := BB.trans (b1.mono BB.size)
      go_wp2_with fail
      refine hK.out _ _ BB ?_
      clear hK K
      repeat (first
        | (refine wpWay_take (v := ?_) rfl rfl ?_ ?_ ?_; rotate_left; rfl; (· intro w' hSw; (try dsimp only at hSw); go_simp <;> with_reducible rfl); simp only [Act.put, List.setIfInBounds_toArray, List.set_cons_zero, List.set_cons_succ])
        | (refine wpWay_skip rfl rfl ?_ ?_; rfl; simp only [Act.put, List.setIfInBounds_toArray, List.set_cons_zero, List.set_cons_succ]))
      refine wpWay_two rfl rfl (fun K hK => ?_) (fun K hK => ?_)
      · refine wpList_lookup_own_ok_int _ rfl _ _ 53 rfl 5 3 .i64 law8 Try.underlying53 Try.underlying3 (zeroInt _) _ 5 Dk rfl om _ (.int .u8 x.kd) rfl (keyOf_int_mk Try.underlying5 wfk) ?_
        intro c hat hwc
        have hc : c = bitK x.kd := by rw [Dk_at] at hat; injection hat with h; injection h with h1 h2; exact h2.symm
        subst hc
        rw [Dk_has, hz0]
        go_wp2_with fail
        refine hK.out _ _ BB ?_
        clear hK K
        repeat (first
          | (refine wpWay_take (v := ?_) rfl rfl ?_ ?_ ?_; rotate_left; rfl; (· intro w' hSw; (try dsimp only at hSw); go_simp <;> with_reducible rfl); simp only [Act.put, List.setIfInBounds_toArray, List.set_cons_zero, List.set_cons_succ])
          | (refine wpWay_skip rfl rfl ?_ ?_; rfl; simp only [Act.put, List.setIfInBounds_toArray, List.set_cons_zero, List.set_cons_succ]))
        refine wpWay_eff rfl rfl (fun K hK => ?_)
        go_wp2_with fail
        have kH := Blk.new w1 (.cells #[.int .i64 0] 3)
        have BB := BB.alloc BB.size (.cells #[.int .i64 0] 3)
        have om := om.alloc (.cells #[.int .i64 0] 3)
        have kz : W.heap.size ≤ w1.heap.size := b1.size
        obtain ⟨wh, hwh⟩ : ∃ wh, w1.alloc (.cells #[.int .i64 0] 3) = wh := ⟨_, rfl⟩
        rw [hwh] at kH BB om ⊢
        clear hwh
        obtain ⟨hb, hhb⟩ : ∃ hb, w1.heap.size = hb := ⟨_, rfl⟩
        rw [hhb] at kH kz ⊢
        refine hK.out _ _ BB ?_
        clear hK K
        repeat (first
          | (refine wpWay_take (v := ?_) rfl rfl ?_ ?_ ?_; rotate_left; rfl; (· intro w' hSw; (try dsimp only at hSw); go_simp <;> with_reducible rfl); simp only [Act.put, List.setIfInBounds_toArray, List.set_cons_zero, List.set_cons_succ])
          | (refine wpWay_skip rfl rfl ?_ ?_; rfl; simp only [Act.put, List.setIfInBounds_toArray, List.set_cons_zero, List.set_cons_succ]))
        refine wpWay_eff rfl rfl (fun K hK => ?_)
        have kf := kH.frozen 0
        have kc := kH.cell 0
        have kl := kH.lt
        have kS := kH.set 0 (.int .i64 (bitK x.kd))
        have BB := BB.setCell (p := ⟨hb, 0, none⟩) kz (.int .i64 (bitK x.kd))
        go_wp2_with fail
        refine hK.out _ _ BB ?_
        clear hK K
        repeat (first
          | (refine wpWay_take (v := ?_) rfl rfl ?_ ?_ ?_; rotate_left; rfl; (· intro w' hSw; (try dsimp only at hSw); go_simp <;> with_reducible rfl); simp only [Act.put, List.setIfInBounds_toArray, List.set_cons_zero, List.set_cons_succ])
          | (refine wpWay_skip rfl rfl ?_ ?_; rfl; simp only [Act.put, List.setIfInBounds_toArray, List.set_cons_zero, List.set_cons_succ]))
        refine wpWay_nil ?_
        go_wp2
        go_meet
        exact ⟨_, rfl, rfl, kS, BB⟩
      · go_wp2_with fail
        have kH := Blk.new w1 (.cells #[.int .i64 0] 3)
        have BB := BB.alloc BB.size (.cells #[.int .i64 0] 3)
        have om := om.alloc (.cells #[.int .i64 0] 3)
        have kz : W.heap.size ≤ w1.heap.size := b1.size
        obtain ⟨wh, hwh⟩ : ∃ wh, w1.alloc (.cells #[.int .i64 0] 3) = wh := ⟨_, rfl⟩
        rw [hwh] at kH BB om ⊢
        clear hwh
        obtain ⟨hb, hhb⟩ : ∃ hb, w1.heap.size = hb := ⟨_, rfl⟩
        rw [hhb] at kH kz ⊢
        refine hK.out _ _ BB ?_
        clear hK K
        repeat (first
          | (refine wpWay_take (v := ?_) rfl rfl ?_ ?_ ?_; rotate_left; rfl; (· intro w' hSw; (try dsimp only at hSw); go_simp <;> with_reducible rfl); simp only [Act.put, List.setIfInBounds_toArray, List.set_cons_zero, List.set_cons_succ])
          | (refine wpWay_skip rfl rfl ?_ ?_; rfl; simp only [Act.put, List.setIfInBounds_toArray, List.set_cons_zero, List.set_cons_succ]))
        refine wpWay_eff rfl rfl (fun K hK => ?_)
        refine wpList_lookup_own_ok_int _ rfl _ _ 53 rfl 5 3 .i64 law8 Try.underlying53 Try.underlying3 (zeroInt _) _ 5 Dk rfl om _ (.int .u8 x.kd) rfl (keyOf_int_mk Try.underlying5 wfk) ?_
        intro c hat hwc
        have hc : c = bitK x.kd := by rw [Dk_at] at hat; injection hat with h; injection h with h1 h2; exact h2.symm
        subst hc
        rw [Dk_has, hz0]
        go_wp2_with fail
        refine hK.out _ _ BB ?_
        clear hK K
        repeat (first
          | (refine wpWay_take (v := ?_) rfl rfl ?_ ?_ ?_; rotate_left; rfl; (· intro w' hSw; (try dsimp only at hSw); go_simp <;> with_reducible rfl); simp only [Act.put, List.setIfInBounds_toArray, List.set_cons_zero, List.set_cons_succ])
          | (refine wpWay_skip rfl rfl ?_ ?_; rfl; simp only [Act.put, List.setIfInBounds_toArray, List.set_cons_zero, List.set_cons_succ]))
        refine wpWay_eff rfl rfl (fun K hK => ?_)
        have kf := kH.frozen 0
        have kc := kH.cell 0
        have kl := kH.lt
        have kS := kH.set 0 (.int .i64 (bitK x.kd))
        have BB := BB.setCell (p := ⟨hb, 0, none⟩) kz (.int .i64 (bitK x.kd))
        go_wp2_with fail
        refine hK.out _ _ BB ?_
        clear hK K
        repeat (first
          | (refine wpWay_take (v := ?_) rfl rfl ?_ ?_ ?_; rotate_left; rfl; (· intro w' hSw; (try dsimp only at hSw); go_simp <;> with_reducible rfl); simp only [Act.put, List.setIfInBounds_toArray, List.set_cons_zero, List.set_cons_succ])
          | (refine wpWay_skip rfl rfl ?_ ?_; rfl; simp only [Act.put, List.setIfInBounds_toArray, List.set_cons_zero, List.set_cons_succ]))
        refine wpWay_nil ?_
        go_wp2
        go_meet
        exact ⟨_, rfl, rfl, kS, BB⟩
    · go_wp2_with fail
      have kH := (Blk.new W (.cells #[.int .i64 0] 3)).drew
      have BB := (BB.alloc BB.size (.cells #[.int .i64 0] 3))
      have BB : Below W.heap.size W (W.alloc (.cells #[.int .i64 0] 3)).drew := BB
      have kz : W.heap.size ≤ W.heap.size := Nat.le_refl _
      obtain ⟨wh, hwh⟩ : ∃ wh, (W.alloc (.cells #[.int .i64 0] 3)).drew = wh := ⟨_, rfl⟩
      rw [hwh] at kH BB ⊢
      clear hwh
      refine hK.out _ _ BB ?_
      clear hK K
      repeat (first
        | (refine wpWay_take (v := ?_) rfl rfl ?_ ?_ ?_; rotate_left; rfl; (· intro w' hSw; (try dsimp only at hSw); go_simp <;> with_reducible rfl); simp only [Act.put, List.setIfInBounds_toArray, List.set_cons_zero, List.set_cons_succ])
        | (refine wpWay_skip rfl rfl ?_ ?_; rfl; simp only [Act.put, List.setIfInBounds_toArray, List.set_cons_zero, List.set_cons_succ]))
      refine wpWay_eff rfl rfl (fun K hK => ?_)
      go_wp2_with fail
      refine (kinds_any _).mono ?_
      rintro e w1 ⟨rfl, om, b1⟩
      have BB := BB.trans (b1.mono BB.size)
      have kH := kH.later b1
      go_wp2_with fail
      refine hK.out _ _ BB ?_
      clear hK K
      repeat (first
        | (refine wpWay_take (v := ?_) rfl rfl ?_ ?_ ?_; rotate_left; rfl; (· intro w' hSw; (try dsimp only at hSw); go_simp <;> with_reducible rfl); simp only [Act.put, List.setIfInBounds_toArray, List.set_cons_zero, List.set_cons_succ])
        | (refine wpWay_skip rfl rfl ?_ ?_; rfl; simp only [Act.put, List.setIfInBounds_toArray, List.set_cons_zero, List.set_cons_succ]))
      refine wpWay_eff rfl rfl (fun K hK => ?_)
      refine wpList_lookup_own_ok_int _ rfl _ _ 53 rfl 5 3 .i64 law8 Try.underlying53 Try.underlying3 (zeroInt _) _ 5 Dk rfl om _ (.int .u8 x.kd) rfl (keyOf_int_mk Try.underlying5 wfk) ?_
      intro c hat hwc
      have hc : c = bitK x.kd := by rw [Dk_at] at hat; injection hat with h; injection h with h1 h2; exact h2.symm
      subst hc
      rw [Dk_has, hz0]
      go_wp2_with fail
      refine hK.out _ _ BB ?_
      clear hK K
      repeat (first
        | (refine wpWay_take (v := ?_) rfl rfl ?_ ?_ ?_; rotate_left; rfl; (· intro w' hSw; (try dsimp only at hSw); go_simp <;> with_reducible rfl); simp only [Act.put, List.setIfInBounds_toArray, List.set_cons_zero, List.set_cons_succ])
        | (refine wpWay_skip rfl rfl ?_ ?_; rfl; simp only [Act.put, List.setIfInBounds_toArray, List.set_cons_zero, List.set_cons_succ]))
      refine wpWay_eff rfl rfl (fun K hK => ?_)
      have kf := kH.frozen 0
      have kc := kH.cell 0
      have kl := kH.lt
      have kS := kH.set 0 (.int .i64 (bitK x.kd))
      have BB := BB.setCell (p := ⟨W.heap.size, 0, none⟩) kz (.int .i64 (bitK x.kd))
      go_wp2_with fail
      refine hK.out _ _ BB ?_
      clear hK K
      repeat (first
        | (refine wpWay_take (v := ?_) rfl rfl ?_ ?_ ?_; rotate_left; rfl; (· intro w' hSw; (try dsimp only at hSw); go_simp <;> with_reducible rfl); simp only [Act.put, List.setIfInBounds_toArray, List.set_cons_zero, List.set_cons_succ])
        | (refine wpWay_skip rfl rfl ?_ ?_; rfl; simp only [Act.put, List.setIfInBounds_toArray, List.set_cons_zero, List.set_cons_succ]))
      refine wpWay_nil ?_
      go_wp2
      go_meet
      exact ⟨_, rfl, rfl, kS, BB⟩
  case rest =>
    obtain ⟨bh, rfl, rfl, kH, BB⟩ := hcut
    have k1 := kB.later BB
    have F0 := k1.cell 0
    have F1 := k1.cell 1
    have F2 := k1.cell 2
    have F3 := k1.cell 3
    have F4 := k1.cell 4
    have F5 := k1.cell 5
    have F6 := k1.cell 6
    have hE := hB.trans (BB.mono hB.size)
    have kt := kH.cell 0
    by_cases hk0 : ¬ (1 ≤ x.kd ∧ x.kd ≤ 5)
    · rw [decide_eq_false hk0] at hz0
      subst hz0
      go_wp2_with fail
      go_ret
      exact ⟨by rw [HN.out (by unfold Cm.may; omega)]; rfl, hE⟩
    · have hk : 1 ≤ x.kd ∧ x.kd ≤ 5 := Classical.not_not.1 hk0
      rw [decide_eq_true hk] at hz0
      subst hz0
      by_cases hc : 4 ≤ x.cl
      · have c1 : decide ((4 : Int) ≤ (x.cl : Int)) = true := decide_eq_true (by omega)
        have c2 : decide (4 ≤ x.cl) = true := decide_eq_true hc
        go_wp2_with fail
        go_ret
        exact ⟨by rw [HN.out (by unfold Cm.may; omega)]; rfl, hE⟩
      · have c1 : decide ((4 : Int) ≤ (x.cl : Int)) = false := decide_eq_false (by omega)
        have c2 : decide (4 ≤ x.cl) = false := decide_eq_false hc
        by_cases hq : x.sq = 0
        · have q1 : ((x.sq : Int) == 0) = true := by simp; omega
          go_wp2_with fail
          go_ret
          exact ⟨by rw [HN.out (by unfold Cm.may; omega)]; rfl, hE⟩
        · have q1 : ((x.sq : Int) == 0) = false := by simp; omega
          by_cases hk1 : 16 < x.key.size ∨ x.key.size ≠ 0 ∧ x.kd = 5
          · go_wp2_with fail
            refine (long_any x.key 16 1 (bitK x.kd) bh _ (kH.cell 0) _ (bit_1 x.kd hk) true (by
              have := hk1
              by_cases p1 : 16 < x.key.size
              · simp [p1]
              · by_cases p2 : x.key.size = 0
                · omega
                · have p3 : x.kd = 5 := by omega
                  rw [decide_eq_false p1, decide_eq_true (show x.key.size ≠ 0 from p2), decide_eq_true p3]; rfl)).mono ?_
            rintro e w' ⟨rfl, rfl⟩
            go_wp2_with fail
            go_ret
            exact ⟨by rw [HN.out (by unfold Cm.may; omega)]; rfl, hE⟩
          · by_cases ho : 64 < x.old.size ∨ x.old.size ≠ 0 ∧ x.kd ≠ 4
            · go_wp2_with fail
              refine (long_any x.key 16 1 (bitK x.kd) bh _ (kH.cell 0) _ (bit_1 x.kd hk) false (by
                have := hk1
                by_cases p1 : 16 < x.key.size
                · omega
                · by_cases p2 : x.key.size = 0
                  · simp [p2]
                  · have p3 : ¬ (x.kd = 5) := fun q => by omega
                    rw [decide_eq_false p1, decide_eq_true (show x.key.size ≠ 0 from p2), decide_eq_false p3]; rfl)).mono ?_
              rintro e w' ⟨rfl, rfl⟩
              go_wp2_with fail
              refine (long_any x.old 64 2 (bitK x.kd) bh _ (kH.cell 0) _ (bit_2 x.kd hk) true (by
                have := ho
                by_cases p1 : 64 < x.old.size
                · simp [p1]
                · by_cases p2 : x.old.size = 0
                  · omega
                  · have p3 : x.kd ≠ 4 := by omega
                    rw [decide_eq_false p1, decide_eq_true (show x.old.size ≠ 0 from p2), decide_eq_true p3]; rfl)).mono ?_
              rintro e w' ⟨rfl, rfl⟩
              go_wp2_with fail
              go_ret
              exact ⟨by rw [HN.out (by unfold Cm.may; omega)]; rfl, hE⟩
            · by_cases hn : 64 < x.new.size ∨ x.new.size ≠ 0 ∧ ¬ (x.kd = 2 ∨ x.kd = 4)
              · go_wp2_with fail
                refine (long_any x.key 16 1 (bitK x.kd) bh _ (kH.cell 0) _ (bit_1 x.kd hk) false (by
                  have := hk1
                  by_cases p1 : 16 < x.key.size
                  · omega
                  · by_cases p2 : x.key.size = 0
                    · simp [p2]
                    · have p3 : ¬ (x.kd = 5) := fun q => by omega
                      rw [decide_eq_false p1, decide_eq_true (show x.key.size ≠ 0 from p2), decide_eq_false p3]; rfl)).mono ?_
                rintro e w' ⟨rfl, rfl⟩
                go_wp2_with fail
                refine (long_any x.old 64 2 (bitK x.kd) bh _ (kH.cell 0) _ (bit_2 x.kd hk) false (by
                  have := ho
                  by_cases p1 : 64 < x.old.size
                  · omega
                  · by_cases p2 : x.old.size = 0
                    · simp [p2]
                    · have p3 : ¬ (x.kd ≠ 4) := fun q => by omega
                      rw [decide_eq_false p1, decide_eq_true (show x.old.size ≠ 0 from p2), decide_eq_false p3]; rfl)).mono ?_
                rintro e w' ⟨rfl, rfl⟩
                go_wp2_with fail
                refine (long_any x.new 64 4 (bitK x.kd) bh _ (kH.cell 0) _ (bit_4 x.kd hk) true (by
                  have := hn
                  by_cases p1 : 64 < x.new.size
                  · simp [p1]
                  · by_cases p2 : x.new.size = 0
                    · omega
                    · have p3 : ¬ (x.kd = 2 ∨ x.kd = 4) := by omega
                      rw [decide_eq_false p1, decide_eq_true (show x.new.size ≠ 0 from p2), decide_eq_true p3]; rfl)).mono ?_
                rintro e w' ⟨rfl, rfl⟩
                go_wp2_with fail
                go_ret
                exact ⟨by rw [HN.out (by unfold Cm.may; omega)]; rfl, hE⟩
              · by_cases he : x.key.size = 0
                · have n1 := size_ne x.key
                  have n2 := size_eq x.key
                  have n3 := size_list x.key
                  rw [decide_eq_false (by omega)] at n1
                  rw [decide_eq_true (by omega)] at n2 n3
                  by_cases h5 : x.kd = 5
                  · have m1 := bit_1 x.kd hk
                    rw [decide_eq_true (by omega)] at m1
                    have m2 : (bits .and .i64 (bitK x.kd : Int) 1 != 0) = false := by simp only [bne, m1]; rfl
                    go_wp2_with fail
                    refine (long_any x.key 16 1 (bitK x.kd) bh _ (kH.cell 0) _ (bit_1 x.kd hk) false (by
                      have := hk1
                      by_cases p1 : 16 < x.key.size
                      · omega
                      · by_cases p2 : x.key.size = 0
                        · simp [p2]
                        · have p3 : ¬ (x.kd = 5) := fun q => by omega
                          rw [decide_eq_false p1, decide_eq_true (show x.key.size ≠ 0 from p2), decide_eq_false p3]; rfl)).mono ?_
                    rintro e w' ⟨rfl, rfl⟩
                    go_wp2_with fail
                    refine (long_any x.old 64 2 (bitK x.kd) bh _ (kH.cell 0) _ (bit_2 x.kd hk) false (by
                      have := ho
                      by_cases p1 : 64 < x.old.size
                      · omega
                      · by_cases p2 : x.old.size = 0
                        · simp [p2]
                        · have p3 : ¬ (x.kd ≠ 4) := fun q => by omega
                          rw [decide_eq_false p1, decide_eq_true (show x.old.size ≠ 0 from p2), decide_eq_false p3]; rfl)).mono ?_
                    rintro e w' ⟨rfl, rfl⟩
                    go_wp2_with fail
                    refine (long_any x.new 64 4 (bitK x.kd) bh _ (kH.cell 0) _ (bit_4 x.kd hk) false (by
                      have := hn
                      by_cases p1 : 64 < x.new.size
                      · omega
                      · by_cases p2 : x.new.size = 0
                        · simp [p2]
                        · have p3 : ¬ (¬ (x.kd = 2 ∨ x.kd = 4)) := fun q => by omega
                          rw [decide_eq_false p1, decide_eq_true (show x.new.size ≠ 0 from p2), decide_eq_false p3]; rfl)).mono ?_
                    rintro e w' ⟨rfl, rfl⟩
                    have kt := kH.cell 0
                    by_cases hs : x.set = 0
                    · have s1 : ((x.set : Int) != 0) = false := by simp; omega
                      have s2 : ((x.set : Int) == 0) = true := by simp; omega
                      go_wp2_with fail
                      go_ret
                      exact ⟨by rw [HP.out (by unfold Cm.may; omega)]; rfl, hE⟩
                    · have s1 : ((x.set : Int) != 0) = true := by simp; omega
                      have s2 : ((x.set : Int) == 0) = false := by simp; omega
                      have m3 := bit_8 x.kd hk
                      rw [decide_eq_false (by omega)] at m3
                      have m4 : (bits .and .i64 (bitK x.kd : Int) 8 != 0) = true := by simp only [bne, m3]; rfl
                      go_wp2_with fail
                      go_ret
                      exact ⟨by rw [HP.out (by unfold Cm.may; omega)]; rfl, hE⟩
                  · have m1 := bit_1 x.kd hk
                    rw [decide_eq_false (by omega)] at m1
                    have m2 : (bits .and .i64 (bitK x.kd : Int) 1 != 0) = true := by simp only [bne, m1]; rfl
                    go_wp2_with fail
                    refine (long_any x.key 16 1 (bitK x.kd) bh _ (kH.cell 0) _ (bit_1 x.kd hk) false (by
                      have := hk1
                      by_cases p1 : 16 < x.key.size
                      · omega
                      · by_cases p2 : x.key.size = 0
                        · simp [p2]
                        · have p3 : ¬ (x.kd = 5) := fun q => by omega
                          rw [decide_eq_false p1, decide_eq_true (show x.key.size ≠ 0 from p2), decide_eq_false p3]; rfl)).mono ?_
                    rintro e w' ⟨rfl, rfl⟩
                    go_wp2_with fail
                    refine (long_any x.old 64 2 (bitK x.kd) bh _ (kH.cell 0) _ (bit_2 x.kd hk) false (by
                      have := ho
                      by_cases p1 : 64 < x.old.size
                      · omega
                      · by_cases p2 : x.old.size = 0
                        · simp [p2]
                        · have p3 : ¬ (x.kd ≠ 4) := fun q => by omega
                          rw [decide_eq_false p1, decide_eq_true (show x.old.size ≠ 0 from p2), decide_eq_false p3]; rfl)).mono ?_
                    rintro e w' ⟨rfl, rfl⟩
                    go_wp2_with fail
                    refine (long_any x.new 64 4 (bitK x.kd) bh _ (kH.cell 0) _ (bit_4 x.kd hk) false (by
                      have := hn
                      by_cases p1 : 64 < x.new.size
                      · omega
                      · by_cases p2 : x.new.size = 0
                        · simp [p2]
                        · have p3 : ¬ (¬ (x.kd = 2 ∨ x.kd = 4)) := fun q => by omega
                          rw [decide_eq_false p1, decide_eq_true (show x.new.size ≠ 0 from p2), decide_eq_false p3]; rfl)).mono ?_
                    rintro e w' ⟨rfl, rfl⟩
                    have kt := kH.cell 0
                    go_wp2_with fail
                    go_ret
                    exact ⟨by rw [HN.out (by unfold Cm.may; omega)]; rfl, hE⟩
                · have n1 := size_ne x.key
                  have n2 := size_eq x.key
                  have n3 := size_list x.key
                  rw [decide_eq_true (by omega)] at n1
                  rw [decide_eq_false (by omega)] at n2 n3
                  go_wp2_with fail
                  refine (long_any x.key 16 1 (bitK x.kd) bh _ (kH.cell 0) _ (bit_1 x.kd hk) false (by
                    have := hk1
                    by_cases p1 : 16 < x.key.size
                    · omega
                    · by_cases p2 : x.key.size = 0
                      · simp [p2]
                      · have p3 : ¬ (x.kd = 5) := fun q => by omega
                        rw [decide_eq_false p1, decide_eq_true (show x.key.size ≠ 0 from p2), decide_eq_false p3]; rfl)).mono ?_
                  rintro e w' ⟨rfl, rfl⟩
                  go_wp2_with fail
                  refine (long_any x.old 64 2 (bitK x.kd) bh _ (kH.cell 0) _ (bit_2 x.kd hk) false (by
                    have := ho
                    by_cases p1 : 64 < x.old.size
                    · omega
                    · by_cases p2 : x.old.size = 0
                      · simp [p2]
                      · have p3 : ¬ (x.kd ≠ 4) := fun q => by omega
                        rw [decide_eq_false p1, decide_eq_true (show x.old.size ≠ 0 from p2), decide_eq_false p3]; rfl)).mono ?_
                  rintro e w' ⟨rfl, rfl⟩
                  go_wp2_with fail
                  refine (long_any x.new 64 4 (bitK x.kd) bh _ (kH.cell 0) _ (bit_4 x.kd hk) false (by
                    have := hn
                    by_cases p1 : 64 < x.new.size
                    · omega
                    · by_cases p2 : x.new.size = 0
                      · simp [p2]
                      · have p3 : ¬ (¬ (x.kd = 2 ∨ x.kd = 4)) := fun q => by omega
                        rw [decide_eq_false p1, decide_eq_true (show x.new.size ≠ 0 from p2), decide_eq_false p3]; rfl)).mono ?_
                  rintro e w' ⟨rfl, rfl⟩
                  have kt := kH.cell 0
                  by_cases hs : x.set = 0
                  · have s1 : ((x.set : Int) != 0) = false := by simp; omega
                    have s2 : ((x.set : Int) == 0) = true := by simp; omega
                    go_wp2_with fail
                    go_ret
                    exact ⟨by rw [HP.out (by unfold Cm.may; omega)]; rfl, hE⟩
                  · have s1 : ((x.set : Int) != 0) = true := by simp; omega
                    have s2 : ((x.set : Int) == 0) = false := by simp; omega
                    have h5 : x.kd ≠ 5 := by omega
                    have m3 := bit_8 x.kd hk
                    rw [decide_eq_true (by omega)] at m3
                    have m4 : (bits .and .i64 (bitK x.kd : Int) 8 != 0) = false := by simp only [bne, m3]; rfl
                    go_wp2_with fail
                    go_ret
                    exact ⟨by rw [HN.out (by unfold Cm.may; omega)]; rfl, hE⟩
end Cm
end Go.Proofs.Ytdjddbidhaeekaa
