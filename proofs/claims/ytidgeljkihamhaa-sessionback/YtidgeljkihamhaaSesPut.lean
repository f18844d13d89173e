/-
  Sessions: tables and what was kept, alike; their bytes, both ways.
-/
import Derived.Test.YtidgeljkihamhaaSesRef
import Derived.Test.YtidgeljkihamhaaSesRises
import Derived.Test.YtidgeljkihamhaaWireStr
import Derived.Test.YtidgeljkihamhaaWireRStr
import Derived.Test.YtidgeljkihamhaaWireSrc
namespace Go.Proofs.Ytidgeljkihamhaa
open Go.RowKit Go.WideShapes
namespace Ses
open Wire
theorem neq_rep (c : Nat) (t : ByteArray) (w : World) : (binOp .neq 25 (.agg #[.int .u8 c, .string t]) (.agg #[.int .u8 c, .string t])).run Try.prog w = .ok (.bool false) w := by go_simp
theorem tab_cell {w : World} {n : Nat} {T : Nat → L} {k : Nat} (hk : k < 4) (h : Blk w n (.cells (tabA T) 31)) : w.cell? ⟨n, k * 3, none⟩ = some (.int .u32 (T k).q) ∧ w.cell? ⟨n, k * 3 + 1, none⟩ = some (.int .u8 (T k).c) ∧ w.cell? ⟨n, k * 3 + 2, none⟩ = some (.string (T k).t) := by
  have : k = 0 ∨ k = 1 ∨ k = 2 ∨ k = 3 := by omega
  rcases this with rfl | rfl | rfl | rfl <;> exact ⟨h.cell _, h.cell _, h.cell _⟩
theorem tab_index0 (T : Nat → L) (w : World) : (Instr.index 31 (.agg #[.int .u32 (T 0).q, .int .u8 (T 0).c, .string (T 0).t, .int .u32 (T 1).q, .int .u8 (T 1).c, .string (T 1).t, .int .u32 (T 2).q, .int .u8 (T 2).c, .string (T 2).t, .int .u32 (T 3).q, .int .u8 (T 3).c, .string (T 3).t]) (.int .i64 0)).run Try.prog w = .ok (.agg #[.int .u32 (T 0).q, .int .u8 (T 0).c, .string (T 0).t]) w := by kernel_rfl
theorem tab_index1 (T : Nat → L) (w : World) : (Instr.index 31 (.agg #[.int .u32 (T 0).q, .int .u8 (T 0).c, .string (T 0).t, .int .u32 (T 1).q, .int .u8 (T 1).c, .string (T 1).t, .int .u32 (T 2).q, .int .u8 (T 2).c, .string (T 2).t, .int .u32 (T 3).q, .int .u8 (T 3).c, .string (T 3).t]) (.int .i64 1)).run Try.prog w = .ok (.agg #[.int .u32 (T 1).q, .int .u8 (T 1).c, .string (T 1).t]) w := by kernel_rfl
theorem tab_index2 (T : Nat → L) (w : World) : (Instr.index 31 (.agg #[.int .u32 (T 0).q, .int .u8 (T 0).c, .string (T 0).t, .int .u32 (T 1).q, .int .u8 (T 1).c, .string (T 1).t, .int .u32 (T 2).q, .int .u8 (T 2).c, .string (T 2).t, .int .u32 (T 3).q, .int .u8 (T 3).c, .string (T 3).t]) (.int .i64 2)).run Try.prog w = .ok (.agg #[.int .u32 (T 2).q, .int .u8 (T 2).c, .string (T 2).t]) w := by kernel_rfl
theorem tab_index3 (T : Nat → L) (w : World) : (Instr.index 31 (.agg #[.int .u32 (T 0).q, .int .u8 (T 0).c, .string (T 0).t, .int .u32 (T 1).q, .int .u8 (T 1).c, .string (T 1).t, .int .u32 (T 2).q, .int .u8 (T 2).c, .string (T 2).t, .int .u32 (T 3).q, .int .u8 (T 3).c, .string (T 3).t]) (.int .i64 3)).run Try.prog w = .ok (.agg #[.int .u32 (T 3).q, .int .u8 (T 3).c, .string (T 3).t]) w := by kernel_rfl
theorem tab_index (T : Nat → L) (k : Nat) (hk : k < 4) (w : World) : (Instr.index 31 (.agg #[.int .u32 (T 0).q, .int .u8 (T 0).c, .string (T 0).t, .int .u32 (T 1).q, .int .u8 (T 1).c, .string (T 1).t, .int .u32 (T 2).q, .int .u8 (T 2).c, .string (T 2).t, .int .u32 (T 3).q, .int .u8 (T 3).c, .string (T 3).t]) (.int .i64 k)).run Try.prog w = .ok (.agg #[.int .u32 (T k).q, .int .u8 (T k).c, .string (T k).t]) w := by
  have : k = 0 ∨ k = 1 ∨ k = 2 ∨ k = 3 := by omega
  rcases this with rfl | rfl | rfl | rfl
  · exact tab_index0 T w
  · exact tab_index1 T w
  · exact tab_index2 T w
  · exact tab_index3 T w
set_option maxRecDepth 100000 in
set_option maxHeartbeats 4000000 in
theorem alike_any (v : Value) (l : List K) (w : World) (hv : RdT keptV w v l) :
    Calls Try.prog 13 #[tab (tabK l), v] w fun e w' => e = .returned (.bool true) ∧ Below w.heap.size w w' := by
  have HV := Lib.hid hv
  have HL := Lib.hid (fun c w h => last_any v l c w h)
  have HTK := Lib.hid (show ∀ k, tabK l k = ⟨(lastK l k).q, (lastK l k).code, (lastK l k).t⟩ from fun _ => rfl)
  generalize tabK l = T at HTK ⊢
  clear hv
  unfold tab
  go_enter Try.func13, Try.ntmps13
  go_wp2_with fail
  go_loopw [5] (fun i wr => ∃ k : Nat, k ≤ 4 ∧ i = .int .i64 k ∧ Blk wr w.heap.size (.cells (tabA T) 31) ∧ Below w.heap.size w wr) (fun i _ => 4 - (intOf i).toNat)
  case atStart => exact ⟨0, by omega, rfl, Blk.new _ _, below1 _ _⟩
  case round =>
    obtain ⟨k, hk, rfl, k2, hB⟩ := hrel
    by_cases hlt : k < 4
    · have hd : decide ((k : Int) < 4) = true := decide_eq_true (by omega)
      have hlt' : (k : Int) < 4 := by omega
      have hw8 : IntKind.u8.wrap (k : Int) = (k : Int) := by rw [IntKind.wrap_u8]; omega
      have z2 := k2.lt
      go_wp2_with fail
      refine (HL.out k _ (HV.out.below hB (Nat.le_refl _))).mono ?_
      rintro e w1 ⟨rfl, b1⟩
      have k21 := k2.later b1
      have hB1 := Below.later' hB b1
      have hTk := HTK.out k
      obtain ⟨x, hx⟩ : ∃ x, lastK l k = x := ⟨_, rfl⟩
      rw [hx] at hTk ⊢
      clear hx b1 k2 hB
      go_wp2_with fail
      have kT := k21.alloc (.cells (kA x) 34)
      have kX := Blk.new w1 (.cells (kA x) 34)
      have hBW := hB1.alloc hB1.size (.cells (kA x) 34)
      have z1 : w.heap.size < w1.heap.size := k21.lt
      clear k21 hB1
      generalize w1.alloc (.cells (kA x) 34) = W at *
      have a0 := fun w' (hb : Below W.heap.size W w') => (tab_cell hlt (kT.later hb)).1
      have a1 := fun w' (hb : Below W.heap.size W w') => (tab_cell hlt (kT.later hb)).2.1
      have a2 := fun w' (hb : Below W.heap.size W w') => (tab_cell hlt (kT.later hb)).2.2
      rw [hTk] at a0 a1 a2
      have x1 := fun w' (hb : Below W.heap.size W w') => (kX.later hb).cell 1
      have x2 := fun w' (hb : Below W.heap.size W w') => (kX.later hb).cell 2
      have x3 := fun w' (hb : Below W.heap.size W w') => (kX.later hb).cell 3
      clear hTk
      have q1 : ((x.q : Int) != (x.q : Int)) = false := by simp
      have q2 := neq_rep x.code x.t
      have B0 : Below W.heap.size W W.drew := Below.drew (Below.refl _ _)
      refine wp_region_ord (fun w' => Below W.heap.size W w') (0 :: 1 :: 2 :: 3 :: 4 :: 5 :: 6 :: 7 :: 8 :: 9 :: 10 :: 11 :: 12 :: 13 :: 14 :: 15 :: []) [] (by kernel_rfl) (by kernel_rfl) (by intro c d v a w h; cases d <;> exact h) B0 ?_
      repeat (first
        | (refine wpOrd_take (v := ?_) rfl rfl ?_ ?_ ?_; rotate_left; rfl; (· intro w' hSw; (try dsimp only at hSw); go_simp <;> with_reducible rfl); simp only [Act.put, List.setIfInBounds_toArray, List.set_cons_zero, List.set_cons_succ])
        | (refine wpOrd_skip rfl rfl ?_ ?_; rfl; simp only [Act.put, List.setIfInBounds_toArray, List.set_cons_zero, List.set_cons_succ]))
      refine wpOrd_nil ?_
      go_wp2_with fail
      go_roundw
      case rel => exact ⟨k + 1, by omega, by go_num, kT.drew, hBW.drew⟩
      case measure => simp [intOf]; omega
    · have hd : decide ((k : Int) < 4) = false := decide_eq_false (by omega)
      have hd' : decide (k < 4) = false := decide_eq_false (by omega)
      go_wp2
      go_ret
      exact ⟨rfl, hB⟩
def ltB (x : L) : List UInt8 := numB x.q ++ if 0 < x.q then UInt8.ofNat x.c :: strB x.t.data.toList else []
def tabB (T : Nat → L) : Nat → List UInt8
  | 0 => []
  | k + 1 => tabB T k ++ ltB (T k)
def small (x : L) : Prop := x.q ≤ 4294967295 ∧ x.c ≤ 255 ∧ x.t.size ≤ 200
theorem ltB_le (x : L) (h : small x) : (ltB x).length ≤ 300 := by
  have h1 := numB_le x.q
  have h2 := numB_le x.t.size
  have h3 := h.2.2
  have h4 : x.t.data.toList.length = x.t.size := rfl
  unfold ltB
  rw [List.length_append]
  by_cases h0 : 0 < x.q
  · rw [if_pos h0, List.length_cons, strB_length, h4]; omega
  · rw [if_neg h0]; simp; omega
theorem tabB_le (T : Nat → L) (h : ∀ i, small (T i)) : ∀ k, (tabB T k).length ≤ 300 * k
  | 0 => by simp [tabB]
  | k + 1 => by
    have h1 := tabB_le T h k
    have h2 := ltB_le (T k) (h k)
    rw [tabB, List.length_append]; omega
set_option maxRecDepth 100000 in
set_option maxHeartbeats 4000000 in
theorem put_any (base : Nat) (vb : Value) (n0 : Nat) (xs : List Value) (T : Nat → L) (hs : ∀ i, small (T i)) (w : World) (hown : Src w base vb n0 xs) (hn0 : n0 ≤ 100000) (hbase : base ≤ w.heap.size) :
    Calls Try.prog 14 #[tab T, vb] w fun e w' => ∃ v, e = .returned v ∧ w'.ownsRow base 5 1 v (n0 + (tabB T 4).length) (xs ++ by8 (tabB T 4)) ∧ Grew w vb w' v := by
  have HS := Lib.hid hs
  have HLE := Lib.hid (tabB_le T hs)
  clear hs
  have HIX := Lib.hid (fun k h w => tab_index T k h w)
  unfold tab
  go_enter Try.func14, Try.ntmps14
  go_wp2_with fail
  go_loopw [1, 8] (fun v i wr => ∃ k : Nat, k ≤ 4 ∧ i = .int .i64 k ∧ Src wr base v (n0 + (tabB T k).length) (xs ++ by8 (tabB T k)) ∧ (0 < k → wr.ownsRow base 5 1 v (n0 + (tabB T k).length) (xs ++ by8 (tabB T k))) ∧ Grew w vb wr v) (fun _ i _ => 4 - (intOf i).toNat)
  case atStart => exact ⟨0, by omega, rfl, by simpa [tabB, by8] using Src.below hown (below1 w _), fun h => absurd h (by decide), Grew.alloc w vb _⟩
  case round =>
    obtain ⟨k, hk, rfl, ho, hoO, g⟩ := hrel
    have hle := HLE.out k
    have zr := g.size
    by_cases hlt : k < 4
    · have hd : decide ((k : Int) < 4) = true := decide_eq_true (by omega)
      have hidx := fun w => HIX.out k hlt w
      have hsm := HS.out k
      have HB1 := Lib.hid (show tabB T (k + 1) = tabB T k ++ ltB (T k) from rfl)
      obtain ⟨x, hx⟩ : ∃ x, T k = x := ⟨_, rfl⟩
      rw [hx] at hidx hsm HB1
      clear hx
      obtain ⟨q, c, t⟩ := x
      obtain ⟨s, rfl⟩ : ∃ s, t = bs s := ⟨t.data.toList, rfl⟩
      obtain ⟨hq, hc, ht⟩ := hsm
      simp only [] at hq hc ht
      rw [bs_size] at ht
      have hqw : IntKind.u64.wrap (q : Int) = (q : Int) := by rw [IntKind.wrap_u64]; omega
      have hnl := numB_le q
      have hsl := strB_length s
      have hsl2 := numB_le s.length
      obtain ⟨A, hA⟩ : ∃ A, tabB T k = A := ⟨_, rfl⟩
      rw [hA] at ho hle HB1 hoO
      clear hA
      simp only [] at hidx
      go_wp2_with fail
      have hoW := Src.below ho (below1 wr (.cells #[.int .u32 q, .int .u8 c, .string (bs s)] 29))
      have kX := Blk.new wr (.cells #[.int .u32 q, .int .u8 c, .string (bs s)] 29)
      have gW := g.trans (Grew.alloc wr _ (.cells #[.int .u32 q, .int .u8 c, .string (bs s)] 29))
      have hne : some wr.heap.size ≠ Value.ownBlock u1 := fun e => by have := ho.lt _ e.symm; omega
      have zW : wr.heap.size + 1 = (wr.alloc (.cells #[.int .u32 q, .int .u8 c, .string (bs s)] 29)).heap.size := (World.size_alloc _ _).symm
      clear ho hoO g hidx
      generalize wr.alloc (.cells #[.int .u32 q, .int .u8 c, .string (bs s)] 29) = W at *
      refine (num_src base u1 _ _ q (by omega) W hoW (by omega) (by omega)).mono ?_
      rintro e w1 ⟨v1, rfl, ho1, g1⟩
      have kX1 := g1.blk kX hne
      have hne1 := g1.stays hne (by omega)
      have gB := gW.trans g1
      have z1 := g1.size
      have x0 := kX1.cell 0
      clear hoW kX gW g1
      by_cases h0 : 0 < q
      · have h0' : (0 : Int) < (q : Int) := by omega
        have HB := Lib.hid (show xs ++ by8 (tabB T (k + 1)) = ((xs ++ by8 A) ++ by8 (numB q)) ++ [Value.int .u8 (c : Int)] ++ by8 (strB s) by
          rw [HB1.out, ltB, if_pos h0, by8_append, by8_append, bs_data, ← by8_u8]
          have hcc : ((UInt8.ofNat c).toNat : Int) = (c : Int) := by simp; omega
          rw [hcc]; simp)
        have HL := Lib.hid (show n0 + (tabB T (k + 1)).length = n0 + A.length + (numB q).length + 1 + (strB s).length by
          rw [HB1.out, ltB, if_pos h0, List.length_append, List.length_append, List.length_cons, bs_data]; dsimp only; omega)
        have HC : ∀ w', Blk w' wr.heap.size (.cells #[.int .u32 q, .int .u8 c, .string (bs s)] 29) → w'.cell? ⟨wr.heap.size, 1, none⟩ = some (.int .u8 c) ∧ w'.cell? ⟨wr.heap.size, 2, none⟩ = some (.string (bs s)) := fun w' h => ⟨h.cell 1, h.cell 2⟩
        have HC := Lib.hid HC
        go_wp2_with fail
        have hoD : w1.drew.ownsRow base 5 1 v1 _ _ := ho1
        have kXD : Blk w1.drew wr.heap.size _ := kX1.drew
        have gD := gB.trans (Grew.of_below (Below.drew (Below.refl w1.heap.size w1)) v1)
        clear ho1 gB x0
        refine wp_region_ord (fun w' => w'.cell? ⟨wr.heap.size, 1, none⟩ = some (.int .u8 c) ∧ w'.cell? ⟨wr.heap.size, 2, none⟩ = some (.string (bs s))) (0 :: 1 :: 2 :: 3 :: 6 :: 7 :: 8 :: 4 :: 5 :: 9 :: 10 :: []) [4, 5, 9] (by kernel_rfl) (by kernel_rfl) (by intro c d v a w h; cases d <;> exact h) (HC.out _ kXD) ?_
        repeat (first
          | (refine wpOrd_take (v := ?_) rfl rfl ?_ ?_ ?_; rotate_left; rfl; (· intro w' hSw; (try dsimp only at hSw); go_simp <;> with_reducible rfl); simp only [Act.put, List.setIfInBounds_toArray, List.set_cons_zero, List.set_cons_succ])
          | (refine wpOrd_skip rfl rfl ?_ ?_; rfl; simp only [Act.put, List.setIfInBounds_toArray, List.set_cons_zero, List.set_cons_succ]))
        refine wpOrd_eff rfl rfl (fun K hK => ?_)
        go_wp2_with fail
        have hrx := rdV_block w1.drew #[.int .u8 c] 5 1 1 (by omega)
        have hoA := ownsRow_below hoD (below1 w1.drew (.cells #[.int .u8 c] 5))
        have kXA := kXD.alloc (.cells #[.int .u8 c] 5)
        have gA := gD.trans (Grew.alloc w1.drew v1 (.cells #[.int .u8 c] 5))
        obtain ⟨Wd, hWd⟩ : ∃ Wd, w1.drew.alloc (.cells #[.int .u8 c] 5) = Wd := ⟨_, rfl⟩
        have hWd' : (w1.alloc (.cells #[.int .u8 c] 5)).drew = Wd := hWd
        have zD : w1.heap.size ≤ Wd.heap.size := by rw [← hWd]; simp
        rw [hWd] at hrx hoA kXA gA
        rw [hWd']
        clear hWd hWd' hoD kXD gD
        refine hK.out _ _ (HC.out _ kXA) ?_
        clear hK K
        repeat (first
          | (refine wpOrd_take (v := ?_) rfl rfl ?_ ?_ ?_; rotate_left; rfl; (· intro w' hSw; (try dsimp only at hSw); go_simp <;> with_reducible rfl); simp only [Act.put, List.setIfInBounds_toArray, List.set_cons_zero, List.set_cons_succ])
          | (refine wpOrd_skip rfl rfl ?_ ?_; rfl; simp only [Act.put, List.setIfInBounds_toArray, List.set_cons_zero, List.set_cons_succ]))
        refine wpOrd_eff rfl rfl (fun K hK => ?_)
        go_wp2_with (at_builtin; go_loud (refine appNg rfl _ _ 41 rfl base 5 (.int .u8 0) 1 1 info Try.underlying41 rfl (by decide) _ v1 _ _ hoA rfl _ 1 [.int .u8 c] hrx rfl (by intro u hu; simp at hu; subst hu; rfl) rfl (by omega) (by omega) (by omega) ?_; intro v2 w2 ho2 g2))
        have kX2 := g2.blk kXA hne1
        have z2 := g2.size
        have hne2 := g2.stays hne1 (by omega)
        refine hK.out _ _ (HC.out _ kX2) ?_
        clear hK K
        repeat (first
          | (refine wpOrd_take (v := ?_) rfl rfl ?_ ?_ ?_; rotate_left; rfl; (· intro w' hSw; (try dsimp only at hSw); go_simp <;> with_reducible rfl); simp only [Act.put, List.setIfInBounds_toArray, List.set_cons_zero, List.set_cons_succ])
          | (refine wpOrd_skip rfl rfl ?_ ?_; rfl; simp only [Act.put, List.setIfInBounds_toArray, List.set_cons_zero, List.set_cons_succ]))
        refine wpOrd_eff rfl rfl (fun K hK => ?_)
        go_wp2_with fail
        refine (str_put base v2 _ _ s (by omega) w2 ho2 (by omega) (by omega)).mono ?_
        rintro e w3 ⟨v3, rfl, ho3, g3⟩
        have kX3 := g3.blk kX2 hne2
        go_wp2_with fail
        refine hK.out _ _ (HC.out _ kX3) ?_
        clear hK K
        repeat (first
          | (refine wpOrd_take (v := ?_) rfl rfl ?_ ?_ ?_; rotate_left; rfl; (· intro w' hSw; (try dsimp only at hSw); go_simp <;> with_reducible rfl); simp only [Act.put, List.setIfInBounds_toArray, List.set_cons_zero, List.set_cons_succ])
          | (refine wpOrd_skip rfl rfl ?_ ?_; rfl; simp only [Act.put, List.setIfInBounds_toArray, List.set_cons_zero, List.set_cons_succ]))
        refine wpOrd_nil ?_
        go_wp2_with fail
        go_roundw
        case rel => exact ⟨k + 1, by omega, by go_num, by rw [HB.out, HL.out]; exact .inl ho3, fun _ => by rw [HB.out, HL.out]; exact ho3, (gA.trans g2).trans g3⟩
        case measure => simp [intOf]; omega
      · have h0' : ¬ (0 : Int) < (q : Int) := by omega
        have HB := Lib.hid (show xs ++ by8 (tabB T (k + 1)) = (xs ++ by8 A) ++ by8 (numB q) by
          rw [HB1.out, ltB, if_neg h0, by8_append, List.append_nil, List.append_assoc])
        have HL := Lib.hid (show n0 + (tabB T (k + 1)).length = n0 + A.length + (numB q).length by
          rw [HB1.out, ltB, if_neg h0, List.length_append, List.append_nil]; dsimp only; omega)
        go_wp2
        go_roundw
        case rel => exact ⟨k + 1, by omega, by go_num, by rw [HB.out, HL.out]; exact .inl ho1, fun _ => by rw [HB.out, HL.out]; exact ho1, gB⟩
        case measure => simp [intOf]; omega
    · have hd : decide ((k : Int) < 4) = false := decide_eq_false (by omega)
      have hd' : decide (k < 4) = false := decide_eq_false (by omega)
      obtain rfl : k = 4 := by omega
      go_wp2
      go_ret
      exact ⟨_, rfl, hoO (by decide), g⟩
theorem tabK_small (l : List K) (h : ∀ x ∈ l, x.q ≤ 4294967295 ∧ x.code ≤ 255 ∧ x.t.size ≤ 200) : ∀ i, small (tabK l i) := by
  intro i
  rcases lastK_mem l i with e | e
  · unfold small tabK; rw [e]; exact ⟨Nat.zero_le _, Nat.zero_le _, Nat.zero_le _⟩
  · exact h _ e
set_option maxRecDepth 100000 in
set_option maxHeartbeats 4000000 in
theorem rbytes_any (v : Value) (l : List K) (w : World) (hv : RdT keptV w v l) (hsz : ∀ x ∈ l, x.q ≤ 4294967295 ∧ x.code ≤ 255 ∧ x.t.size ≤ 200) :
    Calls Try.prog 15 #[v] w fun e w' => e = .returned (.string (bs (tabB (tabK l) 4))) ∧ Below w.heap.size w w' := by
  have HV := Lib.hid hv
  have HL := Lib.hid (fun c w h => last_any v l c w h)
  have HTK := Lib.hid (show ∀ k, tabK l k = ⟨(lastK l k).q, (lastK l k).code, (lastK l k).t⟩ from fun _ => rfl)
  have HS := Lib.hid (tabK_small l hsz)
  have HLE := Lib.hid (tabB_le _ HS.out)
  generalize tabK l = T at HTK HS HLE ⊢
  clear hv hsz
  go_enter Try.func15, Try.ntmps15
  go_wp2_with fail
  go_loopw [3, 4] (fun s i wr => ∃ k : Nat, k ≤ 4 ∧ i = .int .i64 k ∧ s = .string (bs (tabB T k)) ∧ Below w.heap.size w wr) (fun _ i _ => 4 - (intOf i).toNat)
  case atStart => exact ⟨0, by omega, rfl, rfl, Below.refl _ _⟩
  case round =>
    obtain ⟨k, hk, rfl, rfl, hB⟩ := hrel
    have hle := HLE.out k
    by_cases hlt : k < 4
    · have hd : decide ((k : Int) < 4) = true := decide_eq_true (by omega)
      have hw8 : IntKind.u8.wrap (k : Int) = (k : Int) := by rw [IntKind.wrap_u8]; omega
      go_wp2_with fail
      refine (HL.out k _ (HV.out.below hB (Nat.le_refl _))).mono ?_
      rintro e w1 ⟨rfl, b1⟩
      have hB1 := Below.later' hB b1
      have hTk := HTK.out k
      have hsm := HS.out k
      have HB1 := Lib.hid (show tabB T (k + 1) = tabB T k ++ ltB (T k) from rfl)
      rw [hTk] at hsm HB1
      obtain ⟨x, hx⟩ : ∃ x, lastK l k = x := ⟨_, rfl⟩
      rw [hx] at hsm HB1 ⊢
      clear hx b1 hB hTk
      obtain ⟨cl, q, c, t⟩ := x
      obtain ⟨s, rfl⟩ : ∃ s, t = bs s := ⟨t.data.toList, rfl⟩
      obtain ⟨hq, hc, ht⟩ := hsm
      simp only [] at hq hc ht
      rw [bs_size] at ht
      have hqw : IntKind.u64.wrap (q : Int) = (q : Int) := by rw [IntKind.wrap_u64]; omega
      have hnl := numB_le q
      have hsl := strB_length s
      have hsl2 := numB_le s.length
      obtain ⟨A, hA⟩ : ∃ A, tabB T k = A := ⟨_, rfl⟩
      rw [hA] at hle HB1 ⊢
      clear hA
      have hAs := bs_size A
      have hNs := bs_size (numB q)
      have cat1 := bs_append A (numB q)
      have q1 : ¬ 9223372036854775807 < A.length + (numB q).length := by omega
      go_wp2_with fail
      have kX := Blk.new w1 (.cells (kA ⟨cl, q, c, bs s⟩) 34)
      have hBW := hB1.alloc hB1.size (.cells (kA ⟨cl, q, c, bs s⟩) 34)
      clear hB1
      simp only [kA] at kX hBW ⊢
      generalize w1.alloc (.cells #[.int .u8 cl, .int .u32 q, .int .u8 c, .string (bs s)] 34) = W0 at *
      refine (rnum_any q (by omega) W0).mono ?_
      rintro e W ⟨rfl, b2⟩
      have kX1 := kX.later b2
      have hBX := Below.later' hBW b2
      have x1 := kX1.cell 1
      clear kX b2 hBW
      obtain ⟨P, hP⟩ : ∃ P, A ++ numB q = P := ⟨_, rfl⟩
      have hPl : P.length = A.length + (numB q).length := by rw [← hP, List.length_append]
      rw [hP] at cat1
      have HP := Lib.hid hP
      clear hP
      by_cases h0 : 0 < q
      · have h0' : (0 : Int) < (q : Int) := by omega
        have HB := Lib.hid (show tabB T (k + 1) = (P ++ [UInt8.ofNat c]) ++ strB s by
          rw [HB1.out, ltB, if_pos h0, bs_data, ← HP.out]; simp)
        go_wp2_with fail
        have hPs := bs_size P
        have hCs := bs_size [UInt8.ofNat c]
        have hSs := bs_size (strB s)
        have cat2 := bs_append P [UInt8.ofNat c]
        obtain ⟨P2, hP2⟩ : ∃ P2, P ++ [UInt8.ofNat c] = P2 := ⟨_, rfl⟩
        have hP2l : P2.length = P.length + 1 := by rw [← hP2, List.length_append]; rfl
        rw [hP2] at cat2 HB
        clear hP2
        have hP2s := bs_size P2
        have cat3 := bs_append P2 (strB s)
        rw [← HB.out] at cat3
        have q2 : ¬ 9223372036854775807 < P.length + 1 := by omega
        have q3 : ¬ 9223372036854775807 < P2.length + (strB s).length := by omega
        have hu : by8 [UInt8.ofNat c] = [.int .u8 (c : Int)] := by simp [by8]; omega
        have HU := Lib.hid hu
        clear hu x1 cat1 q1 hAs hNs hPl hP2l hsl
        have g2 := fun w' (hb : Below W.heap.size W w') => (kX1.later hb).cell 2
        have g3 := fun w' (hb : Below W.heap.size W w') => (kX1.later hb).cell 3
        have B0 : Below W.heap.size W W.drew := Below.drew (Below.refl _ _)
        refine wp_region_way (fun w' => Below W.heap.size W w') (.go 0 (.go 1 (.go 2 (.go 3 (.go 7 (.go 8 (.go 9 (.two 4 10 (.go 5 (.go 6 (.go 10 (.go 11 (.go 12 .nil))))) (.go 4 (.go 5 (.go 6 (.go 11 (.go 12 .nil))))))))))))) [4, 10] (by kernel_rfl) (by kernel_rfl) (by intro c d v a w h; cases d <;> exact h) B0 ?_
        repeat (first
          | (refine wpWay_take (v := ?_) rfl rfl ?_ ?_ ?_; rotate_left; rfl; (· intro w' hSw; (try dsimp only at hSw); go_simp <;> with_reducible rfl); simp only [Act.put, List.setIfInBounds_toArray, List.set_cons_zero, List.set_cons_succ])
          | (refine wpWay_skip rfl rfl ?_ ?_; rfl; simp only [Act.put, List.setIfInBounds_toArray, List.set_cons_zero, List.set_cons_succ]))
        refine wpWay_twoS rfl rfl (fun K hK => ?_) (fun K hK => ?_)
        · go_wp2_with fail
          have B3 : Below W.heap.size W (W.alloc (.cells #[.int .u8 c] 5)).drew := Below.drew (Below.alloc (Below.refl _ _) (Nat.le_refl _) _)
          have kU : Blk (W.alloc (.cells #[.int .u8 c] 5)).drew W.heap.size _ := Blk.drew (Blk.new W (.cells #[.int .u8 c] 5))
          obtain ⟨Wd, hWd⟩ : ∃ Wd, (W.alloc (.cells #[.int .u8 c] 5)).drew = Wd := ⟨_, rfl⟩
          rw [hWd] at B3 kU ⊢
          clear hWd
          have hcv : ∀ w', Below Wd.heap.size Wd w' → (convert 41 9 (.slice (some ⟨W.heap.size, 0, none⟩) 1 1)).run Try.prog w' = .ok (.string (bs [UInt8.ofNat c])) w' := fun w' h => own_text (ownsRow_below (by rw [HU.out]; exact own_one kU (Nat.zero_le _)) h)
          refine hK.out (fun w' => Below Wd.heap.size Wd w') _ _ (fun w' h => B3.trans (h.mono B3.size)) (Below.refl _ _) ?_
          clear hK K
          repeat (first
            | (refine wpWay_take (v := ?_) rfl rfl ?_ ?_ ?_; rotate_left; rfl; (· intro w' hSw; (try dsimp only at hSw); go_simp <;> with_reducible rfl); simp only [Act.put, List.setIfInBounds_toArray, List.set_cons_zero, List.set_cons_succ])
            | (refine wpWay_skip rfl rfl ?_ ?_; rfl; simp only [Act.put, List.setIfInBounds_toArray, List.set_cons_zero, List.set_cons_succ]))
          refine wpWay_eff rfl rfl (fun K hK => ?_)
          go_wp2_with fail
          refine (rstr_any s (by omega) _).mono ?_
          rintro e w4 ⟨rfl, b4⟩
          go_wp2_with fail
          refine hK.out _ _ b4 ?_
          clear hK K
          repeat (first
            | (refine wpWay_take (v := ?_) rfl rfl ?_ ?_ ?_; rotate_left; rfl; (· intro w' hSw; (try dsimp only at hSw); go_simp <;> with_reducible rfl); simp only [Act.put, List.setIfInBounds_toArray, List.set_cons_zero, List.set_cons_succ])
            | (refine wpWay_skip rfl rfl ?_ ?_; rfl; simp only [Act.put, List.setIfInBounds_toArray, List.set_cons_zero, List.set_cons_succ]))
          refine wpWay_nil ?_
          have B4 := hBX.trans ((B3.trans (b4.mono B3.size)).mono hBX.size)
          go_wp2_with fail
          go_roundw
          case rel => exact ⟨k + 1, by omega, by go_num, rfl, B4⟩
          case measure => simp [intOf]; omega
        · go_wp2_with fail
          refine (rstr_any s (by omega) _).mono ?_
          rintro e w4 ⟨rfl, b4⟩
          have B2 : Below W.heap.size W w4 := undrew b4
          go_wp2_with fail
          refine hK.out _ _ _ (fun _ h => h) B2 ?_
          clear hK K
          repeat (first
            | (refine wpWay_take (v := ?_) rfl rfl ?_ ?_ ?_; rotate_left; rfl; (· intro w' hSw; (try dsimp only at hSw); go_simp <;> with_reducible rfl); simp only [Act.put, List.setIfInBounds_toArray, List.set_cons_zero, List.set_cons_succ])
            | (refine wpWay_skip rfl rfl ?_ ?_; rfl; simp only [Act.put, List.setIfInBounds_toArray, List.set_cons_zero, List.set_cons_succ]))
          refine wpWay_effS rfl rfl (fun K hK => ?_)
          go_wp2_with fail
          have B3 := B2.alloc B2.size (.cells #[.int .u8 c] 5)
          have kU : Blk (w4.alloc (.cells #[.int .u8 c] 5)) w4.heap.size _ := Blk.new w4 (.cells #[.int .u8 c] 5)
          obtain ⟨Wd, hWd⟩ : ∃ Wd, w4.alloc (.cells #[.int .u8 c] 5) = Wd := ⟨_, rfl⟩
          rw [hWd] at B3 kU ⊢
          clear hWd
          have hcv : ∀ w', Below Wd.heap.size Wd w' → (convert 41 9 (.slice (some ⟨w4.heap.size, 0, none⟩) 1 1)).run Try.prog w' = .ok (.string (bs [UInt8.ofNat c])) w' := fun w' h => own_text (ownsRow_below (by rw [HU.out]; exact own_one kU (Nat.zero_le _)) h)
          refine hK.out (fun w' => Below Wd.heap.size Wd w') _ _ (fun w' h => B3.trans (h.mono B3.size)) (Below.refl _ _) ?_
          clear hK K
          repeat (first
            | (refine wpWay_take (v := ?_) rfl rfl ?_ ?_ ?_; rotate_left; rfl; (· intro w' hSw; (try dsimp only at hSw); go_simp <;> with_reducible rfl); simp only [Act.put, List.setIfInBounds_toArray, List.set_cons_zero, List.set_cons_succ])
            | (refine wpWay_skip rfl rfl ?_ ?_; rfl; simp only [Act.put, List.setIfInBounds_toArray, List.set_cons_zero, List.set_cons_succ]))
          refine wpWay_nil ?_
          have B4 := hBX.trans (B3.mono hBX.size)
          go_wp2_with fail
          go_roundw
          case rel => exact ⟨k + 1, by omega, by go_num, rfl, B4⟩
          case measure => simp [intOf]; omega
      · have h0' : ¬ (0 : Int) < (q : Int) := by omega
        have HB := Lib.hid (show tabB T (k + 1) = P by rw [HB1.out, ltB, if_neg h0, List.append_nil, HP.out])
        go_wp2
        go_roundw
        case rel => exact ⟨k + 1, by omega, by go_num, by rw [HB.out], hBX⟩
        case measure => simp [intOf]; omega
    · have hd : decide ((k : Int) < 4) = false := decide_eq_false (by omega)
      have hd' : decide (k < 4) = false := decide_eq_false (by omega)
      obtain rfl : k = 4 := by omega
      go_wp2
      go_ret
      exact ⟨rfl, hB⟩
end Ses
end Go.Proofs.Ytidgeljkihamhaa
