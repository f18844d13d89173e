/-
  Seat 01: one ask of a reader and of the document's, walked.
-/
import Derived.Test.YteilmkknedgmpaaWireDocMore
namespace Go.Proofs.Yteilmkknedgmpaa
open Go.RowKit
namespace Wire
def AskedP (w : World) (b : Nat) (s' : R) (e : Ending) (w' : World) : Prop := e = .returned (.tuple #[.bool true, rv s']) ∧ w.grownBy w' (some b) ∧ Rdr w' b s'
theorem gbelow {w w' : World} {r : Option Nat} (h : Below w.heap.size w w') : w.grownBy w' r := ⟨h.os, h.tape, h.output, h.size, fun k hk _ => h.block k hk⟩
theorem dbyte_ok (s : R) (hl : s.rest.length ≤ 1000000000) (w : World) : Calls Try.prog 30 #[rv s] w fun r w' => r = .returned (.tuple #[.int .u8 (byteR s).1, rv (byteR s).2]) ∧ Below w.heap.size w w' := dbyte_any s hl w
set_option maxRecDepth 100000 in
set_option maxHeartbeats 2000000 in
theorem asked0 (b : Nat) (s : R) (n : Nat) (hn : n < 18446744073709551616) (m : Int) (hm : m < 9223372036854775808) (w : World) (h : Rdr w b s) (hl : s.rest.length ≤ 1000000000) :
    Calls Try.prog 21 #[rp b, rv s, .agg #[.int .u8 0, .int .u64 n, .int .i64 m]] w (AskedP w b (numR s).2) := by
  have hb := h.lt
  have HP := Lib.hid (fun w h => num_of b s w h (by omega))
  have HD := Lib.hid (fun w => dnum_any s hl w)
  obtain ⟨x, s1, hns⟩ : ∃ x s1, numR s = (x, s1) := ⟨_, _, rfl⟩
  rw [hns] at HP HD ⊢
  clear hns
  rw [show rv s = .agg #[.string (bs s.rest), .int .i64 s.e] from rfl]
  go_enter Try.func21, Try.ntmps21
  go_wp2_with fail
  refine (HD.out _).mono ?_
  rintro e w1 ⟨rfl, b1⟩
  have hr1 : Rdr w1 b s := Blk.later (Blk.alloc (Blk.alloc (Blk.alloc h _) _) _) b1
  have kB := Blk.later (b := w.heap.size + 1) (Blk.alloc (Blk.newAt _ (by simp)) _) b1
  have kC := Blk.later (b := w.heap.size + 1 + 1) (Blk.newAt _ (by simp)) b1
  have gw1 : w.grownBy w1 (some b) := gbelow ((below3 w _ _ _).trans (b1.mono (by simp; omega)))
  have z1 := b1.size
  simp only [World.size_alloc] at z1
  clear b1
  unfold rv
  go_wp2_with fail
  have hrW : Rdr (w1.alloc (.cells #[.string (bs s1.rest), .int .i64 s1.e] 45)) b s := Blk.alloc hr1 _
  have kBW := kB.alloc (.cells #[.string (bs s1.rest), .int .i64 s1.e] 45)
  have kCW := kC.alloc (.cells #[.string (bs s1.rest), .int .i64 s1.e] 45)
  have kN := Blk.new w1 (.cells #[.string (bs s1.rest), .int .i64 s1.e] 45)
  have gW : w.grownBy (w1.alloc (.cells #[.string (bs s1.rest), .int .i64 s1.e] 45)) (some b) := gtrans gw1 (gbelow (below1 _ _))
  generalize w1.alloc (.cells #[.string (bs s1.rest), .int .i64 s1.e] 45) = W at *
  clear hr1 kB kC gw1
  obtain ⟨n9, hn9⟩ : ∃ n9, w1.heap.size = n9 := ⟨_, rfl⟩
  rw [hn9] at kN z1 ⊢
  clear hn9
  have hcB : ∀ w', Blk w' (w.heap.size + 1) (.cells #[.int .u8 0, .int .u64 n, .int .i64 m] 49) → w'.cell? ⟨w.heap.size + 1, 1, none⟩ = some (.int .u64 n) ∧ w'.cell? ⟨w.heap.size + 1, 2, none⟩ = some (.int .i64 m) := fun w' k => ⟨k.cell 1, k.cell 2⟩
  have hcN : ∀ w', Blk w' n9 (.cells #[.string (bs s1.rest), .int .i64 s1.e] 45) → w'.cell? ⟨n9, 0, none⟩ = some (.string (bs s1.rest)) ∧ w'.cell? ⟨n9, 1, none⟩ = some (.int .i64 s1.e) := fun w' k => ⟨k.cell 0, k.cell 1⟩
  have HB := Lib.hid hcB
  have HN := Lib.hid hcN
  clear hcB hcN
  refine wp_region_ord (fun w' => (w'.cell? ⟨w.heap.size + 1, 1, none⟩ = some (.int .u64 n) ∧ w'.cell? ⟨w.heap.size + 1, 2, none⟩ = some (.int .i64 m)) ∧ (w'.cell? ⟨n9, 0, none⟩ = some (.string (bs s1.rest)) ∧ w'.cell? ⟨n9, 1, none⟩ = some (.int .i64 s1.e))) (0 :: 2 :: 4 :: 1 :: 3 :: 5 :: 6 :: []) [1, 6] (by kernel_rfl) (by kernel_rfl) (by intro c d v a w h; cases d <;> exact h) ⟨HB.out _ kBW.drew, HN.out _ kN.drew⟩ ?_
  repeat (first
    | (refine wpOrd_take (v := ?_) rfl rfl ?_ ?_ ?_; rotate_left; rfl; (· intro w' hSw; (try dsimp only at hSw); go_simp <;> with_reducible rfl); simp only [Act.put, List.setIfInBounds_toArray, List.set_cons_zero, List.set_cons_succ])
    | (refine wpOrd_skip rfl rfl ?_ ?_; rfl; simp only [Act.put, List.setIfInBounds_toArray, List.set_cons_zero, List.set_cons_succ]))
  refine wpOrd_eff rfl rfl (fun K hK => ?_)
  go_wp2_with fail
  refine (HP.out _ (Blk.drew hrW)).mono ?_
  rintro e w2 ⟨rfl, g2, hr2⟩
  have kB2 := Blk.grown kBW.drew g2 (by simp; omega)
  have kC2 := Blk.grown kCW.drew g2 (by simp; omega)
  have kN2 := Blk.grown kN.drew g2 (by simp; omega)
  have gw2 := gtrans (gtrans gW (drew_grown _ _)) g2
  clear hrW kBW kCW kN gW g2
  go_wp2_with fail
  refine hK.out _ _ ⟨HB.out _ kB2, HN.out _ kN2⟩ ?_
  clear hK K
  repeat (first
    | (refine wpOrd_take (v := ?_) rfl rfl ?_ ?_ ?_; rotate_left; rfl; (· intro w' hSw; (try dsimp only at hSw); go_simp <;> with_reducible rfl); simp only [Act.put, List.setIfInBounds_toArray, List.set_cons_zero, List.set_cons_succ])
    | (refine wpOrd_skip rfl rfl ?_ ?_; rfl; simp only [Act.put, List.setIfInBounds_toArray, List.set_cons_zero, List.set_cons_succ]))
  refine wpOrd_eff rfl rfl (fun K hK => ?_)
  have c0 : w2.cell? ⟨w.heap.size + 1 + 1, 0, none⟩ = some (.string ⟨#[]⟩) := kC2.cell 0
  have c1 : w2.cell? ⟨w.heap.size + 1 + 1, 1, none⟩ = some (.int .i64 0) := kC2.cell 1
  have f0 := kC2.frozen 0
  have f1 := kC2.frozen 1
  have hlt := kC2.lt
  go_wp2_with fail
  refine hK.out _ _ ⟨HB.out _ ((kB2.other (a := ⟨w.heap.size + 1 + 1, 0, none⟩) (by simp) _).other (a := ⟨w.heap.size + 1 + 1, 1, none⟩) (by simp) _), HN.out _ ((kN2.other (a := ⟨w.heap.size + 1 + 1, 0, none⟩) (by simp; omega) _).other (a := ⟨w.heap.size + 1 + 1, 1, none⟩) (by simp; omega) _)⟩ ?_
  clear hK K
  refine wpOrd_nil ?_
  go_wp2_with fail
  refine bodyPost_ret (v := .tuple #[.bool true, rv s1]) (by simp [results, Try.results21, go_sem, rv, c0, c1]) rfl ⟨rfl, ?_, ?_⟩
  · refine ⟨gw2.os, gw2.tape, gw2.output, by simp; exact gw2.size, fun k hk hne => ?_⟩
    rw [Below.heap_setCell _ _ _ _ (by simp; omega), Below.heap_setCell _ _ _ _ (by simp; omega)]
    exact gw2.block k hk hne
  · exact Blk.other (Blk.other hr2 (a := ⟨w.heap.size + 1 + 1, 0, none⟩) (by simp; omega) _) (a := ⟨w.heap.size + 1 + 1, 1, none⟩) (by simp; omega) _
set_option maxRecDepth 100000 in
set_option maxHeartbeats 2000000 in
theorem asked1 (b : Nat) (s : R) (n : Nat) (hn : n < 18446744073709551616) (m : Int) (hm : m < 9223372036854775808) (w : World) (h : Rdr w b s) (hl : s.rest.length ≤ 1000000000) :
    Calls Try.prog 21 #[rp b, rv s, .agg #[.int .u8 1, .int .u64 n, .int .i64 m]] w (AskedP w b (byteR s).2) := by
  have hb := h.lt
  have HP := Lib.hid (fun w h => byte_any b s w h (by omega))
  have HD := Lib.hid (fun w => dbyte_any s hl w)
  obtain ⟨x, s1, hns⟩ : ∃ x s1, byteR s = (x, s1) := ⟨_, _, rfl⟩
  rw [hns] at HP HD ⊢
  clear hns
  rw [show rv s = .agg #[.string (bs s.rest), .int .i64 s.e] from rfl]
  go_enter Try.func21, Try.ntmps21
  go_wp2_with fail
  refine (HD.out _).mono ?_
  rintro e w1 ⟨rfl, b1⟩
  have hr1 : Rdr w1 b s := Blk.later (Blk.alloc (Blk.alloc (Blk.alloc h _) _) _) b1
  have kB := Blk.later (b := w.heap.size + 1) (Blk.alloc (Blk.newAt _ (by simp)) _) b1
  have kC := Blk.later (b := w.heap.size + 1 + 1) (Blk.newAt _ (by simp)) b1
  have gw1 : w.grownBy w1 (some b) := gbelow ((below3 w _ _ _).trans (b1.mono (by simp; omega)))
  have z1 := b1.size
  simp only [World.size_alloc] at z1
  clear b1
  unfold rv
  go_wp2_with fail
  have hrW : Rdr (w1.alloc (.cells #[.string (bs s1.rest), .int .i64 s1.e] 45)) b s := Blk.alloc hr1 _
  have kBW := kB.alloc (.cells #[.string (bs s1.rest), .int .i64 s1.e] 45)
  have kCW := kC.alloc (.cells #[.string (bs s1.rest), .int .i64 s1.e] 45)
  have kN := Blk.new w1 (.cells #[.string (bs s1.rest), .int .i64 s1.e] 45)
  have gW : w.grownBy (w1.alloc (.cells #[.string (bs s1.rest), .int .i64 s1.e] 45)) (some b) := gtrans gw1 (gbelow (below1 _ _))
  generalize w1.alloc (.cells #[.string (bs s1.rest), .int .i64 s1.e] 45) = W at *
  clear hr1 kB kC gw1
  obtain ⟨n9, hn9⟩ : ∃ n9, w1.heap.size = n9 := ⟨_, rfl⟩
  rw [hn9] at kN z1 ⊢
  clear hn9
  have hcB : ∀ w', Blk w' (w.heap.size + 1) (.cells #[.int .u8 1, .int .u64 n, .int .i64 m] 49) → w'.cell? ⟨w.heap.size + 1, 1, none⟩ = some (.int .u64 n) ∧ w'.cell? ⟨w.heap.size + 1, 2, none⟩ = some (.int .i64 m) := fun w' k => ⟨k.cell 1, k.cell 2⟩
  have hcN : ∀ w', Blk w' n9 (.cells #[.string (bs s1.rest), .int .i64 s1.e] 45) → w'.cell? ⟨n9, 0, none⟩ = some (.string (bs s1.rest)) ∧ w'.cell? ⟨n9, 1, none⟩ = some (.int .i64 s1.e) := fun w' k => ⟨k.cell 0, k.cell 1⟩
  have HB := Lib.hid hcB
  have HN := Lib.hid hcN
  clear hcB hcN
  refine wp_region_ord (fun w' => (w'.cell? ⟨w.heap.size + 1, 1, none⟩ = some (.int .u64 n) ∧ w'.cell? ⟨w.heap.size + 1, 2, none⟩ = some (.int .i64 m)) ∧ (w'.cell? ⟨n9, 0, none⟩ = some (.string (bs s1.rest)) ∧ w'.cell? ⟨n9, 1, none⟩ = some (.int .i64 s1.e))) (0 :: 2 :: 4 :: 1 :: 3 :: 5 :: 6 :: []) [1, 6] (by kernel_rfl) (by kernel_rfl) (by intro c d v a w h; cases d <;> exact h) ⟨HB.out _ kBW.drew, HN.out _ kN.drew⟩ ?_
  repeat (first
    | (refine wpOrd_take (v := ?_) rfl rfl ?_ ?_ ?_; rotate_left; rfl; (· intro w' hSw; (try dsimp only at hSw); go_simp <;> with_reducible rfl); simp only [Act.put, List.setIfInBounds_toArray, List.set_cons_zero, List.set_cons_succ])
    | (refine wpOrd_skip rfl rfl ?_ ?_; rfl; simp only [Act.put, List.setIfInBounds_toArray, List.set_cons_zero, List.set_cons_succ]))
  refine wpOrd_eff rfl rfl (fun K hK => ?_)
  go_wp2_with fail
  refine (HP.out _ (Blk.drew hrW)).mono ?_
  rintro e w2 ⟨rfl, g2, hr2⟩
  have kB2 := Blk.grown kBW.drew g2 (by simp; omega)
  have kC2 := Blk.grown kCW.drew g2 (by simp; omega)
  have kN2 := Blk.grown kN.drew g2 (by simp; omega)
  have gw2 := gtrans (gtrans gW (drew_grown _ _)) g2
  clear hrW kBW kCW kN gW g2
  go_wp2_with fail
  refine hK.out _ _ ⟨HB.out _ kB2, HN.out _ kN2⟩ ?_
  clear hK K
  repeat (first
    | (refine wpOrd_take (v := ?_) rfl rfl ?_ ?_ ?_; rotate_left; rfl; (· intro w' hSw; (try dsimp only at hSw); go_simp <;> with_reducible rfl); simp only [Act.put, List.setIfInBounds_toArray, List.set_cons_zero, List.set_cons_succ])
    | (refine wpOrd_skip rfl rfl ?_ ?_; rfl; simp only [Act.put, List.setIfInBounds_toArray, List.set_cons_zero, List.set_cons_succ]))
  refine wpOrd_eff rfl rfl (fun K hK => ?_)
  have c0 : w2.cell? ⟨w.heap.size + 1 + 1, 0, none⟩ = some (.string ⟨#[]⟩) := kC2.cell 0
  have c1 : w2.cell? ⟨w.heap.size + 1 + 1, 1, none⟩ = some (.int .i64 0) := kC2.cell 1
  have f0 := kC2.frozen 0
  have f1 := kC2.frozen 1
  have hlt := kC2.lt
  go_wp2_with fail
  refine hK.out _ _ ⟨HB.out _ ((kB2.other (a := ⟨w.heap.size + 1 + 1, 0, none⟩) (by simp) _).other (a := ⟨w.heap.size + 1 + 1, 1, none⟩) (by simp) _), HN.out _ ((kN2.other (a := ⟨w.heap.size + 1 + 1, 0, none⟩) (by simp; omega) _).other (a := ⟨w.heap.size + 1 + 1, 1, none⟩) (by simp; omega) _)⟩ ?_
  clear hK K
  refine wpOrd_nil ?_
  go_wp2_with fail
  refine bodyPost_ret (v := .tuple #[.bool true, rv s1]) (by simp [results, Try.results21, go_sem, rv, c0, c1]) rfl ⟨rfl, ?_, ?_⟩
  · refine ⟨gw2.os, gw2.tape, gw2.output, by simp; exact gw2.size, fun k hk hne => ?_⟩
    rw [Below.heap_setCell _ _ _ _ (by simp; omega), Below.heap_setCell _ _ _ _ (by simp; omega)]
    exact gw2.block k hk hne
  · exact Blk.other (Blk.other hr2 (a := ⟨w.heap.size + 1 + 1, 0, none⟩) (by simp; omega) _) (a := ⟨w.heap.size + 1 + 1, 1, none⟩) (by simp; omega) _
set_option maxRecDepth 100000 in
set_option maxHeartbeats 2000000 in
theorem asked2 (b : Nat) (s : R) (n : Nat) (hn : n < 18446744073709551616) (m : Int) (hm : m < 9223372036854775808) (w : World) (h : Rdr w b s) (hl : s.rest.length ≤ 1000000000) :
    Calls Try.prog 21 #[rp b, rv s, .agg #[.int .u8 2, .int .u64 n, .int .i64 m]] w (AskedP w b (strR s m.toNat).2) := by
  have hb := h.lt
  have HP := Lib.hid (fun w h => str_any b s m hm w h (by omega))
  have HD := Lib.hid (fun w => dstr_any s m hm hl w)
  obtain ⟨x, s1, hns⟩ : ∃ x s1, strR s m.toNat = (x, s1) := ⟨_, _, rfl⟩
  rw [hns] at HP HD ⊢
  clear hns
  have e1 : ((bs x).toList == (bs x).toList) = true := beq_self_eq_true _
  rw [show rv s = .agg #[.string (bs s.rest), .int .i64 s.e] from rfl]
  go_enter Try.func21, Try.ntmps21
  go_wp2_with fail
  refine (HD.out _).mono ?_
  rintro e w1 ⟨rfl, b1⟩
  have hr1 : Rdr w1 b s := Blk.later (Blk.alloc (Blk.alloc (Blk.alloc h _) _) _) b1
  have kB := Blk.later (b := w.heap.size + 1) (Blk.alloc (Blk.newAt _ (by simp)) _) b1
  have kC := Blk.later (b := w.heap.size + 1 + 1) (Blk.newAt _ (by simp)) b1
  have gw1 : w.grownBy w1 (some b) := gbelow ((below3 w _ _ _).trans (b1.mono (by simp; omega)))
  have z1 := b1.size
  simp only [World.size_alloc] at z1
  clear b1
  unfold rv
  go_wp2_with fail
  have hrW : Rdr (w1.alloc (.cells #[.string (bs s1.rest), .int .i64 s1.e] 45)) b s := Blk.alloc hr1 _
  have kBW := kB.alloc (.cells #[.string (bs s1.rest), .int .i64 s1.e] 45)
  have kCW := kC.alloc (.cells #[.string (bs s1.rest), .int .i64 s1.e] 45)
  have kN := Blk.new w1 (.cells #[.string (bs s1.rest), .int .i64 s1.e] 45)
  have gW : w.grownBy (w1.alloc (.cells #[.string (bs s1.rest), .int .i64 s1.e] 45)) (some b) := gtrans gw1 (gbelow (below1 _ _))
  generalize w1.alloc (.cells #[.string (bs s1.rest), .int .i64 s1.e] 45) = W at *
  clear hr1 kB kC gw1
  obtain ⟨n9, hn9⟩ : ∃ n9, w1.heap.size = n9 := ⟨_, rfl⟩
  rw [hn9] at kN z1 ⊢
  clear hn9
  have hcB : ∀ w', Blk w' (w.heap.size + 1) (.cells #[.int .u8 2, .int .u64 n, .int .i64 m] 49) → w'.cell? ⟨w.heap.size + 1, 1, none⟩ = some (.int .u64 n) ∧ w'.cell? ⟨w.heap.size + 1, 2, none⟩ = some (.int .i64 m) := fun w' k => ⟨k.cell 1, k.cell 2⟩
  have hcN : ∀ w', Blk w' n9 (.cells #[.string (bs s1.rest), .int .i64 s1.e] 45) → w'.cell? ⟨n9, 0, none⟩ = some (.string (bs s1.rest)) ∧ w'.cell? ⟨n9, 1, none⟩ = some (.int .i64 s1.e) := fun w' k => ⟨k.cell 0, k.cell 1⟩
  have HB := Lib.hid hcB
  have HN := Lib.hid hcN
  clear hcB hcN
  refine wp_region_ord (fun w' => (w'.cell? ⟨w.heap.size + 1, 1, none⟩ = some (.int .u64 n) ∧ w'.cell? ⟨w.heap.size + 1, 2, none⟩ = some (.int .i64 m)) ∧ (w'.cell? ⟨n9, 0, none⟩ = some (.string (bs s1.rest)) ∧ w'.cell? ⟨n9, 1, none⟩ = some (.int .i64 s1.e))) (0 :: 1 :: 2 :: 4 :: 6 :: 3 :: 5 :: 7 :: 8 :: []) [3, 8] (by kernel_rfl) (by kernel_rfl) (by intro c d v a w h; cases d <;> exact h) ⟨HB.out _ kBW.drew, HN.out _ kN.drew⟩ ?_
  repeat (first
    | (refine wpOrd_take (v := ?_) rfl rfl ?_ ?_ ?_; rotate_left; rfl; (· intro w' hSw; (try dsimp only at hSw); go_simp <;> with_reducible rfl); simp only [Act.put, List.setIfInBounds_toArray, List.set_cons_zero, List.set_cons_succ])
    | (refine wpOrd_skip rfl rfl ?_ ?_; rfl; simp only [Act.put, List.setIfInBounds_toArray, List.set_cons_zero, List.set_cons_succ]))
  refine wpOrd_eff rfl rfl (fun K hK => ?_)
  go_wp2_with fail
  refine (HP.out _ (Blk.drew hrW)).mono ?_
  rintro e w2 ⟨rfl, g2, hr2⟩
  have kB2 := Blk.grown kBW.drew g2 (by simp; omega)
  have kC2 := Blk.grown kCW.drew g2 (by simp; omega)
  have kN2 := Blk.grown kN.drew g2 (by simp; omega)
  have gw2 := gtrans (gtrans gW (drew_grown _ _)) g2
  clear hrW kBW kCW kN gW g2
  go_wp2_with fail
  refine hK.out _ _ ⟨HB.out _ kB2, HN.out _ kN2⟩ ?_
  clear hK K
  repeat (first
    | (refine wpOrd_take (v := ?_) rfl rfl ?_ ?_ ?_; rotate_left; rfl; (· intro w' hSw; (try dsimp only at hSw); go_simp <;> with_reducible rfl); simp only [Act.put, List.setIfInBounds_toArray, List.set_cons_zero, List.set_cons_succ])
    | (refine wpOrd_skip rfl rfl ?_ ?_; rfl; simp only [Act.put, List.setIfInBounds_toArray, List.set_cons_zero, List.set_cons_succ]))
  refine wpOrd_eff rfl rfl (fun K hK => ?_)
  have c0 : w2.cell? ⟨w.heap.size + 1 + 1, 0, none⟩ = some (.string ⟨#[]⟩) := kC2.cell 0
  have c1 : w2.cell? ⟨w.heap.size + 1 + 1, 1, none⟩ = some (.int .i64 0) := kC2.cell 1
  have f0 := kC2.frozen 0
  have f1 := kC2.frozen 1
  have hlt := kC2.lt
  go_wp2_with fail
  refine hK.out _ _ ⟨HB.out _ ((kB2.other (a := ⟨w.heap.size + 1 + 1, 0, none⟩) (by simp) _).other (a := ⟨w.heap.size + 1 + 1, 1, none⟩) (by simp) _), HN.out _ ((kN2.other (a := ⟨w.heap.size + 1 + 1, 0, none⟩) (by simp; omega) _).other (a := ⟨w.heap.size + 1 + 1, 1, none⟩) (by simp; omega) _)⟩ ?_
  clear hK K
  refine wpOrd_nil ?_
  go_wp2_with fail
  refine bodyPost_ret (v := .tuple #[.bool true, rv s1]) (by simp [results, Try.results21, go_sem, rv, c0, c1]) rfl ⟨rfl, ?_, ?_⟩
  · refine ⟨gw2.os, gw2.tape, gw2.output, by simp; exact gw2.size, fun k hk hne => ?_⟩
    rw [Below.heap_setCell _ _ _ _ (by simp; omega), Below.heap_setCell _ _ _ _ (by simp; omega)]
    exact gw2.block k hk hne
  · exact Blk.other (Blk.other hr2 (a := ⟨w.heap.size + 1 + 1, 0, none⟩) (by simp; omega) _) (a := ⟨w.heap.size + 1 + 1, 1, none⟩) (by simp; omega) _
set_option maxRecDepth 100000 in
set_option maxHeartbeats 2000000 in
theorem asked3 (b : Nat) (s : R) (n : Nat) (hn : n < 18446744073709551616) (m : Int) (hm : m < 9223372036854775808) (w : World) (h : Rdr w b s) (hl : s.rest.length ≤ 1000000000) :
    Calls Try.prog 21 #[rp b, rv s, .agg #[.int .u8 3, .int .u64 n, .int .i64 m]] w (AskedP w b (belowR s n).2) := by
  have hb := h.lt
  have HP := Lib.hid (fun w h => below_any b s n hn w h (by omega))
  have HD := Lib.hid (fun w => dbelow_any s n hl w)
  obtain ⟨x, s1, hns⟩ : ∃ x s1, belowR s n = (x, s1) := ⟨_, _, rfl⟩
  rw [hns] at HP HD ⊢
  clear hns
  rw [show rv s = .agg #[.string (bs s.rest), .int .i64 s.e] from rfl]
  go_enter Try.func21, Try.ntmps21
  go_wp2_with fail
  refine (HD.out _).mono ?_
  rintro e w1 ⟨rfl, b1⟩
  have hr1 : Rdr w1 b s := Blk.later (Blk.alloc (Blk.alloc (Blk.alloc h _) _) _) b1
  have kB := Blk.later (b := w.heap.size + 1) (Blk.alloc (Blk.newAt _ (by simp)) _) b1
  have kC := Blk.later (b := w.heap.size + 1 + 1) (Blk.newAt _ (by simp)) b1
  have gw1 : w.grownBy w1 (some b) := gbelow ((below3 w _ _ _).trans (b1.mono (by simp; omega)))
  have z1 := b1.size
  simp only [World.size_alloc] at z1
  clear b1
  unfold rv
  go_wp2_with fail
  have hrW : Rdr (w1.alloc (.cells #[.string (bs s1.rest), .int .i64 s1.e] 45)) b s := Blk.alloc hr1 _
  have kBW := kB.alloc (.cells #[.string (bs s1.rest), .int .i64 s1.e] 45)
  have kCW := kC.alloc (.cells #[.string (bs s1.rest), .int .i64 s1.e] 45)
  have kN := Blk.new w1 (.cells #[.string (bs s1.rest), .int .i64 s1.e] 45)
  have gW : w.grownBy (w1.alloc (.cells #[.string (bs s1.rest), .int .i64 s1.e] 45)) (some b) := gtrans gw1 (gbelow (below1 _ _))
  generalize w1.alloc (.cells #[.string (bs s1.rest), .int .i64 s1.e] 45) = W at *
  clear hr1 kB kC gw1
  obtain ⟨n9, hn9⟩ : ∃ n9, w1.heap.size = n9 := ⟨_, rfl⟩
  rw [hn9] at kN z1 ⊢
  clear hn9
  have hcB : ∀ w', Blk w' (w.heap.size + 1) (.cells #[.int .u8 3, .int .u64 n, .int .i64 m] 49) → w'.cell? ⟨w.heap.size + 1, 1, none⟩ = some (.int .u64 n) ∧ w'.cell? ⟨w.heap.size + 1, 2, none⟩ = some (.int .i64 m) := fun w' k => ⟨k.cell 1, k.cell 2⟩
  have hcN : ∀ w', Blk w' n9 (.cells #[.string (bs s1.rest), .int .i64 s1.e] 45) → w'.cell? ⟨n9, 0, none⟩ = some (.string (bs s1.rest)) ∧ w'.cell? ⟨n9, 1, none⟩ = some (.int .i64 s1.e) := fun w' k => ⟨k.cell 0, k.cell 1⟩
  have HB := Lib.hid hcB
  have HN := Lib.hid hcN
  clear hcB hcN
  refine wp_region_ord (fun w' => (w'.cell? ⟨w.heap.size + 1, 1, none⟩ = some (.int .u64 n) ∧ w'.cell? ⟨w.heap.size + 1, 2, none⟩ = some (.int .i64 m)) ∧ (w'.cell? ⟨n9, 0, none⟩ = some (.string (bs s1.rest)) ∧ w'.cell? ⟨n9, 1, none⟩ = some (.int .i64 s1.e))) (0 :: 1 :: 2 :: 4 :: 6 :: 3 :: 5 :: 7 :: 8 :: []) [3, 8] (by kernel_rfl) (by kernel_rfl) (by intro c d v a w h; cases d <;> exact h) ⟨HB.out _ kBW.drew, HN.out _ kN.drew⟩ ?_
  repeat (first
    | (refine wpOrd_take (v := ?_) rfl rfl ?_ ?_ ?_; rotate_left; rfl; (· intro w' hSw; (try dsimp only at hSw); go_simp <;> with_reducible rfl); simp only [Act.put, List.setIfInBounds_toArray, List.set_cons_zero, List.set_cons_succ])
    | (refine wpOrd_skip rfl rfl ?_ ?_; rfl; simp only [Act.put, List.setIfInBounds_toArray, List.set_cons_zero, List.set_cons_succ]))
  refine wpOrd_eff rfl rfl (fun K hK => ?_)
  go_wp2_with fail
  refine (HP.out _ (Blk.drew hrW)).mono ?_
  rintro e w2 ⟨rfl, g2, hr2⟩
  have kB2 := Blk.grown kBW.drew g2 (by simp; omega)
  have kC2 := Blk.grown kCW.drew g2 (by simp; omega)
  have kN2 := Blk.grown kN.drew g2 (by simp; omega)
  have gw2 := gtrans (gtrans gW (drew_grown _ _)) g2
  clear hrW kBW kCW kN gW g2
  go_wp2_with fail
  refine hK.out _ _ ⟨HB.out _ kB2, HN.out _ kN2⟩ ?_
  clear hK K
  repeat (first
    | (refine wpOrd_take (v := ?_) rfl rfl ?_ ?_ ?_; rotate_left; rfl; (· intro w' hSw; (try dsimp only at hSw); go_simp <;> with_reducible rfl); simp only [Act.put, List.setIfInBounds_toArray, List.set_cons_zero, List.set_cons_succ])
    | (refine wpOrd_skip rfl rfl ?_ ?_; rfl; simp only [Act.put, List.setIfInBounds_toArray, List.set_cons_zero, List.set_cons_succ]))
  refine wpOrd_eff rfl rfl (fun K hK => ?_)
  have c0 : w2.cell? ⟨w.heap.size + 1 + 1, 0, none⟩ = some (.string ⟨#[]⟩) := kC2.cell 0
  have c1 : w2.cell? ⟨w.heap.size + 1 + 1, 1, none⟩ = some (.int .i64 0) := kC2.cell 1
  have f0 := kC2.frozen 0
  have f1 := kC2.frozen 1
  have hlt := kC2.lt
  go_wp2_with fail
  refine hK.out _ _ ⟨HB.out _ ((kB2.other (a := ⟨w.heap.size + 1 + 1, 0, none⟩) (by simp) _).other (a := ⟨w.heap.size + 1 + 1, 1, none⟩) (by simp) _), HN.out _ ((kN2.other (a := ⟨w.heap.size + 1 + 1, 0, none⟩) (by simp; omega) _).other (a := ⟨w.heap.size + 1 + 1, 1, none⟩) (by simp; omega) _)⟩ ?_
  clear hK K
  refine wpOrd_nil ?_
  go_wp2_with fail
  refine bodyPost_ret (v := .tuple #[.bool true, rv s1]) (by simp [results, Try.results21, go_sem, rv, c0, c1]) rfl ⟨rfl, ?_, ?_⟩
  · refine ⟨gw2.os, gw2.tape, gw2.output, by simp; exact gw2.size, fun k hk hne => ?_⟩
    rw [Below.heap_setCell _ _ _ _ (by simp; omega), Below.heap_setCell _ _ _ _ (by simp; omega)]
    exact gw2.block k hk hne
  · exact Blk.other (Blk.other hr2 (a := ⟨w.heap.size + 1 + 1, 0, none⟩) (by simp; omega) _) (a := ⟨w.heap.size + 1 + 1, 1, none⟩) (by simp; omega) _
set_option maxRecDepth 100000 in
set_option maxHeartbeats 2000000 in
theorem asked4 (b : Nat) (s : R) (n : Nat) (m : Int) (w : World) (h : Rdr w b s) :
    Calls Try.prog 21 #[rp b, rv s, .agg #[.int .u8 4, .int .u64 n, .int .i64 m]] w (AskedP w b (badR s)) := by
  have hb := h.lt
  have HP := Lib.hid (fun w h => bad_of b s w h)
  have HD := Lib.hid (fun w => dbad_any s w)
  obtain ⟨s1, hns⟩ : ∃ s1, badR s = s1 := ⟨_, rfl⟩
  rw [hns] at HP HD ⊢
  clear hns
  rw [show rv s = .agg #[.string (bs s.rest), .int .i64 s.e] from rfl]
  go_enter Try.func21, Try.ntmps21
  go_wp2_with fail
  have hr0 : Rdr (((w.alloc (.cells #[.string (bs s.rest), .int .i64 s.e] 45)).alloc (.cells #[.int .u8 4, .int .u64 n, .int .i64 m] 49)).alloc (.cells #[.string ⟨#[]⟩, .int .i64 0] 45)) b s := Blk.alloc (Blk.alloc (Blk.alloc h _) _) _
  refine (HP.out _ hr0).mono ?_
  rintro e w1 ⟨rfl, g1, hr1⟩
  have kA := Blk.grown (b := w.heap.size) (Blk.alloc (Blk.alloc (Blk.new _ _) _) _) g1 (by simp; omega)
  have kC := Blk.grown (b := w.heap.size + 1 + 1) (Blk.newAt _ (by simp)) g1 (by simp; omega)
  have gw1 : w.grownBy w1 (some b) := gtrans (gbelow (below3 w _ _ _)) g1
  clear hr0 g1
  have a0 := kA.cell 0
  have a1 := kA.cell 1
  go_wp2_with fail
  refine (HD.out _).mono ?_
  rintro e w2 ⟨rfl, b2⟩
  have hr2 : Rdr w2 b s1 := Blk.later hr1 b2
  have kC2 := kC.later b2
  have gw2 := gtrans gw1 (gbelow b2)
  have c0 : w2.cell? ⟨w.heap.size + 1 + 1, 0, none⟩ = some (.string ⟨#[]⟩) := kC2.cell 0
  have c1 : w2.cell? ⟨w.heap.size + 1 + 1, 1, none⟩ = some (.int .i64 0) := kC2.cell 1
  have f0 := kC2.frozen 0
  have f1 := kC2.frozen 1
  clear kA kC gw1 b2 hr1 a0 a1
  unfold rv
  go_wp2_with fail
  refine bodyPost_ret (v := .tuple #[.bool true, rv s1]) (by simp [results, Try.results21, go_sem, rv, c0, c1]) rfl ⟨rfl, ?_, ?_⟩
  · refine ⟨gw2.os, gw2.tape, gw2.output, by simp; exact gw2.size, fun k hk hne => ?_⟩
    rw [Below.heap_setCell _ _ _ _ (by simp; omega), Below.heap_setCell _ _ _ _ (by simp; omega)]
    exact gw2.block k hk hne
  · exact Blk.other (Blk.other hr2 (a := ⟨w.heap.size + 1 + 1, 0, none⟩) (by simp; omega) _) (a := ⟨w.heap.size + 1 + 1, 1, none⟩) (by simp; omega) _
set_option maxRecDepth 100000 in
set_option maxHeartbeats 2000000 in
theorem asked5 (b : Nat) (s : R) (hf : s.fine) (d : Nat) (hd : 5 ≤ d) (n : Nat) (m : Int) (w : World) (h : Rdr w b s) (hl : s.rest.length ≤ 1000000000) :
    Calls Try.prog 21 #[rp b, rv s, .agg #[.int .u8 d, .int .u64 n, .int .i64 m]] w (AskedP w b (endR s)) := by
  have hb := h.lt
  have HP := Lib.hid (fun w h => end_of b s w h)
  have HD := Lib.hid (fun w => dend_any s hf w)
  have d0 : ((d : Int) == 0) = false := beq_eq_false_iff_ne.2 (by omega)
  have d1 : ((d : Int) == 1) = false := beq_eq_false_iff_ne.2 (by omega)
  have d2 : ((d : Int) == 2) = false := beq_eq_false_iff_ne.2 (by omega)
  have d3 : ((d : Int) == 3) = false := beq_eq_false_iff_ne.2 (by omega)
  have d4 : ((d : Int) == 4) = false := beq_eq_false_iff_ne.2 (by omega)
  obtain ⟨s1, hns⟩ : ∃ s1, endR s = s1 := ⟨_, rfl⟩
  rw [hns] at HP HD ⊢
  clear hns
  rw [show rv s = .agg #[.string (bs s.rest), .int .i64 s.e] from rfl]
  go_enter Try.func21, Try.ntmps21
  go_wp2_with fail
  refine (HD.out _).mono ?_
  rintro e w1 ⟨rfl, b1⟩
  have hr1 : Rdr w1 b s := Blk.later (Blk.alloc (Blk.alloc (Blk.alloc h _) _) _) b1
  have kB := Blk.later (b := w.heap.size + 1) (Blk.alloc (Blk.newAt _ (by simp)) _) b1
  have kC := Blk.later (b := w.heap.size + 1 + 1) (Blk.newAt _ (by simp)) b1
  have gw1 : w.grownBy w1 (some b) := gbelow ((below3 w _ _ _).trans (b1.mono (by simp; omega)))
  have z1 := b1.size
  simp only [World.size_alloc] at z1
  clear b1
  unfold rv
  go_wp2_with fail
  have hrW : Rdr (w1.alloc (.cells #[.string (bs s1.rest), .int .i64 s1.e] 45)) b s := Blk.alloc hr1 _
  have kBW := kB.alloc (.cells #[.string (bs s1.rest), .int .i64 s1.e] 45)
  have kCW := kC.alloc (.cells #[.string (bs s1.rest), .int .i64 s1.e] 45)
  have kN := Blk.new w1 (.cells #[.string (bs s1.rest), .int .i64 s1.e] 45)
  have gW : w.grownBy (w1.alloc (.cells #[.string (bs s1.rest), .int .i64 s1.e] 45)) (some b) := gtrans gw1 (gbelow (below1 _ _))
  generalize w1.alloc (.cells #[.string (bs s1.rest), .int .i64 s1.e] 45) = W at *
  clear hr1 kB kC gw1
  obtain ⟨n9, hn9⟩ : ∃ n9, w1.heap.size = n9 := ⟨_, rfl⟩
  rw [hn9] at kN z1 ⊢
  clear hn9
  have hcB : ∀ w', Blk w' (w.heap.size + 1) (.cells #[.int .u8 d, .int .u64 n, .int .i64 m] 49) → w'.cell? ⟨w.heap.size + 1, 1, none⟩ = some (.int .u64 n) ∧ w'.cell? ⟨w.heap.size + 1, 2, none⟩ = some (.int .i64 m) := fun w' k => ⟨k.cell 1, k.cell 2⟩
  have hcN : ∀ w', Blk w' n9 (.cells #[.string (bs s1.rest), .int .i64 s1.e] 45) → w'.cell? ⟨n9, 0, none⟩ = some (.string (bs s1.rest)) ∧ w'.cell? ⟨n9, 1, none⟩ = some (.int .i64 s1.e) := fun w' k => ⟨k.cell 0, k.cell 1⟩
  have HB := Lib.hid hcB
  have HN := Lib.hid hcN
  clear hcB hcN
  refine wp_region_ord (fun w' => (w'.cell? ⟨w.heap.size + 1, 1, none⟩ = some (.int .u64 n) ∧ w'.cell? ⟨w.heap.size + 1, 2, none⟩ = some (.int .i64 m)) ∧ (w'.cell? ⟨n9, 0, none⟩ = some (.string (bs s1.rest)) ∧ w'.cell? ⟨n9, 1, none⟩ = some (.int .i64 s1.e))) (0 :: 2 :: 3 :: 5 :: 1 :: 4 :: 6 :: 7 :: []) [1, 7] (by kernel_rfl) (by kernel_rfl) (by intro c d v a w h; cases d <;> exact h) ⟨HB.out _ kBW.drew, HN.out _ kN.drew⟩ ?_
  repeat (first
    | (refine wpOrd_take (v := ?_) rfl rfl ?_ ?_ ?_; rotate_left; rfl; (· intro w' hSw; (try dsimp only at hSw); go_simp <;> with_reducible rfl); simp only [Act.put, List.setIfInBounds_toArray, List.set_cons_zero, List.set_cons_succ])
    | (refine wpOrd_skip rfl rfl ?_ ?_; rfl; simp only [Act.put, List.setIfInBounds_toArray, List.set_cons_zero, List.set_cons_succ]))
  refine wpOrd_eff rfl rfl (fun K hK => ?_)
  go_wp2_with fail
  refine (HP.out _ (Blk.drew hrW)).mono ?_
  rintro e w2 ⟨rfl, g2, hr2⟩
  have kB2 := Blk.grown kBW.drew g2 (by simp; omega)
  have kC2 := Blk.grown kCW.drew g2 (by simp; omega)
  have kN2 := Blk.grown kN.drew g2 (by simp; omega)
  have gw2 := gtrans (gtrans gW (drew_grown _ _)) g2
  clear hrW kBW kCW kN gW g2
  go_wp2_with fail
  refine hK.out _ _ ⟨HB.out _ kB2, HN.out _ kN2⟩ ?_
  clear hK K
  repeat (first
    | (refine wpOrd_take (v := ?_) rfl rfl ?_ ?_ ?_; rotate_left; rfl; (· intro w' hSw; (try dsimp only at hSw); go_simp <;> with_reducible rfl); simp only [Act.put, List.setIfInBounds_toArray, List.set_cons_zero, List.set_cons_succ])
    | (refine wpOrd_skip rfl rfl ?_ ?_; rfl; simp only [Act.put, List.setIfInBounds_toArray, List.set_cons_zero, List.set_cons_succ]))
  refine wpOrd_eff rfl rfl (fun K hK => ?_)
  have c0 : w2.cell? ⟨w.heap.size + 1 + 1, 0, none⟩ = some (.string ⟨#[]⟩) := kC2.cell 0
  have c1 : w2.cell? ⟨w.heap.size + 1 + 1, 1, none⟩ = some (.int .i64 0) := kC2.cell 1
  have f0 := kC2.frozen 0
  have f1 := kC2.frozen 1
  have hlt := kC2.lt
  go_wp2_with fail
  refine hK.out _ _ ⟨HB.out _ ((kB2.other (a := ⟨w.heap.size + 1 + 1, 0, none⟩) (by simp) _).other (a := ⟨w.heap.size + 1 + 1, 1, none⟩) (by simp) _), HN.out _ ((kN2.other (a := ⟨w.heap.size + 1 + 1, 0, none⟩) (by simp; omega) _).other (a := ⟨w.heap.size + 1 + 1, 1, none⟩) (by simp; omega) _)⟩ ?_
  clear hK K
  refine wpOrd_nil ?_
  go_wp2_with fail
  refine bodyPost_ret (v := .tuple #[.bool true, rv s1]) (by simp [results, Try.results21, go_sem, rv, c0, c1]) rfl ⟨rfl, ?_, ?_⟩
  · refine ⟨gw2.os, gw2.tape, gw2.output, by simp; exact gw2.size, fun k hk hne => ?_⟩
    rw [Below.heap_setCell _ _ _ _ (by simp; omega), Below.heap_setCell _ _ _ _ (by simp; omega)]
    exact gw2.block k hk hne
  · exact Blk.other (Blk.other hr2 (a := ⟨w.heap.size + 1 + 1, 0, none⟩) (by simp; omega) _) (a := ⟨w.heap.size + 1 + 1, 1, none⟩) (by simp; omega) _
def askR (s : R) (d n : Nat) (m : Int) : R := if d = 0 then (numR s).2 else if d = 1 then (byteR s).2 else if d = 2 then (strR s m.toNat).2 else if d = 3 then (belowR s n).2 else if d = 4 then badR s else endR s
theorem asked_any (b : Nat) (s : R) (hf : s.fine) (d n : Nat) (hn : n < 18446744073709551616) (m : Int) (hm : m < 9223372036854775808) (w : World) (h : Rdr w b s) (hl : s.rest.length ≤ 1000000000) :
    Calls Try.prog 21 #[rp b, rv s, .agg #[.int .u8 d, .int .u64 n, .int .i64 m]] w (AskedP w b (askR s d n m)) := by
  unfold askR
  by_cases h0 : d = 0
  · subst h0; rw [if_pos rfl]; exact asked0 b s n hn m hm w h hl
  rw [if_neg h0]
  by_cases h1 : d = 1
  · subst h1; rw [if_pos rfl]; exact asked1 b s n hn m hm w h hl
  rw [if_neg h1]
  by_cases h2 : d = 2
  · subst h2; rw [if_pos rfl]; exact asked2 b s n hn m hm w h hl
  rw [if_neg h2]
  by_cases h3 : d = 3
  · subst h3; rw [if_pos rfl]; exact asked3 b s n hn m hm w h hl
  rw [if_neg h3]
  by_cases h4 : d = 4
  · subst h4; rw [if_pos rfl]; exact asked4 b s n m w h
  rw [if_neg h4]
  exact asked5 b s hf d (by omega) n m w h hl
end Wire
end Go.Proofs.Yteilmkknedgmpaa
