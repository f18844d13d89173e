/-
  Tables of sessions: what Keep answers.
-/
import Derived.Test.YtidgeljkihamhaaSesWalks
namespace Go.Proofs.Ytidgeljkihamhaa
open Go.RowKit
namespace Ses
/-- The table behind a command's being kept. -/
def keepT (T : Nat → L) (c q code : Nat) (text : ByteArray) : Nat → L := if (lookT T c q).2.2 = 1 then fun i => if i = c then ⟨q, code, text⟩ else T i else T
theorem keep_ok (T : Nat → L) (c q code : Nat) (text : ByteArray) (hT : ∀ i < 4, (T i).ok) : ∀ i < 4, (keepT T c q code text i).ok := by
  intro i hi
  unfold keepT
  split
  · rename_i h
    simp only []
    split
    · refine .inr ?_
      rcases Nat.eq_zero_or_pos q with h0 | h0
      · subst h0; simp [lookT] at h
      · exact h0
    · exact hT i hi
  · exact hT i hi
set_option maxRecDepth 100000 in
set_option maxHeartbeats 4000000 in
theorem keep_not (T : Nat → L) (c q code : Nat) (text : ByteArray) (hc : c ≤ 255) (hT : ∀ i < 4, (T i).ok) (hf : (lookT T c q).2.2 ≠ 1) (w : World) :
    Calls Try.prog 9 #[tab T, .int .u8 c, .int .u32 q, .agg #[.int .u8 code, .string text]] w fun e w' => e = .returned (tab (keepT T c q code text)) ∧ Below w.heap.size w w' := by
  have HK := Lib.hid (show keepT T c q code text = T by rw [keepT, if_neg hf])
  have hL := Lib.hid (fun w => look_any T c q hc hT w)
  unfold tab
  unfold tab at hL
  obtain ⟨a, b, d, hlk⟩ : ∃ a b d, lookT T c q = (a, b, d) := ⟨_, _, _, rfl⟩
  rw [hlk] at hf hL
  have hne : ((d : Int) == 1) = false := by rw [beq_eq_false_iff_ne]; simp at hf; omega
  clear hlk hf
  go_enter Try.func9, Try.ntmps9
  go_wp2_with fail
  refine (hL.out _).mono ?_
  rintro e w1 ⟨rfl, b1⟩
  have hz2 : w.heap.size + 1 + 1 < w1.heap.size := by have := b1.size; simp at this; omega
  have hz1 : w.heap.size + 1 < w1.heap.size := by omega
  have hz0 : w.heap.size < w1.heap.size := by omega
  obtain ⟨hcc, hff⟩ := bcell b1
  simp only [lookV]
  have hB : Below w.heap.size w w1 := (below3 w _ _ _).trans (b1.mono (by simp; omega))
  clear b1 hL
  go_wp2
  refine bodyPost_ret (v := tab T) (by simp [results, Try.results9, go_sem, hcc, hz2, tab]) rfl ⟨by rw [HK.out]; rfl, ?_⟩
  repeat (first | (with_reducible refine Below.setCell ?_ (by dsimp only; omega) _) | (with_reducible refine Below.alloc ?_ (by simp only [World.size_alloc, World.size_setCell]; omega) _))
  exact hB
set_option maxRecDepth 100000 in
set_option maxHeartbeats 4000000 in
theorem keep_0 (T : Nat → L) (q code : Nat) (text : ByteArray) (hT : ∀ i < 4, (T i).ok) (hf : (lookT T 0 q).2.2 = 1) (w : World) :
    Calls Try.prog 9 #[tab T, .int .u8 0, .int .u32 q, .agg #[.int .u8 code, .string text]] w fun e w' => e = .returned (tab (keepT T 0 q code text)) ∧ Below w.heap.size w w' := by
  have HK := Lib.hid (show keepT T 0 q code text = fun i => if i = 0 then ⟨q, code, text⟩ else T i by rw [keepT, if_pos hf])
  have hL := Lib.hid (fun w => look_any T 0 q (by decide) hT w)
  unfold tab
  unfold tab at hL
  obtain ⟨a, b, d, hlk⟩ : ∃ a b d, lookT T 0 q = (a, b, d) := ⟨_, _, _, rfl⟩
  rw [hlk] at hf hL
  obtain rfl : d = 1 := hf
  clear hlk
  go_enter Try.func9, Try.ntmps9
  go_wp2_with fail
  refine (hL.out _).mono ?_
  rintro e w1 ⟨rfl, b1⟩
  have hz2 : w.heap.size + 1 + 1 < w1.heap.size := by have := b1.size; simp at this; omega
  have hz1 : w.heap.size + 1 < w1.heap.size := by omega
  have hz0 : w.heap.size < w1.heap.size := by omega
  obtain ⟨hcc, hff⟩ := bcell b1
  have g0 : w1.cell? ⟨w.heap.size, 0, none⟩ = some (.int .u32 (T 0).q) := by rw [hcc _ _ (by simp; omega)]; simp [go_sem]
  have g1 : w1.cell? ⟨w.heap.size, 1, none⟩ = some (.int .u8 (T 0).c) := by rw [hcc _ _ (by simp; omega)]; simp [go_sem]
  have g2 : w1.cell? ⟨w.heap.size, 2, none⟩ = some (.string (T 0).t) := by rw [hcc _ _ (by simp; omega)]; simp [go_sem]
  have g3 : w1.cell? ⟨w.heap.size, 3, none⟩ = some (.int .u32 (T 1).q) := by rw [hcc _ _ (by simp; omega)]; simp [go_sem]
  have g4 : w1.cell? ⟨w.heap.size, 4, none⟩ = some (.int .u8 (T 1).c) := by rw [hcc _ _ (by simp; omega)]; simp [go_sem]
  have g5 : w1.cell? ⟨w.heap.size, 5, none⟩ = some (.string (T 1).t) := by rw [hcc _ _ (by simp; omega)]; simp [go_sem]
  have g6 : w1.cell? ⟨w.heap.size, 6, none⟩ = some (.int .u32 (T 2).q) := by rw [hcc _ _ (by simp; omega)]; simp [go_sem]
  have g7 : w1.cell? ⟨w.heap.size, 7, none⟩ = some (.int .u8 (T 2).c) := by rw [hcc _ _ (by simp; omega)]; simp [go_sem]
  have g8 : w1.cell? ⟨w.heap.size, 8, none⟩ = some (.string (T 2).t) := by rw [hcc _ _ (by simp; omega)]; simp [go_sem]
  have g9 : w1.cell? ⟨w.heap.size, 9, none⟩ = some (.int .u32 (T 3).q) := by rw [hcc _ _ (by simp; omega)]; simp [go_sem]
  have g10 : w1.cell? ⟨w.heap.size, 10, none⟩ = some (.int .u8 (T 3).c) := by rw [hcc _ _ (by simp; omega)]; simp [go_sem]
  have g11 : w1.cell? ⟨w.heap.size, 11, none⟩ = some (.string (T 3).t) := by rw [hcc _ _ (by simp; omega)]; simp [go_sem]
  have f0 : w1.frozen? ⟨w.heap.size, 0, none⟩ = false := by rw [hff _ _ (by simp; omega)]; simp [go_sem]
  have f1 : w1.frozen? ⟨w.heap.size, 1, none⟩ = false := by rw [hff _ _ (by simp; omega)]; simp [go_sem]
  have f2 : w1.frozen? ⟨w.heap.size, 2, none⟩ = false := by rw [hff _ _ (by simp; omega)]; simp [go_sem]
  have f3 : w1.frozen? ⟨w.heap.size, 3, none⟩ = false := by rw [hff _ _ (by simp; omega)]; simp [go_sem]
  have f4 : w1.frozen? ⟨w.heap.size, 4, none⟩ = false := by rw [hff _ _ (by simp; omega)]; simp [go_sem]
  have f5 : w1.frozen? ⟨w.heap.size, 5, none⟩ = false := by rw [hff _ _ (by simp; omega)]; simp [go_sem]
  have f6 : w1.frozen? ⟨w.heap.size, 6, none⟩ = false := by rw [hff _ _ (by simp; omega)]; simp [go_sem]
  have f7 : w1.frozen? ⟨w.heap.size, 7, none⟩ = false := by rw [hff _ _ (by simp; omega)]; simp [go_sem]
  have f8 : w1.frozen? ⟨w.heap.size, 8, none⟩ = false := by rw [hff _ _ (by simp; omega)]; simp [go_sem]
  have f9 : w1.frozen? ⟨w.heap.size, 9, none⟩ = false := by rw [hff _ _ (by simp; omega)]; simp [go_sem]
  have f10 : w1.frozen? ⟨w.heap.size, 10, none⟩ = false := by rw [hff _ _ (by simp; omega)]; simp [go_sem]
  have f11 : w1.frozen? ⟨w.heap.size, 11, none⟩ = false := by rw [hff _ _ (by simp; omega)]; simp [go_sem]
  simp only [lookV]
  have hB : Below w.heap.size w w1 := (below3 w _ _ _).trans (b1.mono (by simp; omega))
  clear b1 hL
  go_wp2
  refine bodyPost_ret (v := .agg #[.int .u32 q, .int .u8 code, .string text, .int .u32 (T 1).q, .int .u8 (T 1).c, .string (T 1).t, .int .u32 (T 2).q, .int .u8 (T 2).c, .string (T 2).t, .int .u32 (T 3).q, .int .u8 (T 3).c, .string (T 3).t]) (by simp [results, Try.results9, go_sem, hcc, hz2]) rfl ⟨by rw [HK.out]; rfl, ?_⟩
  repeat (first | (with_reducible refine Below.setCell ?_ (by dsimp only; omega) _) | (with_reducible refine Below.alloc ?_ (by simp only [World.size_alloc, World.size_setCell]; omega) _))
  exact hB
set_option maxRecDepth 100000 in
set_option maxHeartbeats 4000000 in
theorem keep_1 (T : Nat → L) (q code : Nat) (text : ByteArray) (hT : ∀ i < 4, (T i).ok) (hf : (lookT T 1 q).2.2 = 1) (w : World) :
    Calls Try.prog 9 #[tab T, .int .u8 1, .int .u32 q, .agg #[.int .u8 code, .string text]] w fun e w' => e = .returned (tab (keepT T 1 q code text)) ∧ Below w.heap.size w w' := by
  have HK := Lib.hid (show keepT T 1 q code text = fun i => if i = 1 then ⟨q, code, text⟩ else T i by rw [keepT, if_pos hf])
  have hL := Lib.hid (fun w => look_any T 1 q (by decide) hT w)
  unfold tab
  unfold tab at hL
  obtain ⟨a, b, d, hlk⟩ : ∃ a b d, lookT T 1 q = (a, b, d) := ⟨_, _, _, rfl⟩
  rw [hlk] at hf hL
  obtain rfl : d = 1 := hf
  clear hlk
  go_enter Try.func9, Try.ntmps9
  go_wp2_with fail
  refine (hL.out _).mono ?_
  rintro e w1 ⟨rfl, b1⟩
  have hz2 : w.heap.size + 1 + 1 < w1.heap.size := by have := b1.size; simp at this; omega
  have hz1 : w.heap.size + 1 < w1.heap.size := by omega
  have hz0 : w.heap.size < w1.heap.size := by omega
  obtain ⟨hcc, hff⟩ := bcell b1
  have g0 : w1.cell? ⟨w.heap.size, 0, none⟩ = some (.int .u32 (T 0).q) := by rw [hcc _ _ (by simp; omega)]; simp [go_sem]
  have g1 : w1.cell? ⟨w.heap.size, 1, none⟩ = some (.int .u8 (T 0).c) := by rw [hcc _ _ (by simp; omega)]; simp [go_sem]
  have g2 : w1.cell? ⟨w.heap.size, 2, none⟩ = some (.string (T 0).t) := by rw [hcc _ _ (by simp; omega)]; simp [go_sem]
  have g3 : w1.cell? ⟨w.heap.size, 3, none⟩ = some (.int .u32 (T 1).q) := by rw [hcc _ _ (by simp; omega)]; simp [go_sem]
  have g4 : w1.cell? ⟨w.heap.size, 4, none⟩ = some (.int .u8 (T 1).c) := by rw [hcc _ _ (by simp; omega)]; simp [go_sem]
  have g5 : w1.cell? ⟨w.heap.size, 5, none⟩ = some (.string (T 1).t) := by rw [hcc _ _ (by simp; omega)]; simp [go_sem]
  have g6 : w1.cell? ⟨w.heap.size, 6, none⟩ = some (.int .u32 (T 2).q) := by rw [hcc _ _ (by simp; omega)]; simp [go_sem]
  have g7 : w1.cell? ⟨w.heap.size, 7, none⟩ = some (.int .u8 (T 2).c) := by rw [hcc _ _ (by simp; omega)]; simp [go_sem]
  have g8 : w1.cell? ⟨w.heap.size, 8, none⟩ = some (.string (T 2).t) := by rw [hcc _ _ (by simp; omega)]; simp [go_sem]
  have g9 : w1.cell? ⟨w.heap.size, 9, none⟩ = some (.int .u32 (T 3).q) := by rw [hcc _ _ (by simp; omega)]; simp [go_sem]
  have g10 : w1.cell? ⟨w.heap.size, 10, none⟩ = some (.int .u8 (T 3).c) := by rw [hcc _ _ (by simp; omega)]; simp [go_sem]
  have g11 : w1.cell? ⟨w.heap.size, 11, none⟩ = some (.string (T 3).t) := by rw [hcc _ _ (by simp; omega)]; simp [go_sem]
  have f0 : w1.frozen? ⟨w.heap.size, 0, none⟩ = false := by rw [hff _ _ (by simp; omega)]; simp [go_sem]
  have f1 : w1.frozen? ⟨w.heap.size, 1, none⟩ = false := by rw [hff _ _ (by simp; omega)]; simp [go_sem]
  have f2 : w1.frozen? ⟨w.heap.size, 2, none⟩ = false := by rw [hff _ _ (by simp; omega)]; simp [go_sem]
  have f3 : w1.frozen? ⟨w.heap.size, 3, none⟩ = false := by rw [hff _ _ (by simp; omega)]; simp [go_sem]
  have f4 : w1.frozen? ⟨w.heap.size, 4, none⟩ = false := by rw [hff _ _ (by simp; omega)]; simp [go_sem]
  have f5 : w1.frozen? ⟨w.heap.size, 5, none⟩ = false := by rw [hff _ _ (by simp; omega)]; simp [go_sem]
  have f6 : w1.frozen? ⟨w.heap.size, 6, none⟩ = false := by rw [hff _ _ (by simp; omega)]; simp [go_sem]
  have f7 : w1.frozen? ⟨w.heap.size, 7, none⟩ = false := by rw [hff _ _ (by simp; omega)]; simp [go_sem]
  have f8 : w1.frozen? ⟨w.heap.size, 8, none⟩ = false := by rw [hff _ _ (by simp; omega)]; simp [go_sem]
  have f9 : w1.frozen? ⟨w.heap.size, 9, none⟩ = false := by rw [hff _ _ (by simp; omega)]; simp [go_sem]
  have f10 : w1.frozen? ⟨w.heap.size, 10, none⟩ = false := by rw [hff _ _ (by simp; omega)]; simp [go_sem]
  have f11 : w1.frozen? ⟨w.heap.size, 11, none⟩ = false := by rw [hff _ _ (by simp; omega)]; simp [go_sem]
  simp only [lookV]
  have hB : Below w.heap.size w w1 := (below3 w _ _ _).trans (b1.mono (by simp; omega))
  clear b1 hL
  go_wp2
  refine bodyPost_ret (v := .agg #[.int .u32 (T 0).q, .int .u8 (T 0).c, .string (T 0).t, .int .u32 q, .int .u8 code, .string text, .int .u32 (T 2).q, .int .u8 (T 2).c, .string (T 2).t, .int .u32 (T 3).q, .int .u8 (T 3).c, .string (T 3).t]) (by simp [results, Try.results9, go_sem, hcc, hz2]) rfl ⟨by rw [HK.out]; rfl, ?_⟩
  repeat (first | (with_reducible refine Below.setCell ?_ (by dsimp only; omega) _) | (with_reducible refine Below.alloc ?_ (by simp only [World.size_alloc, World.size_setCell]; omega) _))
  exact hB
set_option maxRecDepth 100000 in
set_option maxHeartbeats 4000000 in
theorem keep_2 (T : Nat → L) (q code : Nat) (text : ByteArray) (hT : ∀ i < 4, (T i).ok) (hf : (lookT T 2 q).2.2 = 1) (w : World) :
    Calls Try.prog 9 #[tab T, .int .u8 2, .int .u32 q, .agg #[.int .u8 code, .string text]] w fun e w' => e = .returned (tab (keepT T 2 q code text)) ∧ Below w.heap.size w w' := by
  have HK := Lib.hid (show keepT T 2 q code text = fun i => if i = 2 then ⟨q, code, text⟩ else T i by rw [keepT, if_pos hf])
  have hL := Lib.hid (fun w => look_any T 2 q (by decide) hT w)
  unfold tab
  unfold tab at hL
  obtain ⟨a, b, d, hlk⟩ : ∃ a b d, lookT T 2 q = (a, b, d) := ⟨_, _, _, rfl⟩
  rw [hlk] at hf hL
  obtain rfl : d = 1 := hf
  clear hlk
  go_enter Try.func9, Try.ntmps9
  go_wp2_with fail
  refine (hL.out _).mono ?_
  rintro e w1 ⟨rfl, b1⟩
  have hz2 : w.heap.size + 1 + 1 < w1.heap.size := by have := b1.size; simp at this; omega
  have hz1 : w.heap.size + 1 < w1.heap.size := by omega
  have hz0 : w.heap.size < w1.heap.size := by omega
  obtain ⟨hcc, hff⟩ := bcell b1
  have g0 : w1.cell? ⟨w.heap.size, 0, none⟩ = some (.int .u32 (T 0).q) := by rw [hcc _ _ (by simp; omega)]; simp [go_sem]
  have g1 : w1.cell? ⟨w.heap.size, 1, none⟩ = some (.int .u8 (T 0).c) := by rw [hcc _ _ (by simp; omega)]; simp [go_sem]
  have g2 : w1.cell? ⟨w.heap.size, 2, none⟩ = some (.string (T 0).t) := by rw [hcc _ _ (by simp; omega)]; simp [go_sem]
  have g3 : w1.cell? ⟨w.heap.size, 3, none⟩ = some (.int .u32 (T 1).q) := by rw [hcc _ _ (by simp; omega)]; simp [go_sem]
  have g4 : w1.cell? ⟨w.heap.size, 4, none⟩ = some (.int .u8 (T 1).c) := by rw [hcc _ _ (by simp; omega)]; simp [go_sem]
  have g5 : w1.cell? ⟨w.heap.size, 5, none⟩ = some (.string (T 1).t) := by rw [hcc _ _ (by simp; omega)]; simp [go_sem]
  have g6 : w1.cell? ⟨w.heap.size, 6, none⟩ = some (.int .u32 (T 2).q) := by rw [hcc _ _ (by simp; omega)]; simp [go_sem]
  have g7 : w1.cell? ⟨w.heap.size, 7, none⟩ = some (.int .u8 (T 2).c) := by rw [hcc _ _ (by simp; omega)]; simp [go_sem]
  have g8 : w1.cell? ⟨w.heap.size, 8, none⟩ = some (.string (T 2).t) := by rw [hcc _ _ (by simp; omega)]; simp [go_sem]
  have g9 : w1.cell? ⟨w.heap.size, 9, none⟩ = some (.int .u32 (T 3).q) := by rw [hcc _ _ (by simp; omega)]; simp [go_sem]
  have g10 : w1.cell? ⟨w.heap.size, 10, none⟩ = some (.int .u8 (T 3).c) := by rw [hcc _ _ (by simp; omega)]; simp [go_sem]
  have g11 : w1.cell? ⟨w.heap.size, 11, none⟩ = some (.string (T 3).t) := by rw [hcc _ _ (by simp; omega)]; simp [go_sem]
  have f0 : w1.frozen? ⟨w.heap.size, 0, none⟩ = false := by rw [hff _ _ (by simp; omega)]; simp [go_sem]
  have f1 : w1.frozen? ⟨w.heap.size, 1, none⟩ = false := by rw [hff _ _ (by simp; omega)]; simp [go_sem]
  have f2 : w1.frozen? ⟨w.heap.size, 2, none⟩ = false := by rw [hff _ _ (by simp; omega)]; simp [go_sem]
  have f3 : w1.frozen? ⟨w.heap.size, 3, none⟩ = false := by rw [hff _ _ (by simp; omega)]; simp [go_sem]
  have f4 : w1.frozen? ⟨w.heap.size, 4, none⟩ = false := by rw [hff _ _ (by simp; omega)]; simp [go_sem]
  have f5 : w1.frozen? ⟨w.heap.size, 5, none⟩ = false := by rw [hff _ _ (by simp; omega)]; simp [go_sem]
  have f6 : w1.frozen? ⟨w.heap.size, 6, none⟩ = false := by rw [hff _ _ (by simp; omega)]; simp [go_sem]
  have f7 : w1.frozen? ⟨w.heap.size, 7, none⟩ = false := by rw [hff _ _ (by simp; omega)]; simp [go_sem]
  have f8 : w1.frozen? ⟨w.heap.size, 8, none⟩ = false := by rw [hff _ _ (by simp; omega)]; simp [go_sem]
  have f9 : w1.frozen? ⟨w.heap.size, 9, none⟩ = false := by rw [hff _ _ (by simp; omega)]; simp [go_sem]
  have f10 : w1.frozen? ⟨w.heap.size, 10, none⟩ = false := by rw [hff _ _ (by simp; omega)]; simp [go_sem]
  have f11 : w1.frozen? ⟨w.heap.size, 11, none⟩ = false := by rw [hff _ _ (by simp; omega)]; simp [go_sem]
  simp only [lookV]
  have hB : Below w.heap.size w w1 := (below3 w _ _ _).trans (b1.mono (by simp; omega))
  clear b1 hL
  go_wp2
  refine bodyPost_ret (v := .agg #[.int .u32 (T 0).q, .int .u8 (T 0).c, .string (T 0).t, .int .u32 (T 1).q, .int .u8 (T 1).c, .string (T 1).t, .int .u32 q, .int .u8 code, .string text, .int .u32 (T 3).q, .int .u8 (T 3).c, .string (T 3).t]) (by simp [results, Try.results9, go_sem, hcc, hz2]) rfl ⟨by rw [HK.out]; rfl, ?_⟩
  repeat (first | (with_reducible refine Below.setCell ?_ (by dsimp only; omega) _) | (with_reducible refine Below.alloc ?_ (by simp only [World.size_alloc, World.size_setCell]; omega) _))
  exact hB
set_option maxRecDepth 100000 in
set_option maxHeartbeats 4000000 in
theorem keep_3 (T : Nat → L) (q code : Nat) (text : ByteArray) (hT : ∀ i < 4, (T i).ok) (hf : (lookT T 3 q).2.2 = 1) (w : World) :
    Calls Try.prog 9 #[tab T, .int .u8 3, .int .u32 q, .agg #[.int .u8 code, .string text]] w fun e w' => e = .returned (tab (keepT T 3 q code text)) ∧ Below w.heap.size w w' := by
  have HK := Lib.hid (show keepT T 3 q code text = fun i => if i = 3 then ⟨q, code, text⟩ else T i by rw [keepT, if_pos hf])
  have hL := Lib.hid (fun w => look_any T 3 q (by decide) hT w)
  unfold tab
  unfold tab at hL
  obtain ⟨a, b, d, hlk⟩ : ∃ a b d, lookT T 3 q = (a, b, d) := ⟨_, _, _, rfl⟩
  rw [hlk] at hf hL
  obtain rfl : d = 1 := hf
  clear hlk
  go_enter Try.func9, Try.ntmps9
  go_wp2_with fail
  refine (hL.out _).mono ?_
  rintro e w1 ⟨rfl, b1⟩
  have hz2 : w.heap.size + 1 + 1 < w1.heap.size := by have := b1.size; simp at this; omega
  have hz1 : w.heap.size + 1 < w1.heap.size := by omega
  have hz0 : w.heap.size < w1.heap.size := by omega
  obtain ⟨hcc, hff⟩ := bcell b1
  have g0 : w1.cell? ⟨w.heap.size, 0, none⟩ = some (.int .u32 (T 0).q) := by rw [hcc _ _ (by simp; omega)]; simp [go_sem]
  have g1 : w1.cell? ⟨w.heap.size, 1, none⟩ = some (.int .u8 (T 0).c) := by rw [hcc _ _ (by simp; omega)]; simp [go_sem]
  have g2 : w1.cell? ⟨w.heap.size, 2, none⟩ = some (.string (T 0).t) := by rw [hcc _ _ (by simp; omega)]; simp [go_sem]
  have g3 : w1.cell? ⟨w.heap.size, 3, none⟩ = some (.int .u32 (T 1).q) := by rw [hcc _ _ (by simp; omega)]; simp [go_sem]
  have g4 : w1.cell? ⟨w.heap.size, 4, none⟩ = some (.int .u8 (T 1).c) := by rw [hcc _ _ (by simp; omega)]; simp [go_sem]
  have g5 : w1.cell? ⟨w.heap.size, 5, none⟩ = some (.string (T 1).t) := by rw [hcc _ _ (by simp; omega)]; simp [go_sem]
  have g6 : w1.cell? ⟨w.heap.size, 6, none⟩ = some (.int .u32 (T 2).q) := by rw [hcc _ _ (by simp; omega)]; simp [go_sem]
  have g7 : w1.cell? ⟨w.heap.size, 7, none⟩ = some (.int .u8 (T 2).c) := by rw [hcc _ _ (by simp; omega)]; simp [go_sem]
  have g8 : w1.cell? ⟨w.heap.size, 8, none⟩ = some (.string (T 2).t) := by rw [hcc _ _ (by simp; omega)]; simp [go_sem]
  have g9 : w1.cell? ⟨w.heap.size, 9, none⟩ = some (.int .u32 (T 3).q) := by rw [hcc _ _ (by simp; omega)]; simp [go_sem]
  have g10 : w1.cell? ⟨w.heap.size, 10, none⟩ = some (.int .u8 (T 3).c) := by rw [hcc _ _ (by simp; omega)]; simp [go_sem]
  have g11 : w1.cell? ⟨w.heap.size, 11, none⟩ = some (.string (T 3).t) := by rw [hcc _ _ (by simp; omega)]; simp [go_sem]
  have f0 : w1.frozen? ⟨w.heap.size, 0, none⟩ = false := by rw [hff _ _ (by simp; omega)]; simp [go_sem]
  have f1 : w1.frozen? ⟨w.heap.size, 1, none⟩ = false := by rw [hff _ _ (by simp; omega)]; simp [go_sem]
  have f2 : w1.frozen? ⟨w.heap.size, 2, none⟩ = false := by rw [hff _ _ (by simp; omega)]; simp [go_sem]
  have f3 : w1.frozen? ⟨w.heap.size, 3, none⟩ = false := by rw [hff _ _ (by simp; omega)]; simp [go_sem]
  have f4 : w1.frozen? ⟨w.heap.size, 4, none⟩ = false := by rw [hff _ _ (by simp; omega)]; simp [go_sem]
  have f5 : w1.frozen? ⟨w.heap.size, 5, none⟩ = false := by rw [hff _ _ (by simp; omega)]; simp [go_sem]
  have f6 : w1.frozen? ⟨w.heap.size, 6, none⟩ = false := by rw [hff _ _ (by simp; omega)]; simp [go_sem]
  have f7 : w1.frozen? ⟨w.heap.size, 7, none⟩ = false := by rw [hff _ _ (by simp; omega)]; simp [go_sem]
  have f8 : w1.frozen? ⟨w.heap.size, 8, none⟩ = false := by rw [hff _ _ (by simp; omega)]; simp [go_sem]
  have f9 : w1.frozen? ⟨w.heap.size, 9, none⟩ = false := by rw [hff _ _ (by simp; omega)]; simp [go_sem]
  have f10 : w1.frozen? ⟨w.heap.size, 10, none⟩ = false := by rw [hff _ _ (by simp; omega)]; simp [go_sem]
  have f11 : w1.frozen? ⟨w.heap.size, 11, none⟩ = false := by rw [hff _ _ (by simp; omega)]; simp [go_sem]
  simp only [lookV]
  have hB : Below w.heap.size w w1 := (below3 w _ _ _).trans (b1.mono (by simp; omega))
  clear b1 hL
  go_wp2
  refine bodyPost_ret (v := .agg #[.int .u32 (T 0).q, .int .u8 (T 0).c, .string (T 0).t, .int .u32 (T 1).q, .int .u8 (T 1).c, .string (T 1).t, .int .u32 (T 2).q, .int .u8 (T 2).c, .string (T 2).t, .int .u32 q, .int .u8 code, .string text]) (by simp [results, Try.results9, go_sem, hcc, hz2]) rfl ⟨by rw [HK.out]; rfl, ?_⟩
  repeat (first | (with_reducible refine Below.setCell ?_ (by dsimp only; omega) _) | (with_reducible refine Below.alloc ?_ (by simp only [World.size_alloc, World.size_setCell]; omega) _))
  exact hB
theorem keep_any (T : Nat → L) (c q code : Nat) (text : ByteArray) (hc : c ≤ 255) (hT : ∀ i < 4, (T i).ok) (w : World) :
    Calls Try.prog 9 #[tab T, .int .u8 c, .int .u32 q, .agg #[.int .u8 code, .string text]] w fun e w' => e = .returned (tab (keepT T c q code text)) ∧ Below w.heap.size w w' := by
  by_cases hf : (lookT T c q).2.2 = 1
  · have h4 : c < 4 := by
      by_cases h : 4 ≤ c
      · rw [lookT, if_pos (.inl h)] at hf; simp at hf
      · omega
    have : c = 0 ∨ c = 1 ∨ c = 2 ∨ c = 3 := by omega
    rcases this with rfl | rfl | rfl | rfl
    · exact keep_0 T q code text hT hf w
    · exact keep_1 T q code text hT hf w
    · exact keep_2 T q code text hT hf w
    · exact keep_3 T q code text hT hf w
  · exact keep_not T c q code text hc hT hf w
end Ses
end Go.Proofs.Ytidgeljkihamhaa
