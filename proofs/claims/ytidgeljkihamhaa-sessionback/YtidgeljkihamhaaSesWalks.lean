/-
  Tables of sessions (the package session): what Look and Keep answer.
-/
import Derived.Test.YtidgeljkihamhaaBase
namespace Go.Proofs.Ytidgeljkihamhaa
open Go.RowKit
namespace Ses
/-- A client's last command, and its reply. -/
structure L where
  q : Nat
  c : Nat
  t : ByteArray
/-- What a client has at first. -/
def zero : L := ⟨0, 0, ⟨#[]⟩⟩
/-- A table's entry as it comes to be: at first, or with a number. -/
def L.ok (x : L) : Prop := x = zero ∨ 0 < x.q
def tab (T : Nat → L) : Value :=
  .agg #[.int .u32 (T 0).q, .int .u8 (T 0).c, .string (T 0).t, .int .u32 (T 1).q, .int .u8 (T 1).c, .string (T 1).t, .int .u32 (T 2).q, .int .u8 (T 2).c, .string (T 2).t, .int .u32 (T 3).q, .int .u8 (T 3).c, .string (T 3).t]
/-- What a command is: 0 no one's, 1 fresh, 2 again, 3 old; and the reply ahead of it. -/
def lookT (T : Nat → L) (c q : Nat) : Nat × ByteArray × Nat :=
  if 4 ≤ c ∨ q = 0 then (2, ⟨#[]⟩, 0) else
  if (T c).q < q then (0, ⟨#[]⟩, 1) else
  if (T c).q = q then ((T c).c, (T c).t, 2) else (3, ⟨#[]⟩, 3)
def lookV (x : Nat × ByteArray × Nat) : Value := .tuple #[.agg #[.int .u8 x.1, .string x.2.1], .int .u8 x.2.2]
theorem look_fresh (T : Nat → L) (c q : Nat) (h : c < 4) (hq : 0 < q) (hl : (T c).q < q) : lookT T c q = (0, ⟨#[]⟩, 1) := by
  rw [lookT, if_neg (by omega), if_pos hl]
theorem look_again (T : Nat → L) (c q : Nat) (h : c < 4) (hq : 0 < q) (hl : (T c).q = q) : lookT T c q = ((T c).c, (T c).t, 2) := by
  rw [lookT, if_neg (by omega), if_neg (by omega), if_pos hl]
theorem look_old (T : Nat → L) (c q : Nat) (h : c < 4) (hq : 0 < q) (hl : q < (T c).q) : lookT T c q = (3, ⟨#[]⟩, 3) := by
  rw [lookT, if_neg (by omega), if_neg (by omega), if_neg (by omega)]

theorem cmp_lt (a b : Int) (h : a < b) (w : World) : Calls Try.prog 22 #[.int .u32 a, .int .u32 b] w fun e w' => e = .returned (.int .i64 (-1)) ∧ w = w' := by
  go_enter Try.func22, Try.ntmps22
  go_wp2
  go_ret
  exact ⟨rfl, rfl⟩
theorem cmp_gt (a b : Int) (h : b < a) (w : World) : Calls Try.prog 22 #[.int .u32 a, .int .u32 b] w fun e w' => e = .returned (.int .i64 1) ∧ w = w' := by
  have h' : ¬ a < b := by omega
  go_enter Try.func22, Try.ntmps22
  go_wp2
  go_ret
  exact ⟨rfl, rfl⟩
theorem cmp_eq (a : Int) (w : World) : Calls Try.prog 22 #[.int .u32 a, .int .u32 a] w fun e w' => e = .returned (.int .i64 0) ∧ w = w' := by
  go_enter Try.func22, Try.ntmps22
  go_wp2
  go_ret
  exact ⟨rfl, rfl⟩
set_option maxRecDepth 100000 in
set_option maxHeartbeats 1000000 in
theorem look_none (T : Nat → L) (c q : Nat) (hc' : c ≤ 255) (h : 4 ≤ c ∨ q = 0) (w : World) :
    Calls Try.prog 10 #[tab T, .int .u8 c, .int .u32 q] w fun e w' => e = .returned (lookV (lookT T c q)) ∧ Below w.heap.size w w' := by
  have H := Lib.hid (show lookT T c q = (2, ⟨#[]⟩, 0) by rw [lookT, if_pos h])
  unfold tab
  by_cases h4 : 4 ≤ c
  · have h5 : (4 : Int) ≤ (c : Int) := by omega
    go_enter Try.func10, Try.ntmps10
    go_wp2
    exact bodyPost_ret (v := .tuple #[.agg #[.int .u8 2, .string ⟨#[]⟩], .int .u8 0]) (by simp [results, Try.results10, go_sem]) rfl ⟨by rw [H.out]; rfl, ((Below.refl _ _).alloc (Nat.le_refl _) _).alloc (by simp) _⟩
  · obtain rfl : q = 0 := by omega
    have hn : ¬ (4 : Int) ≤ (c : Int) := by omega
    go_enter Try.func10, Try.ntmps10
    go_wp2
    exact bodyPost_ret (v := .tuple #[.agg #[.int .u8 2, .string ⟨#[]⟩], .int .u8 0]) (by simp [results, Try.results10, go_sem]) rfl ⟨by rw [H.out]; rfl, ((Below.refl _ _).alloc (Nat.le_refl _) _).alloc (by simp) _⟩
set_option maxRecDepth 100000 in
set_option maxHeartbeats 4000000 in
theorem look_0 (T : Nat → L) (q : Nat) (hq : 0 < q) (hT : (T 0).ok) (w : World) :
    Calls Try.prog 10 #[tab T, .int .u8 0, .int .u32 q] w fun e w' => e = .returned (lookV (lookT T 0 q)) ∧ Below w.heap.size w w' := by
  unfold tab
  have hn : ((q : Int) == 0) = false := by rw [beq_eq_false_iff_ne]; omega
  rcases hT with hz | hp
  · have H := Lib.hid (look_fresh T 0 q (by decide) hq (by rw [hz]; exact hq))
    have z1 : (T 0).q = 0 := by rw [hz]; rfl
    have z2 : (T 0).c = 0 := by rw [hz]; rfl
    have z3 : (T 0).t = ⟨#[]⟩ := by rw [hz]; rfl
    clear hz
    go_enter Try.func10, Try.ntmps10
    go_wp2
    exact bodyPost_ret (v := .tuple #[.agg #[.int .u8 0, .string ⟨#[]⟩], .int .u8 1]) (by simp [results, Try.results10, go_sem]) rfl ⟨by rw [H.out]; rfl, (((Below.refl _ _).alloc (Nat.le_refl _) _).alloc (by simp) _).alloc (by simp; omega) _⟩
  · have hz : (((T 0).q : Int) == 0) = false := by rw [beq_eq_false_iff_ne]; omega
    rcases Nat.lt_trichotomy (T 0).q q with hl | hl | hl
    · have H := Lib.hid (look_fresh T 0 q (by decide) hq hl)
      go_enter Try.func10, Try.ntmps10
      go_wp2_with (go_at_call 22; refine (cmp_gt _ _ (by omega) _).mono ?_; rintro e w' ⟨rfl, rfl⟩)
      exact bodyPost_ret (v := .tuple #[.agg #[.int .u8 0, .string ⟨#[]⟩], .int .u8 1]) (by simp [results, Try.results10, go_sem]) rfl ⟨by rw [H.out]; rfl, (((Below.refl _ _).alloc (Nat.le_refl _) _).alloc (by simp) _).alloc (by simp; omega) _⟩
    · have H := Lib.hid (look_again T 0 q (by decide) hq hl)
      subst hl
      go_enter Try.func10, Try.ntmps10
      go_wp2_with (go_at_call 22; refine (cmp_eq _ _).mono ?_; rintro e w' ⟨rfl, rfl⟩)
      exact bodyPost_ret (v := .tuple #[.agg #[.int .u8 (T 0).c, .string (T 0).t], .int .u8 2]) (by simp [results, Try.results10, go_sem]) rfl ⟨by rw [H.out]; rfl, (((Below.refl _ _).alloc (Nat.le_refl _) _).alloc (by simp) _).alloc (by simp; omega) _⟩
    · have H := Lib.hid (look_old T 0 q (by decide) hq hl)
      go_enter Try.func10, Try.ntmps10
      go_wp2_with (go_at_call 22; refine (cmp_lt _ _ (by omega) _).mono ?_; rintro e w' ⟨rfl, rfl⟩)
      exact bodyPost_ret (v := .tuple #[.agg #[.int .u8 3, .string ⟨#[]⟩], .int .u8 3]) (by simp [results, Try.results10, go_sem]) rfl ⟨by rw [H.out]; rfl, (((Below.refl _ _).alloc (Nat.le_refl _) _).alloc (by simp) _).alloc (by simp; omega) _⟩
set_option maxRecDepth 100000 in
set_option maxHeartbeats 4000000 in
theorem look_1 (T : Nat → L) (q : Nat) (hq : 0 < q) (hT : (T 1).ok) (w : World) :
    Calls Try.prog 10 #[tab T, .int .u8 1, .int .u32 q] w fun e w' => e = .returned (lookV (lookT T 1 q)) ∧ Below w.heap.size w w' := by
  unfold tab
  have hn : ((q : Int) == 0) = false := by rw [beq_eq_false_iff_ne]; omega
  rcases hT with hz | hp
  · have H := Lib.hid (look_fresh T 1 q (by decide) hq (by rw [hz]; exact hq))
    have z1 : (T 1).q = 0 := by rw [hz]; rfl
    have z2 : (T 1).c = 0 := by rw [hz]; rfl
    have z3 : (T 1).t = ⟨#[]⟩ := by rw [hz]; rfl
    clear hz
    go_enter Try.func10, Try.ntmps10
    go_wp2
    exact bodyPost_ret (v := .tuple #[.agg #[.int .u8 0, .string ⟨#[]⟩], .int .u8 1]) (by simp [results, Try.results10, go_sem]) rfl ⟨by rw [H.out]; rfl, (((Below.refl _ _).alloc (Nat.le_refl _) _).alloc (by simp) _).alloc (by simp; omega) _⟩
  · have hz : (((T 1).q : Int) == 0) = false := by rw [beq_eq_false_iff_ne]; omega
    rcases Nat.lt_trichotomy (T 1).q q with hl | hl | hl
    · have H := Lib.hid (look_fresh T 1 q (by decide) hq hl)
      go_enter Try.func10, Try.ntmps10
      go_wp2_with (go_at_call 22; refine (cmp_gt _ _ (by omega) _).mono ?_; rintro e w' ⟨rfl, rfl⟩)
      exact bodyPost_ret (v := .tuple #[.agg #[.int .u8 0, .string ⟨#[]⟩], .int .u8 1]) (by simp [results, Try.results10, go_sem]) rfl ⟨by rw [H.out]; rfl, (((Below.refl _ _).alloc (Nat.le_refl _) _).alloc (by simp) _).alloc (by simp; omega) _⟩
    · have H := Lib.hid (look_again T 1 q (by decide) hq hl)
      subst hl
      go_enter Try.func10, Try.ntmps10
      go_wp2_with (go_at_call 22; refine (cmp_eq _ _).mono ?_; rintro e w' ⟨rfl, rfl⟩)
      exact bodyPost_ret (v := .tuple #[.agg #[.int .u8 (T 1).c, .string (T 1).t], .int .u8 2]) (by simp [results, Try.results10, go_sem]) rfl ⟨by rw [H.out]; rfl, (((Below.refl _ _).alloc (Nat.le_refl _) _).alloc (by simp) _).alloc (by simp; omega) _⟩
    · have H := Lib.hid (look_old T 1 q (by decide) hq hl)
      go_enter Try.func10, Try.ntmps10
      go_wp2_with (go_at_call 22; refine (cmp_lt _ _ (by omega) _).mono ?_; rintro e w' ⟨rfl, rfl⟩)
      exact bodyPost_ret (v := .tuple #[.agg #[.int .u8 3, .string ⟨#[]⟩], .int .u8 3]) (by simp [results, Try.results10, go_sem]) rfl ⟨by rw [H.out]; rfl, (((Below.refl _ _).alloc (Nat.le_refl _) _).alloc (by simp) _).alloc (by simp; omega) _⟩
set_option maxRecDepth 100000 in
set_option maxHeartbeats 4000000 in
theorem look_2 (T : Nat → L) (q : Nat) (hq : 0 < q) (hT : (T 2).ok) (w : World) :
    Calls Try.prog 10 #[tab T, .int .u8 2, .int .u32 q] w fun e w' => e = .returned (lookV (lookT T 2 q)) ∧ Below w.heap.size w w' := by
  unfold tab
  have hn : ((q : Int) == 0) = false := by rw [beq_eq_false_iff_ne]; omega
  rcases hT with hz | hp
  · have H := Lib.hid (look_fresh T 2 q (by decide) hq (by rw [hz]; exact hq))
    have z1 : (T 2).q = 0 := by rw [hz]; rfl
    have z2 : (T 2).c = 0 := by rw [hz]; rfl
    have z3 : (T 2).t = ⟨#[]⟩ := by rw [hz]; rfl
    clear hz
    go_enter Try.func10, Try.ntmps10
    go_wp2
    exact bodyPost_ret (v := .tuple #[.agg #[.int .u8 0, .string ⟨#[]⟩], .int .u8 1]) (by simp [results, Try.results10, go_sem]) rfl ⟨by rw [H.out]; rfl, (((Below.refl _ _).alloc (Nat.le_refl _) _).alloc (by simp) _).alloc (by simp; omega) _⟩
  · have hz : (((T 2).q : Int) == 0) = false := by rw [beq_eq_false_iff_ne]; omega
    rcases Nat.lt_trichotomy (T 2).q q with hl | hl | hl
    · have H := Lib.hid (look_fresh T 2 q (by decide) hq hl)
      go_enter Try.func10, Try.ntmps10
      go_wp2_with (go_at_call 22; refine (cmp_gt _ _ (by omega) _).mono ?_; rintro e w' ⟨rfl, rfl⟩)
      exact bodyPost_ret (v := .tuple #[.agg #[.int .u8 0, .string ⟨#[]⟩], .int .u8 1]) (by simp [results, Try.results10, go_sem]) rfl ⟨by rw [H.out]; rfl, (((Below.refl _ _).alloc (Nat.le_refl _) _).alloc (by simp) _).alloc (by simp; omega) _⟩
    · have H := Lib.hid (look_again T 2 q (by decide) hq hl)
      subst hl
      go_enter Try.func10, Try.ntmps10
      go_wp2_with (go_at_call 22; refine (cmp_eq _ _).mono ?_; rintro e w' ⟨rfl, rfl⟩)
      exact bodyPost_ret (v := .tuple #[.agg #[.int .u8 (T 2).c, .string (T 2).t], .int .u8 2]) (by simp [results, Try.results10, go_sem]) rfl ⟨by rw [H.out]; rfl, (((Below.refl _ _).alloc (Nat.le_refl _) _).alloc (by simp) _).alloc (by simp; omega) _⟩
    · have H := Lib.hid (look_old T 2 q (by decide) hq hl)
      go_enter Try.func10, Try.ntmps10
      go_wp2_with (go_at_call 22; refine (cmp_lt _ _ (by omega) _).mono ?_; rintro e w' ⟨rfl, rfl⟩)
      exact bodyPost_ret (v := .tuple #[.agg #[.int .u8 3, .string ⟨#[]⟩], .int .u8 3]) (by simp [results, Try.results10, go_sem]) rfl ⟨by rw [H.out]; rfl, (((Below.refl _ _).alloc (Nat.le_refl _) _).alloc (by simp) _).alloc (by simp; omega) _⟩
set_option maxRecDepth 100000 in
set_option maxHeartbeats 4000000 in
theorem look_3 (T : Nat → L) (q : Nat) (hq : 0 < q) (hT : (T 3).ok) (w : World) :
    Calls Try.prog 10 #[tab T, .int .u8 3, .int .u32 q] w fun e w' => e = .returned (lookV (lookT T 3 q)) ∧ Below w.heap.size w w' := by
  unfold tab
  have hn : ((q : Int) == 0) = false := by rw [beq_eq_false_iff_ne]; omega
  rcases hT with hz | hp
  · have H := Lib.hid (look_fresh T 3 q (by decide) hq (by rw [hz]; exact hq))
    have z1 : (T 3).q = 0 := by rw [hz]; rfl
    have z2 : (T 3).c = 0 := by rw [hz]; rfl
    have z3 : (T 3).t = ⟨#[]⟩ := by rw [hz]; rfl
    clear hz
    go_enter Try.func10, Try.ntmps10
    go_wp2
    exact bodyPost_ret (v := .tuple #[.agg #[.int .u8 0, .string ⟨#[]⟩], .int .u8 1]) (by simp [results, Try.results10, go_sem]) rfl ⟨by rw [H.out]; rfl, (((Below.refl _ _).alloc (Nat.le_refl _) _).alloc (by simp) _).alloc (by simp; omega) _⟩
  · have hz : (((T 3).q : Int) == 0) = false := by rw [beq_eq_false_iff_ne]; omega
    rcases Nat.lt_trichotomy (T 3).q q with hl | hl | hl
    · have H := Lib.hid (look_fresh T 3 q (by decide) hq hl)
      go_enter Try.func10, Try.ntmps10
      go_wp2_with (go_at_call 22; refine (cmp_gt _ _ (by omega) _).mono ?_; rintro e w' ⟨rfl, rfl⟩)
      exact bodyPost_ret (v := .tuple #[.agg #[.int .u8 0, .string ⟨#[]⟩], .int .u8 1]) (by simp [results, Try.results10, go_sem]) rfl ⟨by rw [H.out]; rfl, (((Below.refl _ _).alloc (Nat.le_refl _) _).alloc (by simp) _).alloc (by simp; omega) _⟩
    · have H := Lib.hid (look_again T 3 q (by decide) hq hl)
      subst hl
      go_enter Try.func10, Try.ntmps10
      go_wp2_with (go_at_call 22; refine (cmp_eq _ _).mono ?_; rintro e w' ⟨rfl, rfl⟩)
      exact bodyPost_ret (v := .tuple #[.agg #[.int .u8 (T 3).c, .string (T 3).t], .int .u8 2]) (by simp [results, Try.results10, go_sem]) rfl ⟨by rw [H.out]; rfl, (((Below.refl _ _).alloc (Nat.le_refl _) _).alloc (by simp) _).alloc (by simp; omega) _⟩
    · have H := Lib.hid (look_old T 3 q (by decide) hq hl)
      go_enter Try.func10, Try.ntmps10
      go_wp2_with (go_at_call 22; refine (cmp_lt _ _ (by omega) _).mono ?_; rintro e w' ⟨rfl, rfl⟩)
      exact bodyPost_ret (v := .tuple #[.agg #[.int .u8 3, .string ⟨#[]⟩], .int .u8 3]) (by simp [results, Try.results10, go_sem]) rfl ⟨by rw [H.out]; rfl, (((Below.refl _ _).alloc (Nat.le_refl _) _).alloc (by simp) _).alloc (by simp; omega) _⟩
theorem look_any (T : Nat → L) (c q : Nat) (hc : c ≤ 255) (hT : ∀ i < 4, (T i).ok) (w : World) :
    Calls Try.prog 10 #[tab T, .int .u8 c, .int .u32 q] w fun e w' => e = .returned (lookV (lookT T c q)) ∧ Below w.heap.size w w' := by
  by_cases h : 4 ≤ c ∨ q = 0
  · exact look_none T c q hc h w
  · have hq : 0 < q := by omega
    have : c = 0 ∨ c = 1 ∨ c = 2 ∨ c = 3 := by omega
    rcases this with rfl | rfl | rfl | rfl
    · exact look_0 T q hq (hT 0 (by decide)) w
    · exact look_1 T q hq (hT 1 (by decide)) w
    · exact look_2 T q hq (hT 2 (by decide)) w
    · exact look_3 T q hq (hT 3 (by decide)) w
end Ses
end Go.Proofs.Ytidgeljkihamhaa
