/-
  Ballots in plain Lean: may, order, the top, a node's turn; no program in sight.
-/
import Derived.Test.YteaegdigkdghpaaBase
namespace Go.Proofs.Yteaegdigkdghpaa
namespace Bal
structure B where
  n : Nat
  r : Nat
def B.ok (b : B) : Prop := b.n < 18446744073709551616 ∧ b.r < 256
def zero : B := ⟨0, 0⟩
def mayB (b : B) : Bool := decide (b.n = 0 ∧ b.r = 0 ∨ 0 < b.n ∧ b.r ≤ 6)
def chkB (b : B) : Nat := if mayB b = true then 0 else 2
def lt (a b : B) : Bool := decide (a.n < b.n ∨ a.n = b.n ∧ a.r < b.r)
def topB (l : List B) : B := l.foldl (fun o b => if lt o b = true then b else o) zero
def turnB (b : B) (node : Nat) : B × Nat :=
  if mayB b = false ∨ 6 < node then (zero, 2) else
  if 0 < b.n ∧ b.r < node then (⟨b.n, node⟩, 0) else
  if b.n = 18446744073709551615 then (zero, 7) else (⟨b.n + 1, node⟩, 0)
theorem lt_iff (a b : B) : lt a b = true ↔ (a.n < b.n ∨ a.n = b.n ∧ a.r < b.r) := by simp [lt]
theorem lt_no (a b : B) : lt a b = false ↔ ¬ (a.n < b.n ∨ a.n = b.n ∧ a.r < b.r) := by simp only [lt, decide_eq_false_iff_not]
theorem B.ext' {a b : B} (h1 : a.n = b.n) (h2 : a.r = b.r) : a = b := by cases a; cases b; simp_all
theorem lt_irrefl (a : B) : lt a a = false := by rw [lt_no]; omega
theorem lt_asymm {a b : B} (h : lt a b = true) : lt b a = false := by rw [lt_iff] at h; rw [lt_no]; omega
theorem lt_trans {a b c : B} (h : lt a b = true) (g : lt b c = true) : lt a c = true := by rw [lt_iff] at *; omega
theorem lt_total (a b : B) : lt a b = true ∨ lt b a = true ∨ a = b := by
  rw [lt_iff, lt_iff]
  rcases Nat.lt_trichotomy a.n b.n with h | h | h
  · exact .inl (.inl h)
  · rcases Nat.lt_trichotomy a.r b.r with g | g | g
    · exact .inl (.inr ⟨h, g⟩)
    · exact .inr (.inr (B.ext' h g))
    · exact .inr (.inl (.inr ⟨h.symm, g⟩))
  · exact .inr (.inl (.inl h))
theorem topB_snoc (l : List B) (x : B) : topB (l ++ [x]) = if lt (topB l) x = true then x else topB l := by unfold topB; rw [List.foldl_append]; rfl
theorem topB_ok (l : List B) (h : ∀ b ∈ l, b.ok) : (topB l).ok := by
  have key : ∀ (l : List B) (o : B), o.ok → (∀ b ∈ l, b.ok) → (l.foldl (fun o b => if lt o b = true then b else o) o).ok := by
    intro l
    induction l with
    | nil => intro o h _; exact h
    | cons x l ih =>
      intro o h h2
      have h3 : (if lt o x = true then x else o).ok := by
        split
        · exact h2 x (by simp)
        · exact h
      exact ih _ h3 (fun b hb => h2 b (by simp [hb]))
  exact key l zero ⟨by decide, by decide⟩ h
/-- The top is below none. -/
theorem topB_none : ∀ (l : List B) (x : B), x ∈ l → lt (topB l) x = false := by
  have key : ∀ (l : List B) (o : B), (∀ y, lt y o = true ∨ y = o → lt (l.foldl (fun o b => if lt o b = true then b else o) o) y = false) ∧ ∀ x ∈ l, lt (l.foldl (fun o b => if lt o b = true then b else o) o) x = false := by
    intro l
    induction l with
    | nil => intro o; exact ⟨fun y hy => by rcases hy with h | h; exact lt_asymm h; subst h; exact lt_irrefl _, by simp⟩
    | cons x l ih =>
      intro o
      simp only [List.foldl_cons]
      by_cases h : lt o x = true
      · rw [if_pos h]
        obtain ⟨i1, i2⟩ := ih x
        refine ⟨fun y hy => i1 y (.inl ?_), fun y hy => ?_⟩
        · rcases hy with g | g
          · exact lt_trans g h
          · subst g; exact h
        · rcases List.mem_cons.1 hy with g | g
          · subst g; exact i1 y (.inr rfl)
          · exact i2 y g
      · rw [if_neg h]
        obtain ⟨i1, i2⟩ := ih o
        refine ⟨i1, fun y hy => ?_⟩
        rcases List.mem_cons.1 hy with g | g
        · subst g
          rcases lt_total o y with t | t | t
          · exact absurd t h
          · exact i1 y (.inl t)
          · exact i1 y (.inr t.symm)
        · exact i2 y g
  exact fun l x hx => (key l zero).2 x hx
/-- The top is one of them, or there is none. -/
theorem topB_mem (l : List B) : l = [] ∧ topB l = zero ∨ topB l ∈ l := by
  have key : ∀ (l : List B) (o : B), (l.foldl (fun o b => if lt o b = true then b else o) o) = o ∨ (l.foldl (fun o b => if lt o b = true then b else o) o) ∈ l := by
    intro l
    induction l with
    | nil => intro o; exact .inl rfl
    | cons x l ih =>
      intro o
      simp only [List.foldl_cons]
      rcases ih (if lt o x = true then x else o) with h | h
      · rw [h]; split
        · exact .inr (by simp)
        · exact .inl rfl
      · exact .inr (by simp [h])
  cases l with
  | nil => exact .inl ⟨rfl, rfl⟩
  | cons x l =>
    refine .inr ?_
    rcases key (x :: l) zero with h | h
    · have h0 : topB (x :: l) = zero := h
      have h1 := topB_none (x :: l) x (by simp)
      rw [h0] at h1 ⊢
      rcases lt_total zero x with g | g | g
      · rw [h1] at g; cases g
      · rw [lt_iff] at g; simp [zero] at g
      · rw [g]; simp
    · exact h
theorem may_iff (b : B) : mayB b = true ↔ (b.n = 0 ∧ b.r = 0 ∨ 0 < b.n ∧ b.r ≤ 6) := by simp [mayB]
theorem may_no (b : B) : mayB b = false ↔ ¬ (b.n = 0 ∧ b.r = 0 ∨ 0 < b.n ∧ b.r ≤ 6) := by simp only [mayB, decide_eq_false_iff_not]
theorem turnB_ok (b : B) (node : Nat) (h : b.ok) (hn : node < 256) : (turnB b node).1.ok := by
  unfold turnB B.ok at *
  split
  · exact ⟨by decide, by decide⟩
  · split
    · exact ⟨h.1, hn⟩
    · split
      · exact ⟨by decide, by decide⟩
      · exact ⟨by simp only []; omega, hn⟩
/-- The three ends of a turn. -/
theorem turn_arg (b : B) (node : Nat) (h : mayB b = false ∨ 6 < node) : turnB b node = (zero, 2) := by rw [turnB, if_pos h]
theorem turn_same (b : B) (node : Nat) (h : ¬ (mayB b = false ∨ 6 < node)) (h2 : 0 < b.n ∧ b.r < node) : turnB b node = (⟨b.n, node⟩, 0) := by rw [turnB, if_neg h, if_pos h2]
theorem turn_full (b : B) (node : Nat) (h : ¬ (mayB b = false ∨ 6 < node)) (h2 : ¬ (0 < b.n ∧ b.r < node)) (h3 : b.n = 18446744073709551615) : turnB b node = (zero, 7) := by rw [turnB, if_neg h, if_neg h2, if_pos h3]
theorem turn_next (b : B) (node : Nat) (h : ¬ (mayB b = false ∨ 6 < node)) (h2 : ¬ (0 < b.n ∧ b.r < node)) (h3 : ¬ b.n = 18446744073709551615) : turnB b node = (⟨b.n + 1, node⟩, 0) := by rw [turnB, if_neg h, if_neg h2, if_neg h3]
/-- What BallotTurns asks of a turn that is told. -/
theorem turn_good (b : B) (node n : Nat) (h : (turnB b node).2 = 0) : (turnB b node).1.r = node ∧ lt b (turnB b node).1 = true ∧ mayB (turnB b node).1 = true ∧ ¬ (mayB ⟨n, node⟩ = true ∧ lt b ⟨n, node⟩ = true ∧ lt ⟨n, node⟩ (turnB b node).1 = true) := by
  by_cases h1 : mayB b = false ∨ 6 < node
  · rw [turn_arg b node h1] at h; cases h
  have h6 : ¬ 6 < node := fun e => h1 (.inr e)
  · by_cases h2 : 0 < b.n ∧ b.r < node
    · obtain ⟨h2a, h2b⟩ := h2
      rw [turn_same b node h1 ⟨h2a, h2b⟩]
      refine ⟨rfl, ?_, ?_, ?_⟩
      · rw [lt_iff]; dsimp only; omega
      · rw [may_iff]; dsimp only; omega
      · rw [may_iff, lt_iff, lt_iff]; dsimp only; omega
    · by_cases h3 : b.n = 18446744073709551615
      · rw [turn_full b node h1 h2 h3] at h; cases h
      · have hm : mayB b = true := by cases hb : mayB b; exact absurd (.inl hb) h1; rfl
        rw [may_iff] at hm
        rw [turn_next b node h1 h2 h3]
        refine ⟨rfl, ?_, ?_, ?_⟩
        · rw [lt_iff]; dsimp only; omega
        · rw [may_iff]; dsimp only; omega
        · rw [may_iff, lt_iff, lt_iff]; dsimp only; omega
/-- What BallotTurns asks of a turn that is not told. -/
theorem turn_bad (b : B) (node : Nat) (h : (turnB b node).2 ≠ 0) : ((turnB b node).2 = 2 ∧ ¬ (mayB b = true ∧ node < 7)) ∨ ((turnB b node).2 = 7 ∧ b.n = 18446744073709551615) := by
  by_cases h1 : mayB b = false ∨ 6 < node
  · rw [turn_arg b node h1]
    refine .inl ⟨rfl, fun ⟨g1, g2⟩ => ?_⟩
    rcases h1 with h1 | h1
    · rw [h1] at g1; cases g1
    · omega
  · by_cases h2 : 0 < b.n ∧ b.r < node
    · rw [turn_same b node h1 h2] at h; exact absurd rfl h
    · by_cases h3 : b.n = 18446744073709551615
      · rw [turn_full b node h1 h2 h3]; exact .inr ⟨rfl, h3⟩
      · rw [turn_next b node h1 h2 h3] at h; exact absurd rfl h
end Bal
end Go.Proofs.Yteaegdigkdghpaa
