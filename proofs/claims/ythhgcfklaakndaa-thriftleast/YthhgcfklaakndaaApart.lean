/-
  Two slices of the call's own, apart: what one does when the other grows. Over any program.
-/
import Derived.Test.YthhgcfklaakndaaGrew
namespace Go.Proofs.Ythhgcfklaakndaa
open Go.RowKit
def Apart (u v : Value) : Prop := u.ownBlock = none ∨ u.ownBlock ≠ v.ownBlock
theorem Apart.symm {u v : Value} (h : Apart u v) : Apart v u := by
  unfold Apart at *
  cases hv : v.ownBlock with
  | none => exact .inl rfl
  | some c =>
    right
    rcases h with h | h
    · rw [h]; simp
    · rw [hv] at h; exact fun e => h e.symm
theorem apart_nil (v : Value) (n c : Nat) : Apart (.slice none n c) v := .inl rfl
theorem Grew.keeps {w w' : World} {v v' : Value} (g : Grew w v w' v') {base : Nat} {e : TypeId} {size : Nat} {u : Value} {n : Nat} {xs : List Value} (h : w.ownsRow base e size u n xs) (ha : Apart u v) : w'.ownsRow base e size u n xs := h.kept g.1 ha
theorem Grew.apart {w w' : World} {v v' : Value} (g : Grew w v w' v') {base : Nat} {e : TypeId} {size : Nat} {u : Value} {n : Nat} {xs : List Value} (h : w.ownsRow base e size u n xs) (ha : Apart u v) : Apart u v' := by
  unfold Apart at *
  rcases ha with ha | ha
  · exact .inl ha
  · cases hu : u.ownBlock with
    | none => exact .inl rfl
    | some c =>
      right
      rcases g.2 with g2 | g2
      · rw [g2, ← hu]; exact ha
      · intro e
        have h1 := (h.lt c hu).2
        have h2 := g2 c e.symm
        omega
end Go.Proofs.Ythhgcfklaakndaa
