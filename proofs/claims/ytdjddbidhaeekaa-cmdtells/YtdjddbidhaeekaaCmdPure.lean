/-
  Commands: what one has, whether it may be; rows of them. Plain.
-/
import Derived.Test.YtdjddbidhaeekaaElem
import Derived.Test.YtdjddbidhaeekaaFlat
import Derived.Test.YtdjddbidhaeekaaBase
namespace Go.Proofs.Ytdjddbidhaeekaa
open Go.RowKit Go.WideShapes
structure Cm where
  cl : Nat
  sq : Nat
  kd : Nat
  key : ByteArray
  old : ByteArray
  new : ByteArray
  set : Nat
namespace Cm
def ok (x : Cm) : Prop := x.cl ≤ 255 ∧ x.sq ≤ 4294967295 ∧ x.kd ≤ 255 ∧ x.key.size ≤ 9223372036854775807 ∧ x.old.size ≤ 9223372036854775807 ∧ x.new.size ≤ 9223372036854775807 ∧ x.set ≤ 255
abbrev cells (x : Cm) : List Value := [.int .u8 x.cl, .int .u32 x.sq, .int .u8 x.kd, .string x.key, .string x.old, .string x.new, .int .u8 x.set]
abbrev val (x : Cm) : Value := .agg #[.int .u8 x.cl, .int .u32 x.sq, .int .u8 x.kd, .string x.key, .string x.old, .string x.new, .int .u8 x.set]
def zero : Cm := ⟨0, 0, 0, ⟨#[]⟩, ⟨#[]⟩, ⟨#[]⟩, 0⟩
theorem cells_len (x : Cm) : x.cells.length = 7 := rfl
/-- May the command be? -/
def may (x : Cm) : Prop := (1 ≤ x.kd ∧ x.kd ≤ 5) ∧ x.cl < 4 ∧ x.sq ≠ 0 ∧ x.key.size ≤ 16 ∧ x.old.size ≤ 64 ∧ x.new.size ≤ 64 ∧ (x.key.size ≠ 0 ↔ x.kd ≠ 5) ∧ (x.old.size ≠ 0 → x.kd = 4) ∧ (x.new.size ≠ 0 → x.kd = 2 ∨ x.kd = 4) ∧ (x.set ≠ 0 → x.kd = 5)
instance (x : Cm) : Decidable x.may := inferInstanceAs (Decidable (_ ∧ _))
theorem size_list (s : ByteArray) : s.toList.isEmpty = decide (s.size = 0) := by
  rw [ByteArray.toList_eq]
  obtain ⟨⟨l⟩⟩ := s
  cases l <;> simp [ByteArray.size]
theorem size_eq (s : ByteArray) : (s.toList == []) = decide (s.size = 0) := by
  rw [← size_list]; cases s.toList <;> rfl
theorem size_ne (s : ByteArray) : (s.toList != []) = decide (s.size ≠ 0) := by
  simp only [bne, size_eq]; by_cases h : s.size = 0 <;> simp [h]
theorem list_inj {a b : ByteArray} (h : a.toList = b.toList) : a = b := by
  rw [ByteArray.toList_eq, ByteArray.toList_eq] at h
  obtain ⟨⟨x⟩⟩ := a
  obtain ⟨⟨y⟩⟩ := b
  simp at h
  rw [h]
theorem dec (xs : List Value) (h : Fit [Leaf.int .u8, .int .u32, .int .u8, .str, .str, .str, .int .u8] xs) : ∃ x : Cm, xs = x.cells ∧ x.ok := by
  have hl := h.length
  match xs, hl, h with
  | [a0, a1, a2, a3, a4, a5, a6], _, h =>
    obtain ⟨⟨x0, rfl, h0⟩, ⟨x1, rfl, h1⟩, ⟨x2, rfl, h2⟩, ⟨x3, rfl, h3⟩, ⟨x4, rfl, h4⟩, ⟨x5, rfl, h5⟩, ⟨x6, rfl, h6⟩, _⟩ := h
    obtain ⟨p0, p1⟩ := bounds_u8 h0
    obtain ⟨q0, q1⟩ := bounds_u32 h1
    obtain ⟨r0, r1⟩ := bounds_u8 h2
    obtain ⟨s0, s1⟩ := bounds_u8 h6
    simp only [maxLen] at h3 h4 h5
    refine ⟨⟨x0.toNat, x1.toNat, x2.toNat, x3, x4, x5, x6.toNat⟩, ?_, ?_⟩
    · simp [Cm.cells, Int.toNat_of_nonneg p0, Int.toNat_of_nonneg q0, Int.toNat_of_nonneg r0, Int.toNat_of_nonneg s0]
    · exact ⟨by dsimp only; omega, by dsimp only; omega, by dsimp only; omega, h3, h4, h5, by dsimp only; omega⟩
end Cm
theorem cm_neq (x y : Cm) (f : Bool) (hf : f = false ↔ x = y) (w : World) : (binOp .neq 25 x.val y.val).run Try.prog w = .ok (.bool f) w := by
  have H := Lib.hid hf
  clear hf
  cases f
  · rw [← H.out.1 rfl]
    go_simp
  · have h : ¬ x = y := fun h => by have := H.out.2 h; cases this
    clear H
    obtain ⟨x1, x2, x3, a, b, c, x4⟩ := x
    obtain ⟨y1, y2, y3, d, e, g, y4⟩ := y
    go_simp
    intro i1 i2 i3 i4 i5 i6 i7
    exact h (by rw [Int.ofNat.inj i1, Int.ofNat.inj i2, Int.ofNat.inj i3, Cm.list_inj i4, Cm.list_inj i5, Cm.list_inj i6, Int.ofNat.inj i7])
theorem cm_eql (x y : Cm) (f : Bool) (hf : f = true ↔ x = y) (w : World) : (binOp .eql 25 x.val y.val).run Try.prog w = .ok (.bool f) w := by
  have H := Lib.hid hf
  clear hf
  cases f
  · have h : ¬ x = y := fun h => by have := H.out.2 h; cases this
    clear H
    obtain ⟨x1, x2, x3, a, b, c, x4⟩ := x
    obtain ⟨y1, y2, y3, d, e, g, y4⟩ := y
    go_simp
    intro i1 i2 i3 i4 i5 i6 i7
    exact h (by rw [Int.ofNat.inj i1, Int.ofNat.inj i2, Int.ofNat.inj i3, Cm.list_inj i4, Cm.list_inj i5, Cm.list_inj i6, Int.ofNat.inj i7])
  · rw [← H.out.1 rfl]
    go_simp
end Go.Proofs.Ytdjddbidhaeekaa
