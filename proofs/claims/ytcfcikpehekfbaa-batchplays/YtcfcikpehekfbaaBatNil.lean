/-
  Acts on a queue; BatchNil, walked.
-/
import Derived.Test.YtcfcikpehekfbaaBatWakes
namespace Go.Proofs.Ytcfcikpehekfbaa
open Go.RowKit Go.WideShapes
structure Ac where
  d : Nat
  n : Int
  c : Cm
namespace Ac
def ok (a : Ac) : Prop := a.d ≤ 255 ∧ a.c.ok
abbrev cells (a : Ac) : List Value := [.int .u8 a.d, .int .i64 a.n, .int .u8 a.c.cl, .int .u32 a.c.sq, .int .u8 a.c.kd, .string a.c.key, .string a.c.old, .string a.c.new, .int .u8 a.c.set]
abbrev val (a : Ac) : Value := .agg #[.int .u8 a.d, .int .i64 a.n, .int .u8 a.c.cl, .int .u32 a.c.sq, .int .u8 a.c.kd, .string a.c.key, .string a.c.old, .string a.c.new, .int .u8 a.c.set]
theorem cells_len (a : Ac) : a.cells.length = 9 := rfl
abbrev leaves : List Leaf := [Leaf.int .u8, .int .i64, .int .u8, .int .u32, .int .u8, .str, .str, .str, .int .u8]
theorem dec (xs : List Value) (h : Fit leaves xs) : ∃ a : Ac, xs = a.cells ∧ a.ok := by
  have hl := h.length
  match xs, hl, h with
  | [b0, b1, a0, a1, a2, a3, a4, a5, a6], _, h =>
    obtain ⟨⟨y0, rfl, i0⟩, ⟨y1, rfl, i1⟩, ⟨x0, rfl, h0⟩, ⟨x1, rfl, h1⟩, ⟨x2, rfl, h2⟩, ⟨x3, rfl, h3⟩, ⟨x4, rfl, h4⟩, ⟨x5, rfl, h5⟩, ⟨x6, rfl, h6⟩, _⟩ := h
    obtain ⟨o0, o1⟩ := bounds_u8 i0
    obtain ⟨p0, p1⟩ := bounds_u8 h0
    obtain ⟨q0, q1⟩ := bounds_u32 h1
    obtain ⟨r0, r1⟩ := bounds_u8 h2
    obtain ⟨s0, s1⟩ := bounds_u8 h6
    simp only [maxLen] at h3 h4 h5
    refine ⟨⟨y0.toNat, y1, ⟨x0.toNat, x1.toNat, x2.toNat, x3, x4, x5, x6.toNat⟩⟩, ?_, ?_⟩
    · simp [cells, Int.toNat_of_nonneg o0, Int.toNat_of_nonneg p0, Int.toNat_of_nonneg q0, Int.toNat_of_nonneg r0, Int.toNat_of_nonneg s0]
    · exact ⟨by dsimp only; omega, by dsimp only; omega, by dsimp only; omega, by dsimp only; omega, h3, h4, h5, by dsimp only; omega⟩
end Ac
theorem okWide_struct {P : Program} {w : World} {r : Reach} {base : Nat} {t : TypeId} {fs : Array Field} {v : Value} (hu : P.underlying t = some (.struct fs)) (h : Value.okWide P w r base t v) : ∃ cs, v = .agg cs := by
  unfold Value.okWide at h
  rw [hu] at h
  obtain ⟨cs, rfl, _⟩ := h
  exact ⟨cs, rfl⟩
namespace Bat
set_option maxRecDepth 100000 in
set_option maxHeartbeats 1000000 in
theorem nil_walk (a : Ac) (w : World) : Calls Try.prog 4 #[a.val] w fun e w' => e = .returned (.bool true) ∧ Below w.heap.size w w' := by
  have B0 := below1 w (.cells a.cells.toArray 32)
  have k0 := Blk.new w (.cells a.cells.toArray 32)
  go_enter Try.func4, Try.ntmps4
  go_wp2_with fail
  refine (done_nil _ _ _).mono ?_
  rintro e w1 ⟨rfl, b1⟩
  have k1 := k0.later b1
  have B1 := Below.later' B0 b1
  have c0 := k1.cell 0
  have c1 := k1.cell 1
  have c2 := k1.cell 2
  have c3 := k1.cell 3
  have c4 := k1.cell 4
  have c5 := k1.cell 5
  have c6 := k1.cell 6
  have c7 := k1.cell 7
  have c8 := k1.cell 8
  simp only [Ac.cells] at c0 c1 c2 c3 c4 c5 c6 c7 c8
  clear k0 B0 b1
  go_wp2_with fail
  refine (put_nil a.c _).mono ?_
  rintro e w2 ⟨rfl, b2⟩
  have k2 := k1.later b2
  have B2 := Below.later' B1 b2
  have d1 := k2.cell 1
  simp only [Ac.cells] at d1
  clear c0 c1 c2 c3 c4 c5 c6 c7 c8 k1 B1 b2
  go_wp2_with fail
  refine (take_nil a.n _).mono ?_
  rintro e w3 ⟨rfl, rfl⟩
  go_wp2_with fail
  refine (all_nil _).mono ?_
  rintro e w4 ⟨rfl, rfl⟩
  go_wp2_with fail
  refine (wakes_any _).mono ?_
  rintro e w5 ⟨rfl, b5⟩
  go_wp2
  go_ret
  exact ⟨rfl, Below.later' B2 b5⟩
theorem nil_law {H : Type} {enc : TypeId × Value → H} {base : Nat} {d : DataW H} {ps : List MemPlace} (v : Value) (w : World)
    (hok : Value.okWide Try.prog w .any base 32 v) (ht : DataW.Trod enc Try.prog w 0 (fun _ => true) true 32 v d ps) :
    Calls Try.prog 4 #[v] w fun e w' => e = .returned (.bool true) ∧ Below w.heap.size w w' := by
  have hf := fit_Trod 4 (ks := Ac.leaves) (by kernel_rfl) ht
  obtain ⟨cs, rfl⟩ := okWide_struct Try.underlying32 hok
  obtain ⟨cs⟩ := cs
  obtain ⟨a, ha, _⟩ := Ac.dec cs hf
  subst ha
  exact nil_walk a w
end Bat
end Go.Proofs.Ytcfcikpehekfbaa
