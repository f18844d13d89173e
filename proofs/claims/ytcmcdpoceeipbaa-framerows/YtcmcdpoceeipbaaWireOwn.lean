/-
  What the laws ask of the wire again and again: a slice of the call's own, and its text; a number put behind nil. No statement of its own.
-/
import Derived.Lib.BufferRead
import Derived.Test.YtcmcdpoceeipbaaWireMore
namespace Go.Proofs.Ytcmcdpoceeipbaa
open Go.RowKit
namespace Wire
theorem own_nil (w : World) (base : Nat) : w.ownsRow base 5 1 (.slice none 0 0) 0 [] := ⟨rfl, .inl ⟨rfl, rfl⟩⟩
/-- 'string(b)' of a slice of the call's own. -/
theorem own_text {w : World} {base : Nat} {v : Value} {n : Nat} {l : List UInt8} (h : w.ownsRow base 5 1 v n (by8 l)) : (convert 22 9 v).run Try.prog w = .ok (.string (bs l)) w := by
  have hl : l.length = n := by have := h.1; simpa [by8] using this
  rcases h.2 with ⟨rfl, h2⟩ | ⟨g, cap, cur, rfl, hbg, hg, hnc, hcm, hcs, htake⟩
  · have : l = [] := List.eq_nil_of_length_eq_zero (by omega)
    subst this
    exact Lib.run_convert_nil_bytes w _ _ 5 _ Try.underlying22 Try.underlying5 Try.underlying9
  · subst hl
    refine run_convert_bytes_back w _ _ 5 ⟨g, 0, none⟩ cap l Try.underlying22 Try.underlying5 Try.underlying9 (fun j hj => ?_)
    refine World.ownsRow.cells (g := g) h rfl j _ ?_
    simp [by8, hj]
theorem Below.grew {B : Nat} {a w w' : World} {b : Nat} (h : Below B a w) (g : w.grownBy w' (some b)) (hB : B ≤ w.heap.size) (hb : B ≤ b) : Below B a w' := h.grown g hB (fun k hk => by cases hk; exact hb)
theorem below_grew {w w' : World} {v : Value} (g : Grew w (.slice none 0 0) w' v) : Below w.heap.size w w' := g.below (Below.refl _ _) (Nat.le_refl _) (fun b hb => by cases hb)
theorem gbelow {w w' : World} {r : Option Nat} (h : Below w.heap.size w w') : w.grownBy w' r := ⟨h.os, h.tape, h.output, h.size, fun k hk _ => h.block k hk⟩
/-- 'wire.Num(nil, n)', and its text. -/
theorem num_new (n : Nat) (hn : n < 18446744073709551616) (w : World) :
    Calls Try.prog 17 #[.slice none 0 0, .int .u64 n] w fun e w' => ∃ v, e = .returned v ∧ (convert 22 9 v).run Try.prog w' = .ok (.string (bs (numB n))) w' ∧ Below w.heap.size w w' := by
  refine (num_any w.heap.size _ 0 [] n hn w (own_nil _ _) (by omega) (Nat.le_refl _)).mono ?_
  rintro e w' ⟨v, rfl, h1, h2⟩
  exact ⟨v, rfl, own_text (by simpa using h1), below_grew h2⟩
theorem of_any (l : List UInt8) (w : World) :
    Calls Try.prog 22 #[.string (bs l)] w fun e w' => ∃ b, e = .returned (rp b) ∧ w.heap.size ≤ b ∧ Below w.heap.size w w' ∧ Rdr w' b ⟨l, 0⟩ := by
  refine (new_of l w).mono ?_
  rintro e w' ⟨rfl, h1, h2⟩
  exact ⟨_, rfl, Nat.le_refl _, h1, h2⟩
theorem bs_append (a b : List UInt8) : bs a ++ bs b = bs (a ++ b) := by
  apply ByteArray.ext; simp [bs]
theorem rd_text {w : World} {v : Value} {n : Nat} {l : List UInt8} (h : RdV w v n (by8 l)) (hl : l.length = n) : (convert 22 9 v).run Try.prog w = .ok (.string (bs l)) w := by
  obtain ⟨p, cap, rfl, hn, hc, h0⟩ := h
  cases p with
  | none =>
    obtain ⟨rfl, rfl⟩ := h0 rfl
    have hnil : l = [] := List.eq_nil_of_length_eq_zero hl
    subst hnil
    exact Lib.run_convert_nil_bytes w _ _ 5 _ Try.underlying22 Try.underlying5 Try.underlying9
  | some ad =>
    subst hl
    refine run_convert_bytes_back w _ _ 5 ad cap l Try.underlying22 Try.underlying5 Try.underlying9 (fun j hj => ?_)
    obtain ⟨b, off, e1, hcell⟩ := hc j (.int .u8 (l[j].toNat : Int)) (by simp [by8, hj])
    cases e1
    rw [show (⟨b, off, none⟩ : Addr).add j = ⟨b, off + j, none⟩ by unfold Addr.add; split <;> simp_all]
    exact hcell
end Wire
end Go.Proofs.Ytcmcdpoceeipbaa
