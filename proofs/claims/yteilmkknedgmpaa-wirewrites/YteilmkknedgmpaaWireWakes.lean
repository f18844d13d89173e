/-
  Seat 01: the row that is awake, and what the laws ask again and again: a number's, a text's bytes as a text.
-/
import Derived.Lib.BufferRead
import Derived.Test.YteilmkknedgmpaaWireStr
namespace Go.Proofs.Yteilmkknedgmpaa
open Go.RowKit
namespace Wire
theorem own_nil (w : World) (base : Nat) : w.ownsRow base 5 1 (.slice none 0 0) 0 [] := ⟨rfl, .inl ⟨rfl, rfl⟩⟩
/-- 'string(b)' of a slice of the call's own. -/
theorem own_text {w : World} {base : Nat} {v : Value} {n : Nat} {l : List UInt8} (h : w.ownsRow base 5 1 v n (by8 l)) : (convert 22 9 v).run Try.prog w = .ok (.string (bs l)) w := by
  have hl : l.length = n := by have := h.1; simpa [by8] using this
  rcases h.2 with ⟨rfl, h2⟩ | ⟨g, cap, cur, rfl, hbg, hg, hnc, hcm, hcs, htake⟩
  · have : l = [] := List.eq_nil_of_length_eq_zero (by omega)
    subst this
    exact Lib.run_convert_nil_bytes w _ _ 5 _ Try.underlying22 Try.underlying5 Try.underlying9
  · subst hl
    refine run_convert_bytes_back w _ _ 5 ⟨g, 0, none⟩ cap l Try.underlying22 Try.underlying5 Try.underlying9 (fun j hj => ?_)
    refine World.ownsRow.cells (g := g) h rfl j _ ?_
    simp [by8, hj]
theorem Below.grew {B : Nat} {a w w' : World} {b : Nat} (h : Below B a w) (g : w.grownBy w' (some b)) (hB : B ≤ w.heap.size) (hb : B ≤ b) : Below B a w' := h.grown g hB (fun k hk => by cases hk; exact hb)
theorem below_grew {w w' : World} {v : Value} (g : Grew w (.slice none 0 0) w' v) : Below w.heap.size w w' := g.below (Below.refl _ _) (Nat.le_refl _) (fun b hb => by cases hb)
/-- 'wire.Num(nil, n)', and its text. -/
theorem num_new (n : Nat) (hn : n < 18446744073709551616) (w : World) :
    Calls Try.prog 10 #[.slice none 0 0, .int .u64 n] w fun e w' => ∃ v, e = .returned v ∧ (convert 22 9 v).run Try.prog w' = .ok (.string (bs (numB n))) w' ∧ Below w.heap.size w w' := by
  refine (num_any w.heap.size _ 0 [] n hn w (own_nil _ _) (by omega) (Nat.le_refl _)).mono ?_
  rintro e w' ⟨v, rfl, h1, h2⟩
  exact ⟨v, rfl, own_text (by simpa using h1), below_grew h2⟩
theorem str_new (s : List UInt8) (hn : s.length ≤ 1000000000) (w : World) :
    Calls Try.prog 12 #[.slice none 0 0, .string (bs s)] w fun e w' => ∃ v, e = .returned v ∧ (convert 22 9 v).run Try.prog w' = .ok (.string (bs (strB s))) w' ∧ Below w.heap.size w w' := by
  refine (str_put w.heap.size _ 0 [] s hn w (own_nil _ _) (by omega) (Nat.le_refl _)).mono ?_
  rintro e w' ⟨v, rfl, h1, h2⟩
  exact ⟨v, rfl, own_text (by simpa using h1), below_grew h2⟩
theorem of_any (l : List UInt8) (w : World) :
    Calls Try.prog 14 #[.string (bs l)] w fun e w' => ∃ b, e = .returned (rp b) ∧ w.heap.size ≤ b ∧ Below w.heap.size w w' ∧ Rdr w' b ⟨l, 0⟩ := by
  refine (new_of l w).mono ?_
  rintro e w' ⟨rfl, h1, h2⟩
  exact ⟨_, rfl, Nat.le_refl _, h1, h2⟩
theorem bs_append (a b : List UInt8) : bs a ++ bs b = bs (a ++ b) := by
  apply ByteArray.ext; simp [bs]
theorem rd_text {w : World} {v : Value} {n : Nat} {l : List UInt8} (h : RdV w v n (by8 l)) (hl : l.length = n) : (convert 22 9 v).run Try.prog w = .ok (.string (bs l)) w := by
  obtain ⟨p, cap, rfl, hn, hc, h0⟩ := h
  cases p with
  | none =>
    obtain ⟨rfl, rfl⟩ := h0 rfl
    have hnil : l = [] := List.eq_nil_of_length_eq_zero hl
    subst hnil
    exact Lib.run_convert_nil_bytes w _ _ 5 _ Try.underlying22 Try.underlying5 Try.underlying9
  | some ad =>
    subst hl
    refine run_convert_bytes_back w _ _ 5 ad cap l Try.underlying22 Try.underlying5 Try.underlying9 (fun j hj => ?_)
    obtain ⟨b, off, e1, hcell⟩ := hc j (.int .u8 (l[j].toNat : Int)) (by simp [by8, hj])
    cases e1
    rw [show (⟨b, off, none⟩ : Addr).add j = ⟨b, off + j, none⟩ by unfold Addr.add; split <;> simp_all]
    exact hcell
theorem wakes_any (w : World) : Calls Try.prog 9 #[] w fun e w' => e = .returned (.bool true) ∧ Below w.heap.size w w' := by
  have k1 := Lib.hid (show numR ⟨[248, 249, 2, 97, 98], 0⟩ = (249, ⟨[2, 97, 98], 0⟩) from by kernel_rfl)
  have k2 := Lib.hid (show strR ⟨[2, 97, 98], 0⟩ (2 : Int).toNat = ([97, 98], ⟨[], 0⟩) from by kernel_rfl)
  have k3 := Lib.hid (show numB 65536 = [250, 1, 0, 0] from by kernel_rfl)
  go_enter Try.func9, Try.ntmps9
  go_wp2_with fail
  refine (of_any [248, 249, 2, 97, 98] w).mono ?_
  rintro e w1 ⟨b, rfl, hb, hB1, hr1⟩
  have z1 := hB1.size
  go_wp2_with fail
  refine (num_of b _ w1 hr1 (by decide)).mono ?_
  rintro e w2 ⟨rfl, g2, hr2⟩
  rw [k1.out] at hr2 ⊢
  have hB2 := Below.grew hB1 g2 (by omega) hb
  have z2 := hB2.size
  go_wp2_with fail
  refine (str_any b _ 2 (by decide) w2 hr2 (by decide)).mono ?_
  rintro e w3 ⟨rfl, g3, hr3⟩
  rw [k2.out] at hr3 ⊢
  have hB3 := Below.grew hB2 g3 (by omega) hb
  have z3 := hB3.size
  go_wp2_with fail
  refine (num_new 65536 (by decide) w3).mono ?_
  rintro e w4 ⟨v, rfl, hcv, b4⟩
  rw [k3.out] at hcv
  have hr4 : Rdr w4 b _ := Blk.later hr3 b4
  have hB4 := hB3.trans (b4.mono (by omega))
  have z4 := hB4.size
  have e1 : ((bs [250, 1, 0, 0]).toList == [250, 1, 0, 0]) = true := by rw [bs_toList]; rfl
  have e2 : ((bs [97, 98]).toList == [97, 98]) = true := by rw [bs_toList]; rfl
  go_wp2_with fail
  refine (end_of b _ w4 hr4).mono ?_
  rintro e w5 ⟨rfl, g5, hr5⟩
  have e3 : ((endR ⟨[], 0⟩).e : Int) = 0 := rfl
  go_wp2
  go_ret
  exact ⟨rfl, Below.grew hB4 g5 (by omega) hb⟩
end Wire
end Go.Proofs.Yteilmkknedgmpaa
