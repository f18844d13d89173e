/-
  Seat 01: the law WireWrites, walked.
-/
import Derived.Deep.RegionLaw
import Derived.Deep.RegionHeld3
import Derived.BigCall
import Derived.BigGuard
import Derived.Deep.CutRange
import Derived.OpenShut
import Derived.Test.YteilmkknedgmpaaWireWr
namespace Go.Proofs.Yteilmkknedgmpaa
open Go.RowKit
namespace Wire
theorem rd_text {w : World} {v : Value} {n : Nat} {l : List UInt8} (h : RdV w v n (by8 l)) (hl : l.length = n) : (convert 22 9 v).run Try.prog w = .ok (.string (bs l)) w := by
  obtain ⟨p, cap, rfl, hn, hc, h0⟩ := h
  cases p with
  | none =>
    obtain ⟨rfl, rfl⟩ := h0 rfl
    have hnil : l = [] := List.eq_nil_of_length_eq_zero hl
    subst hnil
    exact Lib.run_convert_nil_bytes w _ _ 5 _ Try.underlying22 Try.underlying5 Try.underlying9
  | some ad =>
    subst hl
    refine run_convert_bytes_back w _ _ 5 ad cap l Try.underlying22 Try.underlying5 Try.underlying9 (fun j hj => ?_)
    obtain ⟨b, off, e1, hcell⟩ := hc j (.int .u8 (l[j].toNat : Int)) (by simp [by8, hj])
    cases e1
    rw [show (⟨b, off, none⟩ : Addr).add j = ⟨b, off + j, none⟩ by unfold Addr.add; split <;> simp_all]
    exact hcell
theorem writes_short (v : Value) (k : Nat) (l : List UInt8) (n : Nat) (s : List UInt8) (w : World) (hrd : RdV w v k (by8 l)) (h : 2000 < k ∨ 2000 < s.length) :
    Calls Try.prog 3 #[v, .int .u64 n, .string (bs s)] w fun e w' => e = .returned (.bool true) ∧ Below w.heap.size w w' := by
  have hs := bs_size s
  obtain ⟨p, cap, rfl, _, _, _⟩ := hrd
  by_cases h1 : 2000 < k
  · have d1 : decide (2000 < k) = true := by simp; omega
    have d1' : decide ((2000 : Int) < (k : Int)) = true := by simp; omega
    clear h h1
    go_enter Try.func3, Try.ntmps3
    go_wp2_with fail
    refine (wakes_any w).mono ?_
    rintro e w1 ⟨rfl, hb⟩
    go_wp2
    go_ret
    exact ⟨rfl, hb⟩
  · have d1 : decide (2000 < k) = false := by simp; omega
    have d1' : decide ((2000 : Int) < (k : Int)) = false := by simp; omega
    have d2 : decide (2000 < s.length) = true := by simp; omega
    have d2' : decide ((2000 : Int) < (s.length : Int)) = true := by simp; omega
    clear h h1
    go_enter Try.func3, Try.ntmps3
    go_wp2_with fail
    refine (wakes_any w).mono ?_
    rintro e w1 ⟨rfl, hb⟩
    go_wp2
    go_ret
    exact ⟨rfl, hb⟩
theorem ownsRow_later {w : World} {base : Nat} {v : Value} {n : Nat} {xs : List Value} (h : w.ownsRow base 5 1 v n xs) : ∀ w', Below w.heap.size w w' → w'.ownsRow base 5 1 v n xs := fun _ hb => ownsRow_below h hb
/-- Num behind a slice of the call's own, made since B: the text, kept in every later world. -/
theorem num_on (B : Nat) (v : Value) (l : List UInt8) (n : Nat) (hn : n < 18446744073709551616) (w : World) (hown : w.ownsRow B 5 1 v l.length (by8 l)) (hl : l.length ≤ 2000) (hB : B ≤ w.heap.size) :
    Calls Try.prog 10 #[v, .int .u64 n] w fun e w' => ∃ v', e = .returned v' ∧ (∀ w2, Below w'.heap.size w' w2 → (convert 22 9 v').run Try.prog w2 = .ok (.string (bs (l ++ numB n))) w2) ∧ Below B w w' := by
  refine (num_any B v l.length (by8 l) n hn w hown (by omega) hB).mono ?_
  rintro e w' ⟨v', rfl, h1, h2⟩
  refine ⟨v', rfl, fun w2 hb => own_text (ownsRow_below (by rw [by8_append]; exact h1) hb), h2.below (Below.refl _ _) hB (fun b hb => ?_)⟩
  rcases hown.2 with ⟨rfl, _⟩ | ⟨g, cap, cur, rfl, hbg, _⟩
  · cases hb
  · cases hb; exact hbg
theorem str_on (B : Nat) (v : Value) (l : List UInt8) (s : List UInt8) (hn : s.length ≤ 2000) (w : World) (hown : w.ownsRow B 5 1 v l.length (by8 l)) (hl : l.length ≤ 2000) (hB : B ≤ w.heap.size) :
    Calls Try.prog 12 #[v, .string (bs s)] w fun e w' => ∃ v', e = .returned v' ∧ (∀ w2, Below w'.heap.size w' w2 → (convert 22 9 v').run Try.prog w2 = .ok (.string (bs (l ++ strB s))) w2) ∧ Below B w w' := by
  refine (str_put B v l.length (by8 l) s (by omega) w hown (by omega) hB).mono ?_
  rintro e w' ⟨v', rfl, h1, h2⟩
  refine ⟨v', rfl, fun w2 hb => own_text (ownsRow_below (by rw [by8_append]; exact h1) hb), h2.below (Below.refl _ _) hB (fun b hb => ?_)⟩
  rcases hown.2 with ⟨rfl, _⟩ | ⟨g, cap, cur, rfl, hbg, _⟩
  · cases hb
  · cases hb; exact hbg
theorem own_base {w : World} {b1 b2 : Nat} {v : Value} {n : Nat} {xs : List Value} (h : w.ownsRow b1 5 1 v n xs) (hb : b2 ≤ b1) : w.ownsRow b2 5 1 v n xs := by
  refine ⟨h.1, ?_⟩
  rcases h.2 with h2 | ⟨g, cap, cur, e, hbg, h3⟩
  · exact .inl h2
  · exact .inr ⟨g, cap, cur, e, Nat.le_trans hb hbg, h3⟩
theorem step_copyB {ops : Array Oper} {o : Oper} {a : Act} {w : World} {K : Act → World → Prop} {Q : Exit → Act → World → Prop} {E : Prop} (B : Nat) (s x : Operand)
    (ho : o.op = .call { callee := .builtin .append, args := #[s, x], argTypes := #[22, 22] })
    (v : Value) (l : List UInt8) (hrd : RdV w v l.length (by8 l)) (hn : l.length ≤ 2000) (hB : B ≤ w.heap.size) (hs : a.eval s = .slice none 0 0) (hx : a.eval x = v)
    (hw : Region.wanted o (yielded ops a.tmps) = true)
    (h : ∀ v' w', w'.ownsRow B 5 1 v' l.length (by8 l) → Below B w w' → K (a.put o.dst v') w') :
    if Region.wanted o (yielded ops a.tmps) = true then Oper.wp Try.prog o a w K Q else E :=
  step_copy s x ho v l.length l hrd rfl (by omega) hs hx hw fun v' w' h1 h2 => h v' w' (own_base h1 hB) (h2.mono hB)
set_option maxRecDepth 100000 in
set_option maxHeartbeats 800000 in
set_option warningAsError false in
theorem writes_walk (v : Value) (l : List UInt8) (n : Nat) (hn : n < 18446744073709551616) (s : List UInt8) (w : World) (hrd : RdV w v l.length (by8 l)) (h1 : ¬ 2000 < l.length) (h2 : ¬ 2000 < s.length) :
    Calls Try.prog 3 #[v, .int .u64 n, .string (bs s)] w fun e w' => e = .returned (.bool true) ∧ Below w.heap.size w w' := by
  have hs := bs_size s
  have hsl := bs_size l
  have hA := bs_size (numB n)
  have hS := bs_size (strB s)
  have hle := numB_le n
  have hle2 := numB_le s.length
  have hsb := strB_length s
  have cat1 := bs_append l (numB n)
  have cat2 := bs_append l (strB s)
  have q1 : ¬ 9223372036854775807 < l.length + (numB n).length := by omega
  have q2 : ¬ 9223372036854775807 < l.length + (strB s).length := by omega
  have e1 : ((bs (l ++ numB n)).toList == (bs (l ++ numB n)).toList) = true := beq_self_eq_true _
  have e2 : ((bs (l ++ strB s)).toList == (bs (l ++ strB s)).toList) = true := beq_self_eq_true _
  have d1 : decide (2000 < l.length) = false := by simp; omega
  have d1' : decide ((2000 : Int) < (l.length : Int)) = false := by simp; omega
  have d2 : decide (2000 < s.length) = false := by simp; omega
  have d2' : decide ((2000 : Int) < (s.length : Int)) = false := by simp; omega
  have htx := rd_text hrd rfl
  have hrd0 := hrd
  obtain ⟨p, cap, rfl, _, _, _⟩ := hrd
  go_enter Try.func3, Try.ntmps3
  go_upto_region 4 with (fail)
  clear d1 d1' d2 d2' htx
  have bT : Below w.heap.size w w.drew := Below.drew (Below.refl _ _)
  go_region_held3 (fun w' => Below w.heap.size w w') (first | assumption | exact Below.drew (Below.refl _ _)) (first
    | ((refine step_copyB w.heap.size _ _ rfl _ l (hrd0.below bT (Nat.le_refl _)) (by omega) bT.size (by go_simp) (by go_simp) (by go_simp) ?_); intro va wa hoa ba; have bT := bT.trans ba)
    | (go_simp; go_at_call 10; refine (num_on w.heap.size _ l n hn _ (by assumption) (by omega) bT.size).mono ?_; rintro e wb ⟨vb, rfl, hcb, bb⟩; have hcb0 := hcb _ (Below.refl _ _); have bT := bT.trans bb)
    | (go_simp; go_at_call 12; refine (str_on w.heap.size _ l s (by omega) _ (by assumption) (by omega) bT.size).mono ?_; rintro e wb ⟨vb, rfl, hcb, bb⟩; have hcb0 := hcb _ (Below.refl _ _); have bT := bT.trans bb)
    | (go_simp; go_at_call 11; refine (rnum_any n hn _).mono ?_; rintro e wd ⟨rfl, bd⟩; (try have hoa2 := ownsRow_below hoa bd); (try have hcb2 := hcb _ bd); have bT := bT.trans (bd.mono bT.size))
    | (go_simp; go_at_call 13; refine (rstr_any s (by omega) _).mono ?_; rintro e wd ⟨rfl, bd⟩; (try have hoa2 := ownsRow_below hoa bd); (try have hcb2 := hcb _ bd); have bT := bT.trans (bd.mono bT.size))
    | (go_simp; go_at_call 9; refine (wakes_any _).mono ?_; rintro e wd ⟨rfl, bd⟩; have bT := bT.trans (bd.mono bT.size)))
  all_goals (go_wp2_with fail; go_ret; exact ⟨rfl, bT⟩)
theorem writes_law (v : Value) (n : Int) (s : ByteArray) (w : World) (hv : ∃ l : List UInt8, RdV w v l.length (by8 l)) (h1 : (Lit.int .u64 n).wf = true) :
    Calls Try.prog 3 #[v, .int .u64 n, .string s] w fun e w' => e = .returned (.bool true) ∧ Below w.heap.size w w' := by
  have b1 := bounds_u64 h1
  obtain ⟨n, rfl⟩ : ∃ k : Nat, n = k := ⟨n.toNat, by omega⟩
  obtain ⟨l, hrd⟩ := hv
  rw [← bs_list s]
  by_cases h : 2000 < l.length ∨ 2000 < s.data.toList.length
  · exact writes_short v l.length l n _ w hrd h
  · exact writes_walk v l n (by omega) _ w hrd (fun e => h (.inl e)) (fun e => h (.inr e))
end Wire
end Go.Proofs.Yteilmkknedgmpaa
