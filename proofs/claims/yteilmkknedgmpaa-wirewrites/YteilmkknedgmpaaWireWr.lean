/-
  Seat 01: what WireWrites asks: the document's Str; a copy of a slice that came in, as a step of a region that draws.
-/
import Derived.Test.YteilmkknedgmpaaWireRef
namespace Go.Proofs.Yteilmkknedgmpaa
open Go.RowKit
namespace Wire
theorem rstr_any (s : List UInt8) (hn : s.length ≤ 1000000000) (w : World) :
    Calls Try.prog 13 #[.string (bs s)] w fun e w' => e = .returned (.string (bs (strB s))) ∧ Below w.heap.size w w' := by
  have hs := bs_size s
  have hw : IntKind.u64.wrap (s.length : Int) = s.length := by rw [IntKind.wrap_u64]; omega
  have hc := bs_append (numB s.length) s
  have hA := bs_size (numB s.length)
  have hle := numB_le s.length
  have hsum : ¬ 9223372036854775807 < (numB s.length).length + s.length := by omega
  have hsum' : ¬ 9223372036854775807 < ((numB s.length).length : Int) + (s.length : Int) := by omega
  go_enter Try.func13, Try.ntmps13
  go_wp2_with fail
  refine (rnum_any s.length (by omega) w).mono ?_
  rintro e w' ⟨rfl, hb⟩
  go_wp2
  go_ret
  exact ⟨rfl, hb⟩
/-- 'append([]byte(nil), b...)'. -/
theorem run_copy (w : World) (ty : TypeId) (v : Value) (n : Nat) (l : List UInt8) (hrd : RdV w v n (by8 l)) (hl : l.length = n) (hn : n ≤ 1000000000) :
    ∃ v' w', (Builtin.append_ #[22, 22] ty #[.slice none 0 0, v]).run Try.prog w = .ok v' w' ∧ w'.ownsRow w.heap.size 5 1 v' n (by8 l) ∧ Below w.heap.size w w' := by
  obtain ⟨i, hi, hz, hz1, hz2⟩ := info_parts info
  obtain ⟨p, cap, rfl, hn', hc, h0⟩ := hrd
  cases p with
  | none =>
    obtain ⟨rfl, rfl⟩ := h0 rfl
    have hnil : l = [] := List.eq_nil_of_length_eq_zero hl
    subst hnil
    have hr := run_append_owned_none (P := Try.prog) w w.heap.size 22 ty 5 i 1 Try.underlying22 hi (.slice none 0 0) 0 [] (own_nil _ _)
    exact ⟨_, _, hr, own_nil _ _, Below.refl _ _⟩
  | some ad =>
    obtain ⟨v', w', hr, h2, h3, _, h4⟩ := run_append_own_at (P := Try.prog) w w.heap.size 22 ty 5 i (.int .u8 0) 1 1 Try.underlying22 hi hz hz1 hz2 rfl (by decide) (.slice none 0 0) 0 [] (own_nil _ _) ad n cap (by8 l) (by simp [by8_length, hl]) (fun j u hj => by
      obtain ⟨b, off, e1, hcell⟩ := hc j u hj
      cases e1
      rw [show (⟨b, off, none⟩ : Addr).add j = ⟨b, off + j, none⟩ by unfold Addr.add; split <;> simp_all]
      exact hcell) (one_u8 _) (by simp only [maxLen]; omega) (by omega) (Nat.le_refl _)
    rw [Nat.zero_add] at h2
    exact ⟨v', w', hr, by simpa using h2, ⟨h3.os, h3.tape, h3.output, h3.size, fun k hk => h3.block k hk (by simp [Value.ownBlock])⟩⟩
theorem step_copy {ops : Array Oper} {o : Oper} {a : Act} {w : World} {K : Act → World → Prop} {Q : Exit → Act → World → Prop} {E : Prop} (s x : Operand)
    (ho : o.op = .call { callee := .builtin .append, args := #[s, x], argTypes := #[22, 22] })
    (v : Value) (n : Nat) (l : List UInt8) (hrd : RdV w v n (by8 l)) (hl : l.length = n) (hn : n ≤ 1000000000) (hs : a.eval s = .slice none 0 0) (hx : a.eval x = v)
    (hw : Region.wanted o (yielded ops a.tmps) = true)
    (h : ∀ v' w', w'.ownsRow w.heap.size 5 1 v' n (by8 l) → Below w.heap.size w w' → K (a.put o.dst v') w') :
    if Region.wanted o (yielded ops a.tmps) = true then Oper.wp Try.prog o a w K Q else E := by
  obtain ⟨v', w', hr, h1, h2⟩ := run_copy w o.type v n l hrd hl hn
  rw [if_pos hw]
  unfold Oper.wp execOp
  simp only [ho, resolve, invoke, builtin, Sem.run_bind, Sem.run_pure, Result.andThen_ok, List.map_toArray, List.map_cons, List.map_nil, hs, hx, hr]
  exact h v' w' h1 h2
end Wire
end Go.Proofs.Yteilmkknedgmpaa
