/-
  Num behind a row that is full and not the call's own ('[]byte("z")', which bears the run-time's mark), and behind either kind.
-/
import Derived.Lib.SmallJoins
import Derived.ArgAppend
import Derived.Test.YtcmcdpoceeipbaaWireNum
namespace Go.Proofs.Ytcmcdpoceeipbaa
open Go.RowKit
namespace Wire
theorem World_own_lower {w : World} {b1 b2 : Nat} {e : TypeId} {size : Nat} {v : Value} {n : Nat} {xs : List Value} (h : w.ownsRow b1 e size v n xs) (hb : b2 ≤ b1) : w.ownsRow b2 e size v n xs := by
  refine ⟨h.1, ?_⟩
  rcases h.2 with h2 | ⟨g, cap, cur, e, hbg, h3⟩
  · exact .inl h2
  · exact .inr ⟨g, cap, cur, e, Nat.le_trans hb hbg, h3⟩
theorem app1f {P : Program} {ops : Array Oper} {rest : List Oper} {o : Oper} {a : Act} {Q : Exit → Act → World → Prop} (hgd : o.guard = none) (s x : Operand) (t : TypeId)
    (ho : o.op = .call { callee := .builtin .append, args := #[s, x], argTypes := #[t, t] })
    (e : TypeId) (z : Value) (hinfo : (P.info? e).map (fun i => (i.zero, i.size, i.bytes)) = some (some z, 1, 1)) (ht : P.underlying t = some (.slice e)) (hzs : z.cells.size = 1)
    (w : World) (u : Value) (te : TypeId) (hu : u.oneCell' = true) (g : Nat) (x0 : Value) (hg0 : g < w.heap.size) (hc0 : w.cell? ⟨g, 0, none⟩ = some x0)
    (hs : a.eval s = .slice (some ⟨g, 0, none⟩) 1 1) (b : Nat) (hb : b = w.heap.size) (hx : a.eval x = .slice (some ⟨b, 0, none⟩) 1 1)
    (h : ∀ v' w', w'.ownsRow w.heap.size e 1 v' 2 ([x0] ++ [u]) → Below w.heap.size w w' → wpList P ops Q rest (a.put o.dst v') w') : wpList P ops Q (o :: rest) a (w.alloc (.cells #[u] te)) := by
  obtain ⟨i, hi, hz, hz1, hz2⟩ := info_parts hinfo
  subst hb
  have hc1 : (w.alloc (.cells #[u] te)).cell? ⟨g, 0, none⟩ = some x0 := by rw [← hc0]; exact Below.cell (below1 w _) hg0
  refine wpList_append_grows (w.alloc (.cells #[u] te)) hgd s x t ho e i z 1 1 ht hi hz hz1 hz2 hzs (by decide) (some ⟨g, 0, none⟩) 1 1 [x0] hs (by intro h; cases h) rfl (fun b hb j v hj => ?_) ⟨w.heap.size, 0, none⟩ 1 1 [u] hx rfl (cell_one_new _ _ _) (by simpa using hu) (by omega) (by simp only [maxLen]; omega) (by omega) ?_
  · cases hb
    cases j with
    | zero => simp at hj; subst hj; exact hc1
    | succ j => simp at hj
  · intro v' w' h1 h2
    refine h v' w' (World_own_lower h1 (by simp)) ((below1 w (.cells #[u] te)).trans ⟨h2.os, h2.tape, h2.output, Nat.le_trans (by simp) h2.size, fun k hk => h2.block k (by simp; omega) (by simp)⟩)
set_option maxHeartbeats 1000000 in
theorem num_full (g : Nat) (x0 : Value) (n : Nat) (hn : n < 18446744073709551616) (w : World) (hg0 : g < w.heap.size) (hc0 : w.cell? ⟨g, 0, none⟩ = some x0) :
    Calls Try.prog 17 #[.slice (some ⟨g, 0, none⟩) 1 1, .int .u64 n] w fun e w' => ∃ v, e = .returned v ∧ w'.ownsRow w.heap.size 5 1 v (1 + (numB n).length) (x0 :: by8 (numB n)) ∧ Below w.heap.size w w' := by
  by_cases h : n < 248
  · have h1 : decide ((n : Int) < 248) = true := by simp; omega
    have hw : IntKind.u8.wrap (n : Int) = (n : Int) := by rw [IntKind.wrap_u8]; omega
    have HN := Lib.hid (show x0 :: by8 (numB n) = x0 :: [.int .u8 (n : Int)] by rw [numB, if_pos h]; simp [by8]; omega)
    have HL := Lib.hid (show (numB n).length = 1 by rw [numB, if_pos h]; rfl)
    go_enter Try.func17, Try.ntmps17
    go_wp2_with (at_builtin; refine app1f rfl _ _ 22 rfl 5 (.int .u8 0) info Try.underlying22 rfl _ _ _ rfl g x0 hg0 hc0 rfl _ (by simp) rfl ?_; intro v' w1 hown1 hg)
    go_ret
    exact ⟨_, rfl, by rw [HN.out, HL.out]; exact hown1, hg⟩
  · have h1 : decide ((n : Int) < 248) = false := by simp; omega
    go_enter Try.func17, Try.ntmps17
    go_wp2_with fail
    refine (Try.bits_Len64 _ _ (by omega) (by omega)).mono ?_
    rintro e w' ⟨rfl, hw'⟩
    obtain rfl : w = w' := hw'.symm
    simp only [Int.toNat_natCast]
    have w1 := wide_le n
    have w2 := wide_pos n hn (by omega)
    have hwd : ((Lib.bitLen n : Int) + 7) / 8 = (wide n : Int) := by unfold wide; omega
    have hcv : IntKind.u8.wrap (247 + (wide n : Int)) = ((UInt8.ofNat (247 + wide n)).toNat : Int) := by rw [IntKind.wrap_u8, UInt8.toNat_ofNat']; omega
    have hbl : Lib.bitLen n ≤ 64 := bitLenAux_le 64 n
    have HN := Lib.hid (show numB n = UInt8.ofNat (247 + wide n) :: beB (wide n) n by rw [numB, if_neg h])
    go_wp2_with (at_builtin; refine app1f rfl _ _ 22 rfl 5 (.int .u8 0) info Try.underlying22 rfl _ _ _ rfl g x0 hg0 hc0 rfl _ (by simp) rfl ?_; intro v1 w1' hown1 hg1)
    clear hwd hcv
    have hz1 := hg1.size
    go_loopw [0, 6] (fun v i wr => ∃ (j : Nat) (pre : List UInt8), j ≤ wide n ∧ i = .int .i64 ((j : Int) - 1) ∧ pre ++ beB j n = numB n ∧ pre.length ≤ 9 ∧ wr.ownsRow w.heap.size 5 1 v (1 + pre.length) (x0 :: by8 pre) ∧ Below w.heap.size w wr) (fun _ i _ => (intOf i + 1).toNat)
    case atStart => exact ⟨wide n, [UInt8.ofNat (247 + wide n)], Nat.le_refl _, rfl, by rw [HN.out]; rfl, by simp, by simpa [by8] using hown1, hg1⟩
    case round =>
      obtain ⟨j, pre, hj, rfl, hpre, hpl, hown2, hg2⟩ := hrel
      have hz2 := hg2.size
      cases j with
      | zero =>
        have HE := Lib.hid (show pre = numB n by simpa [beB] using hpre)
        clear hpre
        go_wp2
        go_ret
        exact ⟨_, rfl, by rw [← HE.out]; exact hown2, hg2⟩
      | succ j =>
        have hlen := congrArg List.length hpre
        rw [List.length_append, beB_length] at hlen
        have hnl := numB_le n
        have hpl2 : pre.length + 1 ≤ 9 := by omega
        have HP := Lib.hid hpre
        have hsh := shr_fact n j
        have HB := Lib.hid (show x0 :: by8 (pre ++ [UInt8.ofNat (n / 256 ^ j)]) = x0 :: by8 pre ++ [.int .u8 ((n : Int) / 2 ^ (8 * j) % 256)] by rw [hsh]; simp [by8])
        have HP2 := Lib.hid (show (pre ++ [UInt8.ofNat (n / 256 ^ j)]) ++ beB j n = numB n by rw [← hpre, beB]; simp)
        clear hsh
        generalize UInt8.ofNat (n / 256 ^ j) = x at HB HP2
        clear hpre hlen hnl hown1 hg1
        rw [show ((j + 1 : Nat) : Int) - 1 = (j : Int) by omega]
        go_wp2_with (at_builtin; refine app1g rfl _ _ 22 rfl w.heap.size 5 (.int .u8 0) 1 info Try.underlying22 rfl _ _ _ rfl _ _ _ hown2 rfl _ (by simp) rfl (by omega) (by omega) (by omega) ?_; intro v' w3 hown3 hg3)
        go_roundw
        case rel => exact ⟨j, pre ++ [x], by omega, rfl, HP2.out, by simp; omega, by rw [HB.out]; simpa [Nat.add_assoc] using hown3, hg3.below hg2 hz2 (fun c hc => (hown2.lt c hc).1)⟩
        case measure => simp [intOf]
/-- Whoever is put behind: a row of the call's own, or a full one. -/
def Src (w : World) (base : Nat) (v : Value) (n : Nat) (xs : List Value) : Prop := w.ownsRow base 5 1 v n xs ∨ ∃ g x0, v = .slice (some ⟨g, 0, none⟩) 1 1 ∧ n = 1 ∧ xs = [x0] ∧ g < w.heap.size ∧ w.cell? ⟨g, 0, none⟩ = some x0
theorem Src.lt {w : World} {base : Nat} {v : Value} {n : Nat} {xs : List Value} (h : Src w base v n xs) : ∀ b, v.ownBlock = some b → b < w.heap.size := by
  intro b hb
  rcases h with h | ⟨g, x0, rfl, _, _, hg, _⟩
  · exact (h.lt b hb).2
  · cases hb; exact hg
theorem Src.below {w w' : World} {base : Nat} {v : Value} {n : Nat} {xs : List Value} (h : Src w base v n xs) (hb : Below w.heap.size w w') : Src w' base v n xs := by
  rcases h with h | ⟨g, x0, rfl, h1, h2, hg, hc⟩
  · exact .inl (ownsRow_below h hb)
  · exact .inr ⟨g, x0, rfl, h1, h2, Nat.lt_of_lt_of_le hg hb.size, by rw [← hc]; exact Below.cell hb hg⟩
theorem num_src (base : Nat) (vb : Value) (k : Nat) (xs : List Value) (n : Nat) (hn : n < 18446744073709551616) (w : World) (hsrc : Src w base vb k xs) (hk : k ≤ 1000000000) (hbase : base ≤ w.heap.size) :
    Calls Try.prog 17 #[vb, .int .u64 n] w fun e w' => ∃ v, e = .returned v ∧ w'.ownsRow base 5 1 v (k + (numB n).length) (xs ++ by8 (numB n)) ∧ Grew w vb w' v := by
  rcases hsrc with h | ⟨g, x0, rfl, rfl, rfl, hg, hc⟩
  · exact num_any base vb k xs n hn w h hk hbase
  · refine (num_full g x0 n hn w hg hc).mono ?_
    rintro e w' ⟨v, rfl, h1, h2⟩
    exact ⟨v, rfl, World_own_lower h1 hbase, ⟨h2.os, h2.tape, h2.output, h2.size, fun k hk _ => h2.block k hk⟩, .inr fun b hb => (h1.lt b hb).1⟩
end Wire
end Go.Proofs.Ytcmcdpoceeipbaa
