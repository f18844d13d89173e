/-
  ThriftPlays, walked.
-/
import Derived.Test.YthhgcfklaakndaaThrRef
import Derived.Test.YthhgcfklaakndaaThrWakes
import Derived.Lib.BufferRead
namespace Go.Proofs.Ythhgcfklaakndaa
open Go.RowKit
namespace Thr
open Mem R8
theorem rd_text {w : World} {v : Value} {l : List Nat} (h : RdB w v l) : (convert 22 9 v).run Try.prog w = .ok (.string ⟨(l.map UInt8.ofNat).toArray⟩) w := by
  obtain ⟨p, cap, rfl, hb, _, hc, h0⟩ := h
  cases p with
  | none =>
    obtain ⟨rfl, h1⟩ := h0 rfl
    have hnil : l = [] := List.eq_nil_of_length_eq_zero h1
    subst hnil
    exact Lib.run_convert_nil_bytes w _ _ 5 _ Try.underlying22 Try.underlying5 Try.underlying9
  | some ad =>
    have := run_convert_bytes_back (P := Try.prog) w 22 9 5 ad cap (l.map UInt8.ofNat) Try.underlying22 Try.underlying5 Try.underlying9 (fun j hj => by
      rw [List.length_map] at hj
      obtain ⟨b, off, e1, hcell⟩ := hc j hj
      cases e1
      rw [getD_at l j hj] at hcell
      have hx := hb _ (List.getElem_mem hj)
      rw [List.getElem_map, show (UInt8.ofNat l[j]).toNat = l[j] by rw [UInt8.toNat_ofNat']; exact Nat.mod_eq_of_lt hx]
      rw [show (⟨b, off, none⟩ : Addr).add j = ⟨b, off + j, none⟩ by unfold Addr.add; split <;> simp_all]
      exact hcell)
    rw [List.length_map] at this
    exact this
/-- One cell of a slice of one's own. -/
theorem own_cell {w : World} {base : Nat} {v : Value} {n : Nat} {xs : List Value} (h : w.ownsRow base 5 1 v n xs) (j : Nat) (hj : j < n) :
    ∃ g cap z, v = .slice (some ⟨g, 0, none⟩) n cap ∧ base ≤ g ∧ w.cell? ⟨g, j, none⟩ = some z ∧ w.frozen? ⟨g, j, none⟩ = false ∧ ∀ u, ∃ ys, (w.setCell ⟨g, j, none⟩ u).ownsRow base 5 1 v n ys := by
  obtain ⟨hl, h2⟩ := h
  rcases h2 with ⟨rfl, rfl⟩ | ⟨g, cap, cur, rfl, hb, hg, hn, hm, hs, ht⟩
  · omega
  · have k : Blk w g (.cells cur 5) := hg
    have hjs : j < cur.size := by omega
    refine ⟨g, cap, cur[j], rfl, hb, (k.cell j).trans (Array.getElem?_eq_getElem hjs), k.frozen j, fun u => ⟨(cur.setIfInBounds j u).toList.take (n * 1), ?_, .inr ⟨g, cap, cur.setIfInBounds j u, rfl, hb, k.set j u, hn, hm, by simp; omega, rfl⟩⟩⟩
    simp; omega
def hds (self : Nat) (l : List Nat) : List Nat := l.foldl (hd self) []
theorem hds_len (self : Nat) (l : List Nat) : (hds self l).length ≤ l.length := by
  have : ∀ (l : List Nat) r, (l.foldl (hd self) r).length ≤ r.length + l.length := by
    intro l; induction l with
    | nil => intro r; simp
    | cons x l ih =>
      intro r
      have h1 := ih (hd self r x)
      have h2 := hd_len self r x
      simp only [List.foldl_cons, List.length_cons]; omega
  have := this l []
  simpa [hds] using this
theorem hds_snoc (self : Nat) (l : List Nat) (x : Nat) : hds self (l ++ [x]) = hd self (hds self l) x := by simp [hds]
set_option maxRecDepth 100000 in
set_option maxHeartbeats 4000000 in
theorem plays_walk (self c : Nat) (hs : self < 256) (hc : c < 256) (v : Value) (l : List Nat) (w : World) (hv : RdB w v l) :
    Calls Try.prog 4 #[.int .u8 self, v, .int .u8 c] w fun e w' => e = .returned (.bool true) ∧ Below w.heap.size w w' := by
  have HV := Lib.hid hv
  obtain ⟨p, cap, rfl, hb, _, _⟩ := hv
  by_cases hlen : 100 < l.length
  · have d1 : decide (100 < l.length) = true := decide_eq_true hlen
    have d1' : decide ((100 : Int) < (l.length : Int)) = true := decide_eq_true (by omega)
    clear hb
    go_enter Try.func4, Try.ntmps4
    go_wp2_with fail
    refine (wakes_any _).mono ?_
    rintro e w1 ⟨rfl, hb⟩
    go_wp2
    go_ret
    exact ⟨rfl, hb⟩
  · have d1 : decide (100 < l.length) = false := decide_eq_false hlen
    have d1' : decide ((100 : Int) < (l.length : Int)) = false := decide_eq_false (by omega)
    by_cases h7 : 7 ≤ self
    · have t1 : decide (6 < self) = true := decide_eq_true (by omega)
      have t2 : decide ((6 : Int) < (self : Int)) = true := decide_eq_true (by omega)
      clear hb
      go_enter Try.func4, Try.ntmps4
      go_wp2_with fail
      refine (new_bad self h7 _).mono ?_
      rintro e w1 ⟨rfl, rfl⟩
      go_wp2_with fail
      refine (wakes_any _).mono ?_
      rintro e w1 ⟨rfl, hb⟩
      go_wp2
      go_ret
      exact ⟨rfl, hb⟩
    · have t1 : decide (6 < self) = false := decide_eq_false (by omega)
      have t2 : decide ((6 : Int) < (self : Int)) = false := decide_eq_false (by omega)
      have hlb : ∀ b, (Value.slice p l.length cap).ownBlock = some b → True := fun _ _ => trivial
      clear hlb
      go_enter Try.func4, Try.ntmps4
      go_wp2_with fail
      refine (new_any self (by omega) _).mono ?_
      rintro e w1 ⟨rfl, q1, B1⟩
      go_wp2_with fail
      go_loopw [9, 10] (fun ro i wr => ∃ (k : Nat) (vm : Value), k ≤ l.length + 1 ∧ i = .int .i64 k ∧ Mm wr w.heap.size w.heap.size self vm (hds self (l.take k)) ∧ RdB wr ro (hds self (l.take k)) ∧ some w.heap.size ≠ ro.ownBlock ∧ Apart ro vm ∧ (∀ b, ro.ownBlock = some b → b < wr.heap.size) ∧ Below w.heap.size w wr) (fun _ i _ => l.length + 1 - (intOf i).toNat)
      case atStart => exact ⟨0, _, Nat.zero_le _, rfl, q1, rdB_nil _, (fun h => by cases h), .inl rfl, (fun b h => by cases h), B1⟩
      case round =>
        clear q1 B1
        obtain ⟨k, vm, hk, rfl, q, rr, hmr, hap, hrl, BB⟩ := hrel
        by_cases hle : k ≤ l.length
        · have g1 : decide ((k : Int) ≤ (l.length : Int)) = true := decide_eq_true (by omega)
          have g2 : decide (k ≤ l.length) = true := decide_eq_true hle
          have hRl := hds_len self (l.take k)
          rw [List.length_take] at hRl
          have hRl2 : (hds self (l.take k)).length ≤ 100 := by omega
          have HSN := Lib.hid (fun (h : k < l.length) => show hds self (l.take (k + 1)) = hd self (hds self (l.take k)) l[k] by rw [take_snoc l k h, hds_snoc])
          obtain ⟨R, hR⟩ : ∃ R, hds self (l.take k) = R := ⟨_, rfl⟩
          rw [hR] at q rr HSN hRl2
          have HRE := Lib.hid (show l.length ≤ k → hds self (l.take (k + 1)) = R from fun h => by rw [← hR, List.take_of_length_le h, List.take_of_length_le (by omega)])
          clear hR hRl
          have hsm := q.small
          have hsm2 : ∀ x ∈ R, x < 256 := fun x hx => by have := hsm x hx; omega
          have rrc := rr
          obtain ⟨pr, cr, hro, _⟩ := rrc
          subst hro
          go_wp2_with fail
          refine (row_any w.heap.size w.heap.size self vm R (by omega) _ q).mono ?_
          rintro e x1 ⟨got, rfl, ho1, b1⟩
          have HG := Lib.hid (rd_text (RdB.owns ho1 hsm2))
          have rr1 := rr.below b1 (Nat.le_refl _)
          have HR1 := Lib.hid (rd_text rr1)
          have q1 := q.below b1
          obtain ⟨pg, cg, hgv, _⟩ := RdV.owns ho1
          subst hgv
          have kg := HG.out
          have kr := HR1.out
          obtain ⟨S, hS⟩ : ∃ S : ByteArray, (⟨(R.map UInt8.ofNat).toArray⟩ : ByteArray) = S := ⟨_, rfl⟩
          rw [hS] at kg kr
          have t4 : (S.toList != S.toList) = false := by simp
          clear hS HG HR1
          go_wp2_with fail
          obtain ⟨P, hP⟩ : ∃ P, pk c (self :: R ++ listN c) = P := ⟨_, rfl⟩
          have HPA := pick_any w.heap.size self w.heap.size vm R c hc hs hsm2 _ q1.blk q1.row
          rw [hP] at HPA
          refine HPA.mono ?_
          rintro e x2 ⟨rfl, b2⟩
          have B12 := Below.later' b1 b2
          have ho2 := ownsRow_below ho1 b2
          have rr2 := rr1.below b2 (Nat.le_refl _)
          clear kg kr t4 b2 ho1 rr1 q1 b1 HPA
          go_wp2_with fail
          have HPB := rpick_any _ R (by omega) self c hs hc _ rr2
          rw [hP] at HPB
          refine HPB.mono ?_
          rintro e x3 ⟨rfl, b3⟩
          have B13 := Below.later' B12 b3
          have ho3 := ownsRow_below ho2 b3
          have t5 : ((P : Int) != (P : Int)) = false := by simp
          clear hP HPB ho2 rr2 B12 b3
          go_wp2_with fail
          go_loopw [12] (fun j wr2 => ∃ (m : Nat) (ys : List Value), m ≤ R.length ∧ j = .int .i64 m ∧ wr2.ownsRow wr.heap.size 5 1 (.slice pg R.length cg) R.length ys ∧ Below wr.heap.size wr wr2) (fun j _ => R.length - (intOf j).toNat)
          case atStart => exact ⟨0, _, Nat.zero_le _, rfl, ho3, B13⟩
          case round =>
            clear ho3 B13 t5
            obtain ⟨m, ys, hm, rfl, ho, B14⟩ := hrel
            by_cases hlt : m < R.length
            · have d2 : decide ((m : Int) < (R.length : Int)) = true := decide_eq_true (by omega)
              have d2' : decide (m < R.length) = true := decide_eq_true hlt
              obtain ⟨g, cap2, z, e1, hgb, gc, gf, hset⟩ := own_cell ho m hlt
              cases e1
              go_wp2
              go_roundw
              case rel =>
                obtain ⟨ys2, h2⟩ := hset (.int .u8 99)
                exact ⟨m + 1, ys2, by omega, by go_num, h2, B14.setCell (p := ⟨g, m, none⟩) (by dsimp only; omega) _⟩
              case measure => simp [intOf]; omega
            · have d2 : decide ((m : Int) < (R.length : Int)) = false := decide_eq_false (by omega)
              have d2' : decide (m < R.length) = false := decide_eq_false hlt
              have q4 := q.below B14
              have rr4 := rr.below B14 (Nat.le_refl _)
              have BB4 := Below.later BB B14 BB.size
              have hz4 := B14.size
              clear ho q rr BB
              by_cases hkl : k < l.length
              · have g3 : decide ((k : Int) < (l.length : Int)) = true := decide_eq_true (by omega)
                have g4 : decide (k < l.length) = true := decide_eq_true hkl
                obtain ⟨p', cap', e, _, _, hcx, _⟩ := HV.out.below BB4 (Nat.le_refl _)
                cases e
                obtain ⟨ab, off, rfl, hcell⟩ := hcx k hkl
                rw [getD_at l k hkl] at hcell
                have hx := hb _ (List.getElem_mem hkl)
                have HS := Lib.hid (HSN.out hkl)
                obtain ⟨x, hxe⟩ : ∃ x, l[k] = x := ⟨_, rfl⟩
                rw [hxe] at hcell hx HS
                have HXE := Lib.hid hxe
                clear hxe
                clear hcx
                go_wp2_with fail
                refine (heard_any w.heap.size w.heap.size self vm R (by omega) x hx _ q4).mono ?_
                rintro e x5 ⟨rfl, vm5, q5, m5⟩
                have rr5 := m5.rd rr4 hmr hap
                have hap5 : Apart (.slice pr R.length cr) vm5 := by
                  rcases m5.own with e | e
                  · rcases hap with h | h
                    · exact .inl h
                    · exact .inr (by rw [e]; exact h)
                  · cases hob : (Value.slice pr R.length cr).ownBlock with
                    | none => exact .inl hob
                    | some b => exact .inr (fun e2 => by have h1 := hrl b hob; have h2 := e b (by rw [← e2]; exact hob); omega)
                have B5 := m5.below BB4 BB4.size (Nat.le_refl _) (own_base q4.row)
                have hcell5 : x5.cell? ⟨ab, off + k, none⟩ = some (.int .u8 (x : Int)) := by
                  obtain ⟨p', cap', e, _, _, hcx, _⟩ := HV.out.below B5 (Nat.le_refl _)
                  cases e
                  obtain ⟨ab2, off2, e2, hc2⟩ := hcx k hkl
                  cases e2
                  have h0 : (l.getD k 0 : Nat) = x := by rw [getD_at l k hkl]; exact HXE.out
                  rw [h0] at hc2
                  exact hc2
                have hz5 := m5.size
                have hl5 : ∀ b, vm5.ownBlock = some b → b < x5.heap.size := fun b h => (q5.row.lt b h).2
                clear q4 rr4 m5 hap BB4 hcell
                go_wp2_with fail
                refine (rheard_any _ R (by omega) self x hx _ rr5).mono ?_
                rintro e x6 ⟨vr6, rfl, rr6, b6, hfr⟩
                have q6 := q5.below b6
                have B6 := Below.later B5 b6 B5.size
                have hz6 := b6.size
                have rrc := rr6
                obtain ⟨pr6, cr6, hv6, _⟩ := rrc
                subst hv6
                go_wp2_with fail
                go_roundw
                case rel =>
                  refine ⟨k + 1, vm5, by omega, by go_num, by rw [HS.out]; exact q6, by rw [HS.out]; exact rr6, ?_, ?_, ?_, B6⟩
                  · rcases hfr with e | e
                    · rw [e]; exact hmr
                    · exact fun h => by have := (e _ h.symm).1; have := B5.size; have := q5.blk.lt; omega
                  · rcases hfr with e | e
                    · rw [e]; exact hap5
                    · cases hob : (Value.slice pr6 (hd self R x).length cr6).ownBlock with
                      | none => exact .inl hob
                      | some b => exact .inr (fun e2 => by have h1 := (e b hob).1; have h2 := hl5 b (by rw [← e2]; exact hob); omega)
                  · rcases hfr with e | e
                    · rw [e]; exact fun b h => by have := hrl b h; omega
                    · exact fun b h => (e b h).2
                case measure => simp [intOf]; omega
              · have g3 : decide ((k : Int) < (l.length : Int)) = false := decide_eq_false (by omega)
                have g4 : decide (k < l.length) = false := decide_eq_false hkl
                go_wp2_with fail
                go_roundw
                case rel => exact ⟨k + 1, vm, by omega, by go_num, by rw [HRE.out (by omega)]; exact q4, by rw [HRE.out (by omega)]; exact rr4, hmr, hap, fun b h => by have := hrl b h; omega, BB4⟩
                case measure => simp [intOf]; omega
        · have g1 : decide ((k : Int) ≤ (l.length : Int)) = false := decide_eq_false (by omega)
          have g2 : decide (k ≤ l.length) = false := decide_eq_false hle
          go_wp2_with fail
          refine (wakes_any _).mono ?_
          rintro e w4 ⟨rfl, b4⟩
          go_wp2_with fail
          go_ret
          exact ⟨rfl, Below.later BB b4 BB.size⟩
theorem plays_open {H : Type} {enc : TypeId × Value → H} {base : Nat} {d1 : DataW H} {p1 : List MemPlace} (x : Int) (v : Value) (y : Int) (w : World) (hx : (Lit.int .u8 x).wf = true)
    (h1 : Value.okWide Try.prog w .any base 22 v) (t1 : DataW.Trod enc Try.prog w 0 (fun _ => true) true 22 v d1 p1) (hy : (Lit.int .u8 y).wf = true) :
    Calls Try.prog 4 #[.int .u8 x, v, .int .u8 y] w fun e w' => e = .returned (.bool true) ∧ Below w.heap.size w w' := by
  obtain ⟨l, hl⟩ := flat_u8s Try.underlying22 Try.underlying5 (by kernel_rfl) h1 t1
  have b1 := bounds_u8 hx
  have b2 := bounds_u8 hy
  obtain ⟨X, rfl⟩ := Int.eq_ofNat_of_zero_le b1.1
  obtain ⟨Y, rfl⟩ := Int.eq_ofNat_of_zero_le b2.1
  exact plays_walk X Y (by omega) (by omega) v l w hl
end Thr
end Go.Proofs.Ythhgcfklaakndaa
