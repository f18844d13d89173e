/-
  What the statements of session share: rows of what was kept, great ones, the table that is known.
-/
import Derived.Test.YtidgeljkihamhaaSesKeep
import Derived.Test.YtidgeljkihamhaaFlat
import Derived.Deep.QuietTactic
import Derived.BigQuiet
namespace Go.Proofs.Ytidgeljkihamhaa
open Go.RowKit
namespace Ses
/-- What was kept: a client, a number, a reply. -/
structure K where
  c : Nat
  q : Nat
  code : Nat
  t : ByteArray
def K.ok (x : K) : Prop := x.c ≤ 255 ∧ x.q ≤ 4294967295 ∧ x.code ≤ 255 ∧ x.t.size ≤ 9223372036854775807
def keptV (x : K) : List Value := [.int .u8 x.c, .int .u32 x.q, .int .u8 x.code, .string x.t]
def keptVs (l : List K) : List Value := l.flatMap keptV
theorem keptVs_length (l : List K) : (keptVs l).length = l.length * 4 := by
  induction l with
  | nil => rfl
  | cons a l ih => show (keptV a ++ keptVs l).length = _; rw [List.length_append, ih]; simp [keptV]; omega
theorem keptVs_get (l : List K) (i j : Nat) (hi : i < l.length) (hj : j < 4) : (keptVs l)[i * 4 + j]? = (keptV l[i])[j]? := by
  induction l generalizing i with
  | nil => simp at hi
  | cons a l ih =>
    cases i with
    | zero =>
      show (keptV a ++ keptVs l)[0 * 4 + j]? = _
      rw [List.getElem?_append_left (by simp [keptV]; omega)]; simp
    | succ i =>
      show (keptV a ++ keptVs l)[(i + 1) * 4 + j]? = _
      rw [List.getElem?_append_right (by simp [keptV]; omega)]
      have : (i + 1) * 4 + j - (keptV a).length = i * 4 + j := by simp [keptV]; omega
      rw [this, ih i (by simpa using hi)]; simp
def RdK (w : World) (v : Value) (l : List K) : Prop := RdV w v l.length (keptVs l) ∧ ∀ x ∈ l, x.ok
theorem RdK.below {w w' : World} {v : Value} {l : List K} {B : Nat} (h : RdK w v l) (hb : Below B w w') (hB : w.heap.size ≤ B) : RdK w' v l := ⟨h.1.below hb hB, h.2⟩
/-- One of them, in memory. -/
theorem RdK.at {w : World} {p : Option Addr} {n cap : Nat} {l : List K} (h : RdK w (.slice p n cap) l) (i : Nat) (hi : i < l.length) :
    ∃ b off, p = some ⟨b, off, none⟩ ∧ w.cell? ⟨b, off + i * 4, none⟩ = some (.int .u8 l[i].c) ∧ w.cell? ⟨b, off + i * 4 + 1, none⟩ = some (.int .u32 l[i].q) ∧
      w.cell? ⟨b, off + i * 4 + 2, none⟩ = some (.int .u8 l[i].code) ∧ w.cell? ⟨b, off + i * 4 + 3, none⟩ = some (.string l[i].t) := by
  obtain ⟨⟨p', cap', e, _, hc, _⟩, _⟩ := h
  cases e
  obtain ⟨b, off, rfl, h0⟩ := hc (i * 4 + 0) _ (by rw [keptVs_get l i 0 hi (by decide)]; rfl)
  obtain ⟨_, _, e1, h1⟩ := hc (i * 4 + 1) _ (by rw [keptVs_get l i 1 hi (by decide)]; rfl)
  obtain ⟨_, _, e2, h2⟩ := hc (i * 4 + 2) _ (by rw [keptVs_get l i 2 hi (by decide)]; rfl)
  obtain ⟨_, _, e3, h3⟩ := hc (i * 4 + 3) _ (by rw [keptVs_get l i 3 hi (by decide)]; rfl)
  cases e1; cases e2; cases e3
  exact ⟨b, off, rfl, h0, h1, h2, h3⟩
def greatK (l : List K) : Bool := decide (200 < l.length) || l.any fun x => decide (200 < x.t.size)
theorem great_some (l : List K) (h : greatK l = false) : l.length ≤ 200 ∧ ∀ x ∈ l, x.t.size ≤ 200 := by
  simp only [greatK, Bool.or_eq_false_iff, decide_eq_false_iff_not, List.any_eq_false, decide_eq_true_eq] at h
  exact ⟨by omega, fun x hx => by have := h.2 x hx; omega⟩
set_option maxHeartbeats 1000000 in
theorem great_any (v : Value) (l : List K) (w : World) (hv : RdK w v l) :
    Calls Try.prog 7 #[v] w fun e w' => e = .returned (.bool (greatK l)) ∧ w = w' := by
  have HV := Lib.hid hv
  obtain ⟨⟨p, cap, rfl, hm, _⟩, hok⟩ := hv
  have HO := Lib.hid hok
  clear hok
  by_cases hlen : 200 < l.length
  · have h : (200 : Int) < (l.length : Int) := by omega
    have H := Lib.hid (show greatK l = true by rw [greatK, decide_eq_true hlen]; rfl)
    go_enter Try.func7, Try.ntmps7
    go_wp2
    go_ret
    exact ⟨by rw [H.out]; rfl, rfl⟩
  · have h : ¬ (200 : Int) < (l.length : Int) := by omega
    go_enter Try.func7, Try.ntmps7
    go_wp2
    go_loop [3] (fun i => ∃ k : Nat, k ≤ l.length ∧ i = .int .i64 k ∧ ∀ x ∈ l.take k, x.t.size ≤ 200) (fun i => l.length - (intOf i).toNat)
    case atStart => exact ⟨0, Nat.zero_le _, rfl, by simp⟩
    case round =>
      obtain ⟨k, hk, rfl, hne⟩ := hrel
      by_cases hlt : k < l.length
      · obtain ⟨b, off, rfl, _, _, _, h3⟩ := HV.out.at k hlt
        have HT := Lib.hid (take_snoc l k hlt)
        have hm2 : l[k] ∈ l := List.getElem_mem hlt
        have hsz := (HO.out _ hm2).2.2.2
        generalize l[k] = x at h3 HT hm2 hsz
        have HN := Lib.hid hne
        clear hne
        by_cases hx : 200 < x.t.size
        · have H := Lib.hid (show greatK l = true by rw [greatK, List.any_eq_true.2 ⟨x, hm2, by simpa using hx⟩, Bool.or_true])
          have hxi : (200 : Int) < (x.t.size : Int) := by omega
          clear hm2
          go_wp2
          go_ret
          exact ⟨by rw [H.out]; rfl, rfl⟩
        · have hxi : ¬ (200 : Int) < (x.t.size : Int) := by omega
          clear hm2
          go_wp2
          go_round
          case rel => exact ⟨k + 1, by omega, by go_num, by rw [HT.out]; intro y hy; rcases List.mem_append.1 hy with h | h; exact HN.out y h; simp at h; subst h; omega⟩
          case measure => simp [intOf]; omega
      · have H := Lib.hid (show greatK l = false by
          rw [List.take_of_length_le (by omega)] at hne
          rw [greatK, decide_eq_false hlen, Bool.false_or, List.any_eq_false]
          intro x hx; have := hne x hx; simp; omega)
        clear hne
        go_wp2
        go_ret
        exact ⟨by rw [H.out]; rfl, rfl⟩
end Ses
end Go.Proofs.Ytidgeljkihamhaa
