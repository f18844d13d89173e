/-
  What WireBack says, in plain Lean: things put one behind the other are read; with the last byte gone the reader ends too soon.
-/
import Derived.Test.YteilmkknedgmpaaWirePure
namespace Go.Proofs.Yteilmkknedgmpaa
namespace Wire
structure It where
  text : Bool
  n : Nat
  s : List UInt8
def It.ok (x : It) : Prop := x.n < 18446744073709551616 ∧ x.s.length ≤ 100
def itB (x : It) : List UInt8 := if x.text = true then strB x.s else numB x.n
def itsB : List It → List UInt8
  | [] => []
  | x :: l => itB x ++ itsB l
theorem itB_pos (x : It) : 0 < (itB x).length := by
  unfold itB; split
  · unfold strB; rw [List.length_append]; have := numB_pos x.s.length; omega
  · exact numB_pos _
theorem itB_le (x : It) (h : x.s.length ≤ 100) : (itB x).length ≤ 109 := by
  unfold itB; split
  · unfold strB; rw [List.length_append]; have := numB_le x.s.length; omega
  · have := numB_le x.n; omega
theorem itsB_append (a b : List It) : itsB (a ++ b) = itsB a ++ itsB b := by
  induction a with
  | nil => rfl
  | cons x a ih => simp [itsB, ih]
theorem itsB_take (l : List It) (k : Nat) (h : k < l.length) : itsB (l.take (k + 1)) = itsB (l.take k) ++ itB l[k] := by
  rw [List.take_succ_eq_append_getElem h, itsB_append]; simp [itsB]
theorem itsB_drop (l : List It) (k : Nat) (h : k < l.length) : itsB (l.drop k) = itB l[k] ++ itsB (l.drop (k + 1)) := by
  rw [List.drop_eq_getElem_cons h]; rfl
theorem itsB_ge (l : List It) : l.length ≤ (itsB l).length := by
  induction l with
  | nil => simp [itsB]
  | cons x l ih => simp only [itsB, List.length_cons, List.length_append]; have := itB_pos x; omega
theorem itsB_le (l : List It) (h : ∀ x ∈ l, x.s.length ≤ 100) : (itsB l).length ≤ 109 * l.length := by
  induction l with
  | nil => simp [itsB]
  | cons x l ih =>
    have h1 := ih (fun y hy => h y (by simp [hy]))
    have h2 := itB_le x (h x (by simp))
    simp only [itsB, List.length_cons, List.length_append]; omega
theorem strR_strB (s r : List UInt8) (m : Nat) (h : s.length ≤ m) (h2 : s.length < 18446744073709551616) : strR ⟨strB s ++ r, 0⟩ m = (s, ⟨r, 0⟩) := by
  unfold strR strB
  rw [List.append_assoc, numR_numB s.length h2 (s ++ r)]
  have hb : belR ⟨s ++ r, 0⟩ s.length m = (s.length, ⟨s ++ r, 0⟩) := by unfold belR; rw [if_neg (by simp), if_neg (by omega)]
  simp only [hb]
  exact take_append s r s.length rfl
theorem num_less (n : Nat) (h : n < 18446744073709551616) : numR ⟨(numB n).dropLast, 0⟩ = (0, ⟨[], 3⟩) := by
  unfold numB
  split
  · exact num_none
  · rename_i h1
    have w1 := wide_le n
    have w2 := wide_pos n h (by omega)
    have hl : (beB (wide n) n).length = wide n := beB_length _ _
    have hne : beB (wide n) n ≠ [] := fun e => by rw [e] at hl; simp at hl; omega
    rw [List.dropLast_cons_of_ne_nil hne]
    have hc : (UInt8.ofNat (247 + wide n)).toNat = 247 + wide n := by rw [UInt8.toNat_ofNat']; omega
    refine num_short _ _ (by rw [hc]; omega) (by rw [List.length_dropLast, hc, hl]; omega)
theorem str_less (s : List UInt8) (m : Nat) (h : s.length ≤ m) (h2 : s.length < 18446744073709551616) : strR ⟨(strB s).dropLast, 0⟩ m = ([], ⟨[], 3⟩) := by
  rcases List.eq_nil_or_concat s with rfl | ⟨t, c, rfl⟩
  · unfold strR
    have e : (strB []).dropLast = (numB 0).dropLast := by simp [strB]
    rw [e, num_less 0 (by omega)]
    rfl
  · have e : (strB (t ++ [c])).dropLast = numB (t ++ [c]).length ++ t := by
      unfold strB; rw [← List.append_assoc, List.dropLast_concat]
    rw [List.concat_eq_append] at *
    unfold strR
    rw [e, numR_numB _ h2 t]
    have hb : belR ⟨t, 0⟩ (t ++ [c]).length m = ((t ++ [c]).length, ⟨t, 0⟩) := by unfold belR; rw [if_neg (by simp), if_neg (by omega)]
    simp only [hb]
    exact take_short _ _ (by simp)
/-- The reader of the bytes less one, behind k things. -/
def lessR (l : List It) (k : Nat) : R := if k < l.length then ⟨(itsB (l.drop k)).dropLast, 0⟩ else ⟨[], 3⟩
theorem less_drop (l : List It) (k : Nat) (h : k + 1 < l.length) : (itsB (l.drop k)).dropLast = itB l[k] ++ (itsB (l.drop (k + 1))).dropLast := by
  rw [itsB_drop l k (by omega)]
  refine List.dropLast_append_of_ne_nil (fun e => ?_)
  have := itsB_ge (l.drop (k + 1))
  rw [e, List.length_drop] at this; simp at this; omega
theorem less_last (l : List It) (k : Nat) (h : k < l.length) (h1 : ¬ k + 1 < l.length) : itsB (l.drop k) = itB l[k] := by
  rw [itsB_drop l k h, List.drop_of_length_le (by omega)]; simp [itsB]
theorem less_str (l : List It) (k : Nat) (h : k < l.length) (ht : l[k].text = true) (hs : l[k].s.length ≤ 100) : (strR (lessR l k) 100).2 = lessR l (k + 1) := by
  unfold lessR
  rw [if_pos h]
  by_cases h1 : k + 1 < l.length
  · rw [if_pos h1, less_drop l k h1, itB, if_pos ht, strR_strB _ _ _ hs (by omega)]
  · rw [if_neg h1, less_last l k h h1, itB, if_pos ht, str_less _ _ hs (by omega)]
theorem less_num (l : List It) (k : Nat) (h : k < l.length) (ht : l[k].text = false) (hn : l[k].n < 18446744073709551616) : (numR (lessR l k)).2 = lessR l (k + 1) := by
  unfold lessR
  rw [if_pos h]
  by_cases h1 : k + 1 < l.length
  · rw [if_pos h1, less_drop l k h1, itB, if_neg (by simp [ht]), numR_numB _ hn]
  · rw [if_neg h1, less_last l k h h1, itB, if_neg (by simp [ht]), num_less _ hn]
theorem less_len (l : List It) (h : ∀ x ∈ l, x.s.length ≤ 100) (k : Nat) : (lessR l k).rest.length ≤ 109 * l.length := by
  unfold lessR; split
  · have := itsB_le (l.drop k) (fun x hx => h x (List.mem_of_mem_drop hx))
    simp only [List.length_dropLast, List.length_drop] at *
    omega
  · simp
end Wire
end Go.Proofs.Yteilmkknedgmpaa
