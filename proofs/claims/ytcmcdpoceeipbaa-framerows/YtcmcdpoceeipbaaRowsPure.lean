/-
  Rows of frames, cut, and with a bit turned: plain.
-/
import Derived.Test.YtcmcdpoceeipbaaFramePure
namespace Go.Proofs.Ytcmcdpoceeipbaa
namespace Fr
open Wire Crc
def flat (l : List (List UInt8)) : List UInt8 := l.flatMap frameB
def good200 (l : List (List UInt8)) : Prop := ∀ x ∈ l, 1 ≤ x.length ∧ x.length ≤ 200
/-- Where the first k frames end. -/
def endAt (l : List (List UInt8)) (k : Nat) : Nat := (flat (l.take k)).length
theorem endAt_zero (l : List (List UInt8)) : endAt l 0 = 0 := rfl
theorem endAt_succ (l : List (List UInt8)) (k : Nat) (h : k < l.length) : endAt l (k + 1) = endAt l k + (frameB l[k]).length := by
  rw [endAt, endAt, flat, flat, List.take_succ_eq_append_getElem h, List.flatMap_append, List.length_append]; simp
theorem endAt_all (l : List (List UInt8)) (k : Nat) (h : l.length ≤ k) : endAt l k = (flat l).length := by rw [endAt, List.take_of_length_le h]
theorem flat_split (l : List (List UInt8)) (k : Nat) (h : k < l.length) : flat l = flat (l.take k) ++ (frameB l[k] ++ flat (l.drop (k + 1))) := by
  have e : l = l.take k ++ l[k] :: l.drop (k + 1) := by rw [← List.drop_eq_getElem_cons h, List.take_append_drop]
  calc flat l = flat (l.take k ++ l[k] :: l.drop (k + 1)) := congrArg flat e
    _ = _ := by unfold flat; rw [List.flatMap_append, List.flatMap_cons]
theorem endAt_mono (l : List (List UInt8)) (k : Nat) : endAt l k ≤ (flat l).length := by
  by_cases h : k < l.length
  · rw [flat_split l k h, List.length_append]; exact Nat.le_add_right _ _
  · rw [endAt_all l k (by omega)]; exact Nat.le_refl _
theorem endAt_le (l : List (List UInt8)) (hl : good200 l) (k : Nat) : endAt l k ≤ 217 * k := by
  induction k with
  | zero => simp [endAt_zero]
  | succ k ih =>
    by_cases h : k < l.length
    · rw [endAt_succ l k h]
      have h1 := frame_le l[k]
      have h2 := (hl l[k] (List.getElem_mem h)).2
      omega
    · rw [endAt_all l (k + 1) (by omega), ← endAt_all l k (by omega)]; omega
theorem frP_rows (l : List (List UInt8)) (hl : good200 l) (t : List UInt8) (p : Nat) : (frP (flat l ++ t) p).1.map (·.2) = l ++ (frP t (p + (flat l).length)).1.map (·.2) ∧ (frP (flat l ++ t) p).2 = (frP t (p + (flat l).length)).2 := by
  induction l generalizing p with
  | nil => simp [flat]
  | cons x l ih =>
    have h1 := hl x (by simp)
    have h2 := ih (fun y hy => hl y (by simp [hy])) (p + (frameB x).length)
    have e : flat (x :: l) ++ t = frameB x ++ (flat l ++ t) := by simp [flat]
    have e2 : p + (flat (x :: l)).length = p + (frameB x).length + (flat l).length := by simp [flat]; omega
    rw [e, frP_own x _ p h1.1 (by omega), e2]
    exact ⟨by rw [List.map_cons, h2.1]; simp, h2.2⟩
theorem rows_cut (l : List (List UInt8)) (hl : good200 l) (n K : Nat) (hn : n ≤ (flat l).length) (hK : K ≤ l.length) (h1 : endAt l K ≤ n) (h2 : K < l.length → n < endAt l (K + 1)) :
    (frP ((flat l).take n) 0).1.map (·.2) = l.take K ∧ (frP ((flat l).take n) 0).2 = (endAt l K, if endAt l K = n then 0 else 3) := by
  have hg : good200 (l.take K) := fun x hx => hl x (List.mem_of_mem_take hx)
  by_cases hlt : K < l.length
  · have e : (flat l).take n = flat (l.take K) ++ (frameB l[K]).take (n - endAt l K) := by
      have h3 := h2 hlt
      rw [endAt_succ l K hlt] at h3
      rw [flat_split l K hlt, List.take_append, List.take_of_length_le (by unfold endAt at h1; exact h1), ← endAt, List.take_append_of_le_length (by omega)]
    obtain ⟨g1, g2⟩ := frP_rows (l.take K) hg ((frameB l[K]).take (n - endAt l K)) 0
    rw [e, g1, g2, Nat.zero_add, ← endAt]
    have h3 := h2 hlt
    rw [endAt_succ l K hlt] at h3
    by_cases h0 : endAt l K = n
    · rw [h0, Nat.sub_self, List.take_zero, frP_nil]; simp
    · have hp := hl l[K] (List.getElem_mem hlt)
      have ht := take_part l[K] (n - endAt l K) hp.1 (by omega) (by omega)
      have hne : (frameB l[K]).take (n - endAt l K) ≠ [] := by
        intro h
        have := congrArg List.length h
        rw [List.length_take] at this
        have h5 := frame_pos l[K]
        rw [List.length_nil] at this
        omega
      rw [frP_stop _ _ (by rw [ht]; simp) hne, ht, if_neg h0]; simp
  · have hKl : K = l.length := by omega
    have hall := endAt_all l K (by omega)
    have e : (flat l).take n = flat l ++ [] := by rw [List.take_of_length_le (by omega), List.append_nil]
    obtain ⟨g1, g2⟩ := frP_rows l hl [] 0
    rw [e, g1, g2, frP_nil, if_pos (by omega), List.take_of_length_le (by omega), hall]
    simp
/-- One byte behind the number is another. -/
theorem spoilt_take (x t : List UInt8) (q : Nat) (d : UInt8) (h1 : 1 ≤ x.length) (h2 : x.length ≤ 200) (hq : q < 8 + x.length) (hd : (sumB x ++ x)[q]? ≠ some d) : frTake (numB x.length ++ ((sumB x ++ x).set q d ++ t)) = ([], 0, 5) := by
  have hs := sumB_len x
  by_cases h8 : q < 8
  · rw [List.set_append_left _ _ (by omega), List.append_assoc]
    refine take_spoilt ((sumB x).set q d) x t (by rw [List.length_set]; exact hs) h1 (by omega) (fun h => ?_)
    have h3 := congrArg (·[q]?) h
    have h4 : ((sumB x).set q d)[q]? = some d := by rw [List.getElem?_set_self]; omega
    rw [List.getElem?_append_left (by omega)] at hd
    exact hd (h3.trans h4)
  · rw [List.set_append_right _ _ (by omega), hs, List.append_assoc]
    obtain ⟨k, hk⟩ : ∃ k, q - 8 = k := ⟨_, rfl⟩
    have hkl : k < x.length := by omega
    rw [hk]
    have hlen : (x.set k d).length = x.length := List.length_set
    have := take_spoilt (sumB x) (x.set k d) t hs (by omega) (by omega) (fun h => ?_)
    · rw [hlen] at this; exact this
    · have h4 := sumB_inj _ _ h
      have e1 : x.set k d = x.take k ++ d :: x.drop (k + 1) := List.set_eq_take_append_cons_drop .. |>.trans (by rw [if_pos hkl])
      have e2 : x = x.take k ++ x[k] :: x.drop (k + 1) := by rw [← List.drop_eq_getElem_cons hkl, List.take_append_drop]
      rw [e1] at h4
      have h5 := sumR_byte (x.take k) (x.drop (k + 1)) d x[k] (h4.trans (congrArg sumR e2))
      apply hd
      rw [List.getElem?_append_right (by omega), hs, hk, List.getElem?_eq_getElem hkl, h5]
theorem rows_spoilt (l : List (List UInt8)) (hl : good200 l) (i q : Nat) (hi : i < l.length) (hq : q < 8 + l[i].length) (d : UInt8) (hd : (flat l)[endAt l (i + 1) - l[i].length - 8 + q]? ≠ some d) :
    (frP ((flat l).set (endAt l (i + 1) - l[i].length - 8 + q) d) 0).1.map (·.2) = l.take i ∧ (frP ((flat l).set (endAt l (i + 1) - l[i].length - 8 + q) d) 0).2 = (endAt l i, 5) := by
  have hg : good200 (l.take i) := fun x hx => hl x (List.mem_of_mem_take hx)
  have hp := hl l[i] (List.getElem_mem hi)
  have hs := sumB_len l[i]
  have hfl := frame_len l[i]
  have hidx : endAt l (i + 1) - l[i].length - 8 + q = endAt l i + ((numB l[i].length).length + q) := by rw [endAt_succ l i hi, hfl]; omega
  rw [hidx] at hd ⊢
  have hsplit := flat_split l i hi
  have e0 : (flat (l.take i)).length = endAt l i := rfl
  have e1 : frameB l[i] ++ flat (l.drop (i + 1)) = numB l[i].length ++ ((sumB l[i] ++ l[i]) ++ flat (l.drop (i + 1))) := by simp [frameB]
  rw [hsplit, e1] at hd ⊢
  rw [List.getElem?_append_right (by omega), e0, Nat.add_sub_cancel_left, List.getElem?_append_right (by omega), Nat.add_sub_cancel_left, List.getElem?_append_left (by simp; omega)] at hd
  rw [List.set_append_right _ _ (by omega), e0, Nat.add_sub_cancel_left, List.set_append_right _ _ (by omega), Nat.add_sub_cancel_left, List.set_append_left _ _ (by simp; omega)]
  have ht := spoilt_take l[i] (flat (l.drop (i + 1))) q d hp.1 hp.2 hq hd
  obtain ⟨g1, g2⟩ := frP_rows (l.take i) hg (numB l[i].length ++ ((sumB l[i] ++ l[i]).set q d ++ flat (l.drop (i + 1)))) 0
  have hne : numB l[i].length ++ ((sumB l[i] ++ l[i]).set q d ++ flat (l.drop (i + 1))) ≠ [] := by
    intro h
    have := numB_pos l[i].length
    rw [List.append_eq_nil_iff] at h
    rw [h.1] at this; simp at this
  rw [g1, g2, frP_stop _ _ (by rw [ht]; simp) hne, ht, Nat.zero_add, e0]
  simp
end Fr
end Go.Proofs.Ytcmcdpoceeipbaa
