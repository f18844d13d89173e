/-
  Frames: plain.
-/
import Derived.Test.YtcmcdpoceeipbaaCrcPure
namespace Go.Proofs.Ytcmcdpoceeipbaa
namespace Fr
open Wire Crc
def frameB (s : List UInt8) : List UInt8 := numB s.length ++ (sumB s ++ s)
theorem frame_len (s : List UInt8) : (frameB s).length = (numB s.length).length + (8 + s.length) := by simp [frameB, sumB_len]
theorem frame_pos (s : List UInt8) : 0 < (frameB s).length := by rw [frame_len]; omega
theorem frame_le (s : List UInt8) : (frameB s).length ≤ s.length + 17 := by
  have := numB_le s.length
  rw [frame_len]; omega
def inR (r : List UInt8) (n : Nat) : List UInt8 := (r.drop 8).take n
/-- The first frame: its inside, how long it is, why there is none. -/
def frTake (s : List UInt8) : List UInt8 × Nat × Nat :=
  if (numR ⟨s, 0⟩).2.e ≠ 0 then ([], 0, (numR ⟨s, 0⟩).2.e) else
  if (numR ⟨s, 0⟩).1 = 0 ∨ 65536 < (numR ⟨s, 0⟩).1 then ([], 0, 4) else
  if (numR ⟨s, 0⟩).2.rest.length < 8 + (numR ⟨s, 0⟩).1 then ([], 0, 3) else
  if sumB (inR (numR ⟨s, 0⟩).2.rest (numR ⟨s, 0⟩).1) ≠ (numR ⟨s, 0⟩).2.rest.take 8 then ([], 0, 5) else
  (inR (numR ⟨s, 0⟩).2.rest (numR ⟨s, 0⟩).1, s.length - (numR ⟨s, 0⟩).2.rest.length + (8 + (numR ⟨s, 0⟩).1), 0)
theorem take_bad (s : List UInt8) (e : Nat) (h : numR ⟨s, 0⟩ = (0, ⟨[], e⟩)) (he : e ≠ 0) : frTake s = ([], 0, e) := by
  unfold frTake; rw [h, if_pos he]
theorem take_form (s r : List UInt8) (n : Nat) (h : numR ⟨s, 0⟩ = (n, ⟨r, 0⟩)) (hn : n = 0 ∨ 65536 < n) : frTake s = ([], 0, 4) := by
  unfold frTake; rw [h, if_neg (by simp), if_pos hn]
theorem take_cut (s r : List UInt8) (n : Nat) (h : numR ⟨s, 0⟩ = (n, ⟨r, 0⟩)) (hn : ¬ (n = 0 ∨ 65536 < n)) (hl : r.length < 8 + n) : frTake s = ([], 0, 3) := by
  unfold frTake; rw [h, if_neg (by simp), if_neg hn, if_pos hl]
theorem take_sum (s r : List UInt8) (n : Nat) (h : numR ⟨s, 0⟩ = (n, ⟨r, 0⟩)) (hn : ¬ (n = 0 ∨ 65536 < n)) (hl : ¬ r.length < 8 + n) (hs : sumB (inR r n) ≠ r.take 8) : frTake s = ([], 0, 5) := by
  unfold frTake; rw [h, if_neg (by simp), if_neg hn, if_neg hl, if_pos hs]
theorem take_whole (s r : List UInt8) (n : Nat) (h : numR ⟨s, 0⟩ = (n, ⟨r, 0⟩)) (hn : ¬ (n = 0 ∨ 65536 < n)) (hl : ¬ r.length < 8 + n) (hs : sumB (inR r n) = r.take 8) : frTake s = (inR r n, s.length - r.length + (8 + n), 0) := by
  unfold frTake; rw [h, if_neg (by simp), if_neg hn, if_neg hl, if_neg (by simpa using hs)]
theorem inR_len (r : List UInt8) (n : Nat) (h : ¬ r.length < 8 + n) : (inR r n).length = n := by simp [inR]; omega
/-- Where the number is read, the bytes are its frame's just if the checksum fits. -/
theorem in_frame (r : List UInt8) (n : Nat) (hl : ¬ r.length < 8 + n) : numB n ++ r = frameB (inR r n) ++ r.drop (8 + n) ↔ sumB (inR r n) = r.take 8 := by
  have hi := inR_len r n hl
  have hr : r = r.take 8 ++ (inR r n ++ r.drop (8 + n)) := by
    have h1 : (r.drop 8).drop n = r.drop (8 + n) := by rw [List.drop_drop]
    rw [inR, ← h1, List.take_append_drop, List.take_append_drop]
  have e1 : frameB (inR r n) ++ r.drop (8 + n) = numB n ++ (sumB (inR r n) ++ (inR r n ++ r.drop (8 + n))) := by
    rw [frameB, hi, List.append_assoc, List.append_assoc]
  rw [e1]
  constructor
  · intro h
    have h2 := List.append_cancel_left h
    have h3 := congrArg (List.take 8) h2
    rw [List.take_left' (sumB_len _)] at h3
    exact h3.symm
  · intro h
    rw [h, ← hr]
theorem good (s : List UInt8) (h : (frTake s).2.2 = 0) : s = frameB (frTake s).1 ++ s.drop (frTake s).2.1 ∧ (frTake s).2.1 = (frameB (frTake s).1).length ∧ 1 ≤ (frTake s).1.length ∧ (frTake s).1.length ≤ 65536 := by
  rcases num_cases ⟨s, 0⟩ rfl with ⟨e, h1, h2⟩ | ⟨n, r, h1, h3, h2⟩
  · rw [take_bad s e h1 (by omega)] at h; simp only at h; omega
  · dsimp only at h1
    by_cases hn : n = 0 ∨ 65536 < n
    · rw [take_form s r n h2 hn] at h; simp at h
    · by_cases hl : r.length < 8 + n
      · rw [take_cut s r n h2 hn hl] at h; simp at h
      · by_cases hs : sumB (inR r n) = r.take 8
        · rw [take_whole s r n h2 hn hl hs]
          have hi := inR_len r n hl
          have hlen : s.length = (numB n).length + r.length := by rw [h1, List.length_append]
          have e1 : s.length - r.length + (8 + n) = (numB n).length + (8 + n) := by omega
          have e2 : s.drop ((numB n).length + (8 + n)) = r.drop (8 + n) := by rw [h1, List.drop_append, List.drop_of_length_le (by omega), List.nil_append]; congr 1; omega
          dsimp only
          rw [e1, e2, frame_len, hi]
          exact ⟨h1.trans ((in_frame r n hl).2 hs), rfl, by omega, by omega⟩
        · rw [take_sum s r n h2 hn hl hs] at h; simp at h
theorem num_frame (x t : List UInt8) (h2 : x.length ≤ 65536) : numR ⟨frameB x ++ t, 0⟩ = (x.length, ⟨sumB x ++ (x ++ t), 0⟩) := by
  have e : frameB x ++ t = numB x.length ++ (sumB x ++ (x ++ t)) := by simp [frameB]
  rw [e]; exact numR_numB x.length (by omega) _
theorem in_own (c x t : List UInt8) (hc : c.length = 8) : inR (c ++ (x ++ t)) x.length = x ∧ (c ++ (x ++ t)).take 8 = c := by
  constructor
  · rw [inR, List.drop_left' hc]; simp
  · rw [List.take_left' hc]
theorem take_own (x t : List UInt8) (h1 : 1 ≤ x.length) (h2 : x.length ≤ 65536) : frTake (frameB x ++ t) = (x, (frameB x).length, 0) := by
  obtain ⟨e1, e2⟩ := in_own (sumB x) x t (sumB_len x)
  have hs := sumB_len x
  rw [take_whole _ _ _ (num_frame x t h2) (by omega) (by simp; omega) (by rw [e1, e2]), e1]
  congr 2
  have := frame_len x
  simp only [List.length_append]
  omega
/-- Another checksum, or another inside with this checksum. -/
theorem take_spoilt (c x t : List UInt8) (hc : c.length = 8) (h1 : 1 ≤ x.length) (h2 : x.length ≤ 65536) (h : sumB x ≠ c) : frTake (numB x.length ++ (c ++ (x ++ t))) = ([], 0, 5) := by
  obtain ⟨e1, e2⟩ := in_own c x t hc
  exact take_sum _ _ _ (numR_numB x.length (by omega) _) (by omega) (by simp; omega) (by rw [e1, e2]; exact h)
theorem num_part (n k : Nat) (h : n < 18446744073709551616) (hk : k < (numB n).length) : numR ⟨(numB n).take k, 0⟩ = (0, ⟨[], 3⟩) := by
  cases k with
  | zero => exact num_none
  | succ k =>
    by_cases h1 : n < 248
    · rw [numB_length, if_pos h1] at hk; omega
    · have w1 := wide_le n
      have hl : (beB (wide n) n).length = wide n := beB_length _ _
      have hc : (UInt8.ofNat (247 + wide n)).toNat = 247 + wide n := by rw [UInt8.toNat_ofNat']; omega
      rw [numB_length, if_neg h1] at hk
      rw [numB, if_neg h1, List.take_succ_cons]
      exact num_short _ _ (by rw [hc]; have := wide_pos n h (by omega); omega) (by rw [List.length_take, hc, hl]; omega)
theorem take_part (x : List UInt8) (k : Nat) (h1 : 1 ≤ x.length) (h2 : x.length ≤ 65536) (hk : k < (frameB x).length) : frTake ((frameB x).take k) = ([], 0, 3) := by
  by_cases h : k < (numB x.length).length
  · have e : (frameB x).take k = (numB x.length).take k := by rw [frameB, List.take_append_of_le_length (by omega)]
    rw [e]
    exact take_bad _ 3 (num_part x.length k (by omega) h) (by decide)
  · have e : (frameB x).take k = numB x.length ++ (sumB x ++ x).take (k - (numB x.length).length) := by
      rw [frameB, List.take_append, List.take_of_length_le (by omega)]
    rw [frame_len] at hk
    rw [e]
    exact take_cut _ _ _ (numR_numB x.length (by omega) _) (by omega) (by rw [List.length_take]; omega)
theorem take_err (s : List UInt8) (h : (frTake s).2.2 ≠ 0) : (frTake s).1 = [] ∧ (frTake s).2.1 = 0 ∧ ((frTake s).2.2 = 3 ∨ (frTake s).2.2 = 4 ∨ (frTake s).2.2 = 5) := by
  rcases num_cases ⟨s, 0⟩ rfl with ⟨e, h1, h2⟩ | ⟨n, r, h1, h3, h2⟩
  · rw [take_bad s e h1 (by omega)]; exact ⟨rfl, rfl, by dsimp only; omega⟩
  · by_cases hn : n = 0 ∨ 65536 < n
    · rw [take_form s r n h2 hn]; exact ⟨rfl, rfl, by dsimp only; omega⟩
    · by_cases hl : r.length < 8 + n
      · rw [take_cut s r n h2 hn hl]; exact ⟨rfl, rfl, by dsimp only; omega⟩
      · by_cases hs : sumB (inR r n) = r.take 8
        · rw [take_whole s r n h2 hn hl hs] at h; simp at h
        · rw [take_sum s r n h2 hn hl hs]; exact ⟨rfl, rfl, by dsimp only; omega⟩

/-- All frames of what stands at a place: where each begins and its inside; where they end, and why. -/
def frP (t : List UInt8) (p : Nat) : List (Nat × List UInt8) × Nat × Nat :=
  if h : t ≠ [] ∧ (frTake t).2.2 = 0 then
    ((p, (frTake t).1) :: (frP (t.drop (frTake t).2.1) (p + (frTake t).2.1)).1, (frP (t.drop (frTake t).2.1) (p + (frTake t).2.1)).2)
  else ([], p, if t = [] then 0 else (frTake t).2.2)
termination_by t.length
decreasing_by
  all_goals
    have h1 := (good t h.2).2.1
    have h2 := frame_pos (frTake t).1
    have h3 := List.length_pos_iff.2 h.1
    rw [List.length_drop]; omega
theorem frP_nil (p : Nat) : frP [] p = ([], p, 0) := by rw [frP]; simp
theorem frP_stop (t : List UInt8) (p : Nat) (h : (frTake t).2.2 ≠ 0) (h0 : t ≠ []) : frP t p = ([], p, (frTake t).2.2) := by
  rw [frP, dif_neg (fun e => h e.2), if_neg h0]
theorem frP_go (t : List UInt8) (p : Nat) (h : (frTake t).2.2 = 0) (h0 : t ≠ []) : frP t p = ((p, (frTake t).1) :: (frP (t.drop (frTake t).2.1) (p + (frTake t).2.1)).1, (frP (t.drop (frTake t).2.1) (p + (frTake t).2.1)).2) := by
  rw [frP, dif_pos ⟨h0, h⟩]
theorem frP_own (x t : List UInt8) (p : Nat) (h1 : 1 ≤ x.length) (h2 : x.length ≤ 65536) : frP (frameB x ++ t) p = ((p, x) :: (frP t (p + (frameB x).length)).1, (frP t (p + (frameB x).length)).2) := by
  have hg := take_own x t h1 h2
  have hne : frameB x ++ t ≠ [] := by have := frame_pos x; intro e; rw [List.append_eq_nil_iff] at e; rw [e.1] at this; simp at this
  rw [frP_go _ _ (by rw [hg]) hne, hg]
  dsimp only
  rw [List.drop_left]
/-- What is told, part by part: where it begins and ends, its inside, and the error. -/
structure Y where
  p : Nat
  q : Nat
  x : List UInt8
  e : Nat
def frY (t : List UInt8) (p : Nat) : List Y := (frP t p).1.map (fun a => ⟨a.1, a.1 + (frameB a.2).length, a.2, 0⟩) ++ if (frP t p).2.2 = 0 then [] else [⟨(frP t p).2.1, (frP t p).2.1, [], (frP t p).2.2⟩]
theorem frY_nil (p : Nat) : frY [] p = [] := by rw [frY, frP_nil]; simp
theorem frY_stop (t : List UInt8) (p : Nat) (h : (frTake t).2.2 ≠ 0) (h0 : t ≠ []) : frY t p = [⟨p, p, [], (frTake t).2.2⟩] := by
  rw [frY, frP_stop t p h h0]; simp [h]
theorem frY_go (t : List UInt8) (p : Nat) (h : (frTake t).2.2 = 0) (h0 : t ≠ []) : frY t p = ⟨p, p + (frTake t).2.1, (frTake t).1, 0⟩ :: frY (t.drop (frTake t).2.1) (p + (frTake t).2.1) := by
  rw [frY, frP_go t p h h0, frY, (good t h).2.1]
  simp
theorem frP_le (t : List UInt8) (p : Nat) : p ≤ (frP t p).2.1 ∧ (frP t p).2.1 ≤ p + t.length := by
  by_cases h0 : t = []
  · rw [h0, frP_nil]; simp
  · by_cases h : (frTake t).2.2 = 0
    · have hg := good t h
      have h2 := frame_pos (frTake t).1
      have h3 := List.length_pos_iff.2 h0
      have h4 := congrArg List.length hg.1
      rw [List.length_append, List.length_drop] at h4
      have ih := frP_le (t.drop (frTake t).2.1) (p + (frTake t).2.1)
      rw [List.length_drop] at ih
      rw [frP_go t p h h0]
      dsimp only
      omega
    · rw [frP_stop t p h h0]; simp
termination_by t.length
decreasing_by
  rw [List.length_drop]; omega
theorem frP_err (t : List UInt8) (p : Nat) : (frP t p).2.2 = 0 ∨ (frP t p).2.2 = 3 ∨ (frP t p).2.2 = 4 ∨ (frP t p).2.2 = 5 := by
  by_cases h0 : t = []
  · rw [h0, frP_nil]; simp
  · by_cases h : (frTake t).2.2 = 0
    · have hg := good t h
      have h2 := frame_pos (frTake t).1
      have h3 := List.length_pos_iff.2 h0
      have ih := frP_err (t.drop (frTake t).2.1) (p + (frTake t).2.1)
      rw [frP_go t p h h0]
      exact ih
    · rw [frP_stop t p h h0]; exact .inr (take_err t h).2.2
termination_by t.length
decreasing_by
  rw [List.length_drop]; omega
end Fr
end Go.Proofs.Ytcmcdpoceeipbaa
