/-
  Reading that goes well reads a thing's own bytes. Plain.
-/
import Derived.Test.YtdjddbidhaeekaaWirePure
import Derived.Test.YtdjddbidhaeekaaWireRead
import Derived.Test.YtdjddbidhaeekaaWireStr
namespace Go.Proofs.Ytdjddbidhaeekaa
open Go.RowKit Go.WideShapes
namespace Wire
theorem belowR_lt (s : R) (n : Nat) (h : 0 < n) : (belowR s n).1 < n := by
  unfold belowR
  split
  · exact h
  · split
    · assumption
    · exact h
theorem belowR_len' (s : R) (n : Nat) : (belowR s n).2.rest.length ≤ s.rest.length := by
  have := numR_len s
  unfold belowR
  split
  · exact this
  · split
    · exact this
    · simp
theorem strR_len' (s : R) (m : Nat) : (strR s m).2.rest.length ≤ s.rest.length := Nat.le_trans (takeR_len _ _) (Nat.le_trans (belR_len _ _ _) (numR_len s))
theorem badR_len (s : R) : (badR s).rest.length ≤ s.rest.length := by
  unfold badR
  split
  · simp
  · exact Nat.le_refl _
theorem below_numB (n : Nat) (h : n ≤ 4294967295) (r : List UInt8) : belowR ⟨numB n ++ r, 0⟩ 4294967296 = (n, ⟨r, 0⟩) := by
  unfold belowR
  rw [numR_numB n (by omega) r, if_neg (by simp), if_pos (by dsimp only; omega)]
theorem strR_own (s r : List UInt8) (m : Nat) (h : s.length ≤ m) (h2 : s.length < 18446744073709551616) : strR ⟨strB s ++ r, 0⟩ m = (s, ⟨r, 0⟩) := by
  unfold strR strB
  rw [List.append_assoc, numR_numB s.length h2 (s ++ r)]
  have hb : belR ⟨s ++ r, 0⟩ s.length m = (s.length, ⟨s ++ r, 0⟩) := by unfold belR; rw [if_neg (by simp), if_neg (by omega)]
  simp only [hb]
  exact take_append s r s.length rfl
theorem below_good (s : R) (n : Nat) (h : (belowR s n).2.e = 0) : s.e = 0 ∧ ∃ r, s.rest = numB (belowR s n).1 ++ r ∧ (belowR s n).2 = ⟨r, 0⟩ := by
  by_cases he : s.e = 0
  · refine ⟨he, ?_⟩
    rcases num_cases s he with ⟨e, h1, h2⟩ | ⟨m, r, h1, _, h2⟩
    · exfalso
      unfold belowR at h
      rw [h1] at h
      rw [if_pos (by rcases h2 with h2 | h2 <;> subst h2 <;> simp)] at h
      simp only at h
      omega
    · unfold belowR at h ⊢
      rw [h2] at h ⊢
      rw [if_neg (by simp)] at h ⊢
      by_cases hm : m < n
      · rw [if_pos hm] at h ⊢; exact ⟨r, h1, rfl⟩
      · rw [if_neg hm] at h; simp at h
  · exfalso
    unfold belowR at h
    rw [num_err s he, if_pos he] at h
    exact he h
theorem take_good (s : R) (n : Nat) (h : (takeR s n).2.e = 0) : s.e = 0 ∧ s.rest = (takeR s n).1 ++ (takeR s n).2.rest := by
  unfold takeR at h ⊢
  by_cases he : s.e = 0
  · rw [if_neg (by simp [he])] at h ⊢
    by_cases hl : s.rest.length < n
    · rw [if_pos hl] at h; simp at h
    · rw [if_neg hl]; exact ⟨he, by simp⟩
  · rw [if_pos he] at h; exact absurd h he
theorem take_len (s : R) (n : Nat) (h : (takeR s n).2.e = 0) : (takeR s n).1.length = n := by
  unfold takeR at h ⊢
  by_cases he : s.e = 0
  · rw [if_neg (by simp [he])] at h ⊢
    by_cases hl : s.rest.length < n
    · rw [if_pos hl] at h; simp at h
    · rw [if_neg hl]; simp; omega
  · rw [if_pos he] at h; exact absurd h he
theorem byte_good (s : R) (h : (byteR s).2.e = 0) : s.e = 0 ∧ s.rest = UInt8.ofNat (byteR s).1 :: (byteR s).2.rest := by
  have h1 := take_good s 1 h
  have h2 := take_len s 1 h
  refine ⟨h1.1, ?_⟩
  rw [h1.2]
  unfold byteR
  match hx : (takeR s 1).1, h2 with
  | [c], _ => simp
theorem str_good (s : R) (m : Nat) (h : (strR s m).2.e = 0) : s.e = 0 ∧ s.rest = strB (strR s m).1 ++ (strR s m).2.rest := by
  unfold strR at h ⊢
  have h1 := take_good _ _ h
  have h2 := take_len _ _ h
  generalize hb : belR (numR s).2 (numR s).1 m = B at h h1 h2 ⊢
  have hbe : B.2.e = 0 := h1.1
  by_cases he : s.e = 0
  · refine ⟨he, ?_⟩
    rcases num_cases s he with ⟨e, q1, q2⟩ | ⟨k, r, q1, _, q2⟩
    · exfalso
      unfold belR at hb
      rw [q1, if_pos (by rcases q2 with q2 | q2 <;> subst q2 <;> simp)] at hb
      subst hb
      simp only at hbe
      omega
    · unfold belR at hb
      rw [q2, if_neg (by simp)] at hb
      by_cases hm : m < k
      · rw [if_pos hm] at hb; subst hb; simp at hbe
      · rw [if_neg hm] at hb
        subst hb
        dsimp only at h1 h2 ⊢
        rw [q1, strB, h2, List.append_assoc, ← h1.2]
  · exfalso
    rw [num_err s he] at hb
    unfold belR at hb
    rw [if_pos he] at hb
    subst hb
    exact he hbe
theorem strR_le (s : R) (m : Nat) : (strR s m).1.length ≤ m := by
  have key : ∀ (s : R) n, (takeR s n).1.length ≤ n := by
    intro s n; unfold takeR; split
    · simp
    · split
      · simp
      · simp; omega
  unfold strR
  refine Nat.le_trans (key _ _) ?_
  unfold belR
  split
  · simp
  · split
    · simp
    · dsimp only; omega
theorem end_good (s : R) (h : (endR s).e = 0) : s.e = 0 ∧ s.rest = [] := by
  unfold endR at h
  split at h
  · simp at h
  · rename_i hl
    refine ⟨h, List.length_eq_zero_iff.1 (by omega)⟩
end Wire
end Go.Proofs.Ytdjddbidhaeekaa
