/-
  What SessionBack says, in plain Lean: a table's bytes are read as it; bytes read wholly are a table's own.
-/
import Derived.Test.YtidgeljkihamhaaSesTake
import Derived.Test.YtidgeljkihamhaaWireMore
namespace Go.Proofs.Ytidgeljkihamhaa
open Go.RowKit Go.WideShapes
namespace Ses
open Wire
/-- A table that may be: its texts are short, and who did nothing has nothing. -/
def fair (T : Nat → L) : Prop := ∀ i < 4, (T i).q ≤ 4294967295 ∧ (T i).c ≤ 3 ∧ (T i).t.size ≤ 64 ∧ ((T i).q = 0 → T i = zero)
def listK (T : Nat → L) : Nat → List K
  | 0 => []
  | k + 1 => if (T k).q = 0 then listK T k else listK T k ++ [⟨k, (T k).q, (T k).c, (T k).t⟩]
theorem listK_c (T : Nat → L) : ∀ k, ∀ x ∈ listK T k, x.c < k
  | 0 => by simp [listK]
  | k + 1 => by
    have h := listK_c T k
    unfold listK
    split
    · intro x hx; exact Nat.lt_succ_of_lt (h x hx)
    · intro x hx
      rcases List.mem_append.1 hx with h1 | h1
      · exact Nat.lt_succ_of_lt (h x h1)
      · rw [List.mem_singleton] at h1
        rw [h1]; exact Nat.lt_succ_self k
theorem tabK_list (T : Nat → L) (hT : fair T) : ∀ k, k ≤ 4 → ∀ i < k, tabK (listK T k) i = T i
  | 0, _, i, hi => by omega
  | k + 1, hk, i, hi => by
    have ih := tabK_list T hT k (by omega)
    obtain ⟨f1, f2, f3, f4⟩ := hT k (by omega)
    unfold listK
    split
    · rename_i h0
      by_cases e : i = k
      · subst e
        have hn := last_none (listK T i) i (fun x hx e => by have := listK_c T i x hx; omega)
        rw [f4 h0]; unfold tabK; rw [hn]; rfl
      · exact ih i (by omega)
    · by_cases e : i = k
      · subst e; simp only [tabK, last_snoc, if_true]
      · rw [← ih i (by omega)]; simp only [tabK, last_snoc, if_neg (show k ≠ i from fun h => e h.symm)]
theorem bs_own (t : ByteArray) : bs t.data.toList = t := bs_list t
theorem below_numB (n : Nat) (h : n ≤ 4294967295) (r : List UInt8) : belowR ⟨numB n ++ r, 0⟩ 4294967296 = (n, ⟨r, 0⟩) := by
  unfold belowR
  rw [numR_numB n (by omega) r, if_neg (by simp), if_pos (by dsimp only; omega)]
theorem strR_own (s r : List UInt8) (m : Nat) (h : s.length ≤ m) (h2 : s.length < 18446744073709551616) : strR ⟨strB s ++ r, 0⟩ m = (s, ⟨r, 0⟩) := by
  unfold strR strB
  rw [List.append_assoc, numR_numB s.length h2 (s ++ r)]
  have hb : belR ⟨s ++ r, 0⟩ s.length m = (s.length, ⟨s ++ r, 0⟩) := by unfold belR; rw [if_neg (by simp), if_neg (by omega)]
  simp only [hb]
  exact take_append s r s.length rfl
theorem docK_tabB (T : Nat → L) (hT : fair T) : ∀ k, k ≤ 4 → ∀ r, docK ⟨tabB T k ++ r, 0⟩ k = (listK T k, ⟨r, 0⟩)
  | 0, _, r => rfl
  | k + 1, hk, r => by
    have ih := docK_tabB T hT k (by omega) (ltB (T k) ++ r)
    obtain ⟨f1, f2, f3, f4⟩ := hT k (by omega)
    rw [docK, tabB, List.append_assoc, ih]
    dsimp only
    unfold ltB
    rw [List.append_assoc, below_numB _ f1]
    have hL : listK T (k + 1) = if (T k).q = 0 then listK T k else listK T k ++ [⟨k, (T k).q, (T k).c, (T k).t⟩] := rfl
    rw [hL]
    by_cases h0 : (T k).q = 0
    · rw [if_pos h0, if_pos h0, if_neg (by omega)]; rfl
    · rw [if_neg h0, if_neg h0, if_pos (by omega), List.cons_append]
      have hb : byteR ⟨UInt8.ofNat (T k).c :: (strB (T k).t.data.toList ++ r), 0⟩ = ((T k).c, ⟨strB (T k).t.data.toList ++ r, 0⟩) := by
        rw [byte_some, UInt8.toNat_ofNat']
        congr 1; omega
      have hz : (T k).t.data.toList.length = (T k).t.size := rfl
      have hs := strR_own (T k).t.data.toList r 64 (by omega) (by omega)
      unfold entK
      simp only [hb, hs]
      rw [if_neg (by omega), bs_own]
theorem takeK_tabB (T : Nat → L) (hT : fair T) : ∀ i < 4, tabK (takeK ⟨tabB T 4, 0⟩) i = T i := by
  have h := docK_tabB T hT 4 (by omega) []
  rw [List.append_nil] at h
  unfold takeK
  rw [h]
  exact tabK_list T hT 4 (by omega)
theorem docK_left (T : Nat → L) (hT : fair T) : (docK ⟨tabB T 4, 0⟩ 4).2 = ⟨[], 0⟩ := by
  have h := docK_tabB T hT 4 (by omega) []
  rw [List.append_nil] at h
  rw [h]
theorem tabB_inj (T U : Nat → L) (hT : fair T) (hU : fair U) (h : tabB T 4 = tabB U 4) : ∀ i < 4, T i = U i := by
  intro i hi
  rw [← takeK_tabB T hT i hi, ← takeK_tabB U hU i hi, h]
theorem tabB_congr (T U : Nat → L) : ∀ k, (∀ i < k, T i = U i) → tabB T k = tabB U k
  | 0, _ => rfl
  | k + 1, h => by rw [tabB, tabB, tabB_congr T U k (fun i hi => h i (by omega)), h k (by omega)]
/-- A reader that failed has nothing left, and stays as it is. -/
theorem below_good (s : R) (n : Nat) (h : (belowR s n).2.e = 0) : s.e = 0 ∧ ∃ r, s.rest = numB (belowR s n).1 ++ r ∧ (belowR s n).2 = ⟨r, 0⟩ := by
  by_cases he : s.e = 0
  · refine ⟨he, ?_⟩
    rcases num_cases s he with ⟨e, h1, h2⟩ | ⟨m, r, h1, _, h2⟩
    · exfalso
      unfold belowR at h
      rw [h1] at h
      rw [if_pos (by rcases h2 with h2 | h2 <;> subst h2 <;> simp)] at h
      simp only at h
      omega
    · unfold belowR at h ⊢
      rw [h2] at h ⊢
      rw [if_neg (by simp)] at h ⊢
      by_cases hm : m < n
      · rw [if_pos hm] at h ⊢; exact ⟨r, h1, rfl⟩
      · rw [if_neg hm] at h; simp at h
  · exfalso
    unfold belowR at h
    rw [num_err s he, if_pos he] at h
    exact he h
theorem take_good (s : R) (n : Nat) (h : (takeR s n).2.e = 0) : s.e = 0 ∧ s.rest = (takeR s n).1 ++ (takeR s n).2.rest := by
  unfold takeR at h ⊢
  by_cases he : s.e = 0
  · rw [if_neg (by simp [he])] at h ⊢
    by_cases hl : s.rest.length < n
    · rw [if_pos hl] at h; simp at h
    · rw [if_neg hl]; exact ⟨he, by simp⟩
  · rw [if_pos he] at h; exact absurd h he
theorem take_len (s : R) (n : Nat) (h : (takeR s n).2.e = 0) : (takeR s n).1.length = n := by
  unfold takeR at h ⊢
  by_cases he : s.e = 0
  · rw [if_neg (by simp [he])] at h ⊢
    by_cases hl : s.rest.length < n
    · rw [if_pos hl] at h; simp at h
    · rw [if_neg hl]; simp; omega
  · rw [if_pos he] at h; exact absurd h he
theorem byte_good (s : R) (h : (byteR s).2.e = 0) : s.e = 0 ∧ s.rest = UInt8.ofNat (byteR s).1 :: (byteR s).2.rest := by
  have h1 := take_good s 1 h
  have h2 := take_len s 1 h
  refine ⟨h1.1, ?_⟩
  rw [h1.2]
  unfold byteR
  match hx : (takeR s 1).1, h2 with
  | [c], _ => simp
theorem str_good (s : R) (m : Nat) (h : (strR s m).2.e = 0) : s.e = 0 ∧ s.rest = strB (strR s m).1 ++ (strR s m).2.rest := by
  unfold strR at h ⊢
  have h1 := take_good _ _ h
  have h2 := take_len _ _ h
  generalize hb : belR (numR s).2 (numR s).1 m = B at h h1 h2 ⊢
  have hbe : B.2.e = 0 := h1.1
  by_cases he : s.e = 0
  · refine ⟨he, ?_⟩
    rcases num_cases s he with ⟨e, q1, q2⟩ | ⟨k, r, q1, _, q2⟩
    · exfalso
      unfold belR at hb
      rw [q1, if_pos (by rcases q2 with q2 | q2 <;> subst q2 <;> simp)] at hb
      subst hb
      simp only at hbe
      omega
    · unfold belR at hb
      rw [q2, if_neg (by simp)] at hb
      by_cases hm : m < k
      · rw [if_pos hm] at hb; subst hb; simp at hbe
      · rw [if_neg hm] at hb
        subst hb
        dsimp only at h1 h2 ⊢
        rw [q1, strB, h2, List.append_assoc, ← h1.2]
  · exfalso
    rw [num_err s he] at hb
    unfold belR at hb
    rw [if_pos he] at hb
    subst hb
    exact he hbe
theorem docK_good (s : R) : ∀ k, (docK s k).2.e = 0 → s.e = 0 ∧ s.rest = tabB (tabK (docK s k).1) k ++ (docK s k).2.rest
  | 0, h => ⟨h, rfl⟩
  | k + 1, h => by
    have ih := docK_good s k
    have hc := docK_c s k
    have hn := last_none (docK s k).1 k (fun x hx e => by have := hc x hx; omega)
    unfold docK at h ⊢
    generalize docK s k = D at h ih hc hn ⊢
    obtain ⟨l, s1⟩ := D
    dsimp only at h ih hc hn ⊢
    by_cases h0 : (belowR s1 4294967296).1 = 0
    · rw [if_pos h0] at h ⊢
      dsimp only at h ⊢
      obtain ⟨e1, r, e2, e3⟩ := below_good s1 4294967296 h
      obtain ⟨i1, i2⟩ := ih e1
      refine ⟨i1, ?_⟩
      rw [i2, e2, e3, h0, tabB, List.append_assoc]
      congr 1
      unfold ltB tabK
      rw [hn]; simp [none0]
    · rw [if_neg h0] at h ⊢
      dsimp only at h ⊢
      generalize hb : belowR s1 4294967296 = B at h h0 ⊢
      obtain ⟨n, s2⟩ := B
      dsimp only at h h0 ⊢
      unfold entK at h ⊢
      dsimp only at h ⊢
      by_cases h3 : 3 < (byteR s2).1
      · rw [if_pos h3] at h; unfold badR at h; split at h
        · simp at h
        · contradiction
      · rw [if_neg h3] at h ⊢
        obtain ⟨g1, g2⟩ := str_good _ _ h
        obtain ⟨g3, g4⟩ := byte_good _ g1
        have hb2 : (belowR s1 4294967296).2.e = 0 := by rw [hb]; exact g3
        obtain ⟨e1, r, e2, e3⟩ := below_good s1 4294967296 hb2
        rw [hb] at e2 e3
        dsimp only at e2 e3
        obtain ⟨i1, i2⟩ := ih e1
        refine ⟨i1, ?_⟩
        have hr : r = s2.rest := by rw [e3]
        have ht : tabB (tabK (l ++ [⟨k, n, (byteR s2).1, bs (strR (byteR s2).2 64).1⟩])) k = tabB (tabK l) k := by
          refine tabB_congr _ _ k (fun i hi => ?_)
          simp only [tabK, last_snoc, if_neg (show k ≠ i by omega)]
        rw [i2, e2, tabB, ht, List.append_assoc]
        congr 1
        have hT : tabK (l ++ [⟨k, n, (byteR s2).1, bs (strR (byteR s2).2 64).1⟩]) k = ⟨n, (byteR s2).1, bs (strR (byteR s2).2 64).1⟩ := by simp only [tabK, last_snoc, if_true]
        rw [hT, hr, g4, g2]
        unfold ltB
        dsimp only
        rw [if_pos (by omega), bs_data, List.append_assoc]
        rfl
theorem strR_le (s : R) (m : Nat) : (strR s m).1.length ≤ m := by
  have key : ∀ (s : R) n, (takeR s n).1.length ≤ n := by
    intro s n; unfold takeR; split
    · simp
    · split
      · simp
      · simp; omega
  unfold strR
  refine Nat.le_trans (key _ _) ?_
  unfold belR
  split
  · simp
  · split
    · simp
    · dsimp only; omega
theorem docK_small (s : R) : ∀ k, ∀ i, small (tabK (docK s k).1 i)
  | 0, i => (⟨by decide, by decide, by decide⟩ : small ⟨0, 0, ⟨#[]⟩⟩)
  | k + 1, i => by
    have ih := docK_small s k i
    have h1 := belowR_lt (docK s k).2 4294967296 (by decide)
    unfold docK
    split
    · exact ih
    · unfold entK
      dsimp only
      by_cases e : k = i
      · have h2 := strR_le (byteR (belowR (docK s k).2 4294967296).2).2 64
        have h3 : (byteR (belowR (docK s k).2 4294967296).2).1 < 256 := by unfold byteR; exact UInt8.toNat_lt _
        simp only [tabK, last_snoc, if_pos e, small, bs_size]
        exact ⟨by omega, by omega, by omega⟩
      · simpa only [tabK, last_snoc, if_neg e] using ih
theorem takeK_small (s : R) (i : Nat) : small (tabK (takeK s) i) := by
  unfold takeK
  split
  · exact docK_small s 4 i
  · exact (⟨by decide, by decide, by decide⟩ : small ⟨0, 0, ⟨#[]⟩⟩)
theorem end_good (s : R) (h : (endR s).e = 0) : s.e = 0 ∧ s.rest = [] := by
  unfold endR at h
  split at h
  · simp at h
  · rename_i hl
    refine ⟨h, List.length_eq_zero_iff.1 (by omega)⟩
/-- Bytes that are read wholly are written as themselves. -/
theorem back_own (s : List UInt8) (h : (endR (docK ⟨s, 0⟩ 4).2).e = 0) : tabB (tabK (takeK ⟨s, 0⟩)) 4 = s := by
  obtain ⟨h1, h2⟩ := end_good _ h
  obtain ⟨_, h4⟩ := docK_good ⟨s, 0⟩ 4 h1
  rw [h2, List.append_nil] at h4
  unfold takeK
  rw [if_pos h1]
  exact h4.symm
end Ses
end Go.Proofs.Ytidgeljkihamhaa
