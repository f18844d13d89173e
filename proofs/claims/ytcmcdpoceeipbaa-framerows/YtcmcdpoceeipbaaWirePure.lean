/-
  Numbers and texts as bytes, and reading them: plain facts, no program in sight.
-/
import Derived.Lib.BitFns
namespace Go.Proofs.Ytcmcdpoceeipbaa
namespace Wire

/-- The k bytes of a number, the greatest first. -/
def beB : Nat → Nat → List UInt8
  | 0, _ => []
  | k + 1, n => UInt8.ofNat (n / 256 ^ k) :: beB k n
/-- How many bytes a number fits in. -/
def wide (n : Nat) : Nat := (Lib.bitLen n + 7) / 8
def numB (n : Nat) : List UInt8 := if n < 248 then [UInt8.ofNat n] else UInt8.ofNat (247 + wide n) :: beB (wide n) n
def strB (s : List UInt8) : List UInt8 := numB s.length ++ s
/-- Bytes as a number, the greatest first. -/
def beN (l : List UInt8) : Nat := l.foldl (fun n c => n * 256 + c.toNat) 0

/-- A reader: what is left, and the first error. -/
structure R where
  rest : List UInt8
  e : Nat
def R.fine (s : R) : Prop := s.e ≠ 0 → s.rest = []
def takeR (s : R) (n : Nat) : List UInt8 × R := if s.e ≠ 0 then ([], s) else if s.rest.length < n then ([], ⟨[], 3⟩) else (s.rest.take n, ⟨s.rest.drop n, 0⟩)
def byteR (s : R) : Nat × R := (((takeR s 1).1.headD 0).toNat, (takeR s 1).2)
def numR (s : R) : Nat × R :=
  if (byteR s).1 < 248 then byteR s else
  if (takeR (byteR s).2 ((byteR s).1 - 247)).1 ≠ [] ∧ ((takeR (byteR s).2 ((byteR s).1 - 247)).1.headD 0 = 0 ∨ beN (takeR (byteR s).2 ((byteR s).1 - 247)).1 < 248) then (0, ⟨[], 4⟩)
  else (beN (takeR (byteR s).2 ((byteR s).1 - 247)).1, (takeR (byteR s).2 ((byteR s).1 - 247)).2)
def belR (s : R) (x most : Nat) : Nat × R := if s.e ≠ 0 then (0, s) else if most < x then (0, ⟨[], 4⟩) else (x, s)
def belowR (s : R) (n : Nat) : Nat × R := if (numR s).2.e ≠ 0 then (0, (numR s).2) else if (numR s).1 < n then numR s else (0, ⟨[], 4⟩)
def strR (s : R) (most : Nat) : List UInt8 × R := takeR (belR (numR s).2 (numR s).1 most).2 (belR (numR s).2 (numR s).1 most).1
def badR (s : R) : R := if s.e = 0 then ⟨[], 4⟩ else s
def endR (s : R) : R := if 0 < s.rest.length then ⟨[], 4⟩ else s

theorem beB_length (k n : Nat) : (beB k n).length = k := by
  induction k with
  | zero => rfl
  | succ k ih => simp [beB, ih]
theorem bitLenAux_le (f x : Nat) : Lib.bitLenAux f x ≤ f := by
  induction f generalizing x with
  | zero => simp [Lib.bitLenAux]
  | succ f ih => unfold Lib.bitLenAux; have := ih (x / 2); split <;> omega
theorem wide_le (n : Nat) : wide n ≤ 8 := by
  have := bitLenAux_le 64 n
  unfold wide Lib.bitLen; omega
theorem bitLenAux_lt (f x : Nat) (h : x < 2 ^ f) : x < 2 ^ Lib.bitLenAux f x := by
  induction f generalizing x with
  | zero => have : x = 0 := by simpa using h
            subst this; simp [Lib.bitLenAux]
  | succ f ih =>
    unfold Lib.bitLenAux
    split
    · omega
    · have := ih (x / 2) (by rw [Nat.pow_succ] at h; omega)
      rw [Nat.add_comm, Nat.pow_succ]; omega
theorem bitLenAux_ge (f x : Nat) (h : x < 2 ^ f) (h0 : x ≠ 0) : 2 ^ (Lib.bitLenAux f x - 1) ≤ x := by
  induction f generalizing x with
  | zero => exact absurd (by simpa using h) h0
  | succ f ih =>
    unfold Lib.bitLenAux
    rw [if_neg h0]
    by_cases h1 : x / 2 = 0
    · have e : Lib.bitLenAux f (x / 2) = 0 := by rw [h1]; cases f <;> simp [Lib.bitLenAux]
      rw [e]; simp; omega
    · have := ih (x / 2) (by rw [Nat.pow_succ] at h; omega) h1
      have hp : 0 < Lib.bitLenAux f (x / 2) := by
        cases f with
        | zero => rw [Nat.pow_succ] at h; simp at h; omega
        | succ f => unfold Lib.bitLenAux; rw [if_neg h1]; omega
      have e : 1 + Lib.bitLenAux f (x / 2) - 1 = (Lib.bitLenAux f (x / 2) - 1) + 1 := by omega
      rw [e, Nat.pow_succ]; omega
theorem pow256 (k : Nat) : 256 ^ k = 2 ^ (8 * k) := by rw [Nat.pow_mul]
theorem wide_lt (n : Nat) (h : n < 18446744073709551616) : n < 256 ^ wide n := by
  have h1 := bitLenAux_lt 64 n h
  rw [pow256]
  refine Nat.lt_of_lt_of_le h1 (Nat.pow_le_pow_right (by decide) ?_)
  unfold wide Lib.bitLen; omega
theorem wide_ge (n : Nat) (h : n < 18446744073709551616) (h0 : n ≠ 0) : 256 ^ (wide n - 1) ≤ n := by
  have h1 := bitLenAux_ge 64 n h h0
  rw [pow256]
  refine Nat.le_trans (Nat.pow_le_pow_right (by decide) ?_) h1
  unfold wide Lib.bitLen; omega
theorem wide_pos (n : Nat) (h : n < 18446744073709551616) (h0 : n ≠ 0) : 1 ≤ wide n := by
  have := wide_lt n h
  rcases Nat.eq_zero_or_pos (wide n) with e | e
  · rw [e] at this; simp at this; omega
  · exact e
theorem foldl_beB (k n a : Nat) : (beB k n).foldl (fun n c => n * 256 + c.toNat) a = a * 256 ^ k + n % 256 ^ k := by
  induction k generalizing a with
  | zero => simp [beB]; omega
  | succ k ih =>
    rw [beB, List.foldl_cons, ih, UInt8.toNat_ofNat', Nat.add_mul, Nat.mul_assoc, Nat.pow_succ' (n := k), Nat.add_assoc]
    congr 1
    have := Nat.mod_pow_succ (b := 256) (k := k) (x := n)
    rw [Nat.pow_succ'] at this
    rw [this, Nat.mul_comm (256 ^ k)]
    have e : (2 : Nat) ^ 8 = 256 := by decide
    rw [e]; omega
theorem beN_beB (k n : Nat) (h : n < 256 ^ k) : beN (beB k n) = n := by
  rw [beN, foldl_beB, Nat.zero_mul, Nat.zero_add, Nat.mod_eq_of_lt h]
theorem foldl_lt (l : List UInt8) (a : Nat) : l.foldl (fun n c => n * 256 + c.toNat) a < (a + 1) * 256 ^ l.length := by
  induction l generalizing a with
  | nil => simp
  | cons c l ih =>
    rw [List.foldl_cons]
    refine Nat.lt_of_lt_of_le (ih _) ?_
    rw [List.length_cons, Nat.pow_succ', ← Nat.mul_assoc]
    refine Nat.mul_le_mul_right _ ?_
    have := c.toNat_lt
    omega
theorem beN_lt (l : List UInt8) : beN l < 256 ^ l.length := by have := foldl_lt l 0; simpa [beN] using this
theorem foldl_div (l : List UInt8) (a : Nat) : l.foldl (fun n c => n * 256 + c.toNat) a = a * 256 ^ l.length + beN l := by
  induction l generalizing a with
  | nil => simp [beN]
  | cons c l ih =>
    have e : beN (c :: l) = c.toNat * 256 ^ l.length + beN l := by rw [beN, List.foldl_cons, ih]; simp
    rw [List.foldl_cons, ih, e, List.length_cons, Nat.pow_succ', Nat.add_mul, Nat.mul_assoc, Nat.add_assoc]
theorem beN_cons (c : UInt8) (l : List UInt8) : beN (c :: l) = c.toNat * 256 ^ l.length + beN l := by
  rw [beN, List.foldl_cons, foldl_div]; simp
theorem beB_beN (l : List UInt8) : beB l.length (beN l) = l := by
  have key : ∀ (l : List UInt8) (n : Nat), n % 256 ^ l.length = beN l → beB l.length n = l := by
    intro l
    induction l with
    | nil => intro n _; rfl
    | cons c l ih =>
      intro n hn
      rw [List.length_cons, beB]
      rw [beN_cons, List.length_cons, Nat.mod_pow_succ] at hn
      have h1 : n % 256 ^ l.length < 256 ^ l.length := Nat.mod_lt _ (Nat.pow_pos (by decide))
      have h2 := beN_lt l
      have h3 : n % 256 ^ l.length = beN l ∧ n / 256 ^ l.length % 256 = c.toNat := by
        rw [Nat.mul_comm c.toNat] at hn
        have e1 : (n % 256 ^ l.length + 256 ^ l.length * (n / 256 ^ l.length % 256)) % 256 ^ l.length = (256 ^ l.length * c.toNat + beN l) % 256 ^ l.length := by rw [hn]
        rw [Nat.add_mul_mod_self_left, Nat.mod_mod, Nat.mul_add_mod, Nat.mod_eq_of_lt h2] at e1
        refine ⟨e1, ?_⟩
        rw [e1, Nat.add_comm] at hn
        have := Nat.add_right_cancel hn
        exact Nat.eq_of_mul_eq_mul_left (Nat.pow_pos (by decide)) this
      rw [ih n h3.1]
      congr 1
      apply UInt8.toNat_inj.1
      rw [UInt8.toNat_ofNat', ← h3.2]
  exact key l (beN l) (Nat.mod_eq_of_lt (beN_lt l))
theorem beB_head (k n : Nat) (h1 : 256 ^ (k - 1) ≤ n) (h2 : n < 256 ^ k) (hk : 1 ≤ k) : (beB k n).headD 0 ≠ 0 := by
  obtain ⟨k, rfl⟩ : ∃ j, k = j + 1 := ⟨k - 1, by omega⟩
  simp only [Nat.add_sub_cancel] at h1
  rw [beB]
  simp only [List.headD_cons]
  intro h
  have := congrArg UInt8.toNat h
  rw [UInt8.toNat_ofNat'] at this
  have h3 : n / 256 ^ k < 256 := by rw [Nat.div_lt_iff_lt_mul (Nat.pow_pos (by decide))]; rw [Nat.pow_succ'] at h2; exact h2
  have h4 : 1 ≤ n / 256 ^ k := by rw [Nat.le_div_iff_mul_le (Nat.pow_pos (by decide))]; omega
  simp at this
  omega
/-- What was put is read. -/
theorem take_append (x r : List UInt8) (n : Nat) (h : x.length = n) : takeR ⟨x ++ r, 0⟩ n = (x, ⟨r, 0⟩) := by
  subst h
  unfold takeR
  rw [if_neg (by simp), if_neg (by simp)]
  simp
theorem numR_numB (n : Nat) (h : n < 18446744073709551616) (r : List UInt8) : numR ⟨numB n ++ r, 0⟩ = (n, ⟨r, 0⟩) := by
  unfold numB
  split
  · rename_i h1
    have hb : byteR ⟨[UInt8.ofNat n] ++ r, 0⟩ = (n, ⟨r, 0⟩) := by
      unfold byteR; rw [take_append [UInt8.ofNat n] r 1 rfl]; simp; omega
    rw [numR, hb, if_pos h1]
  · rename_i h1
    have w1 := wide_le n
    have w2 := wide_pos n h (by omega)
    have w3 := wide_lt n h
    have hb : byteR ⟨UInt8.ofNat (247 + wide n) :: beB (wide n) n ++ r, 0⟩ = (247 + wide n, ⟨beB (wide n) n ++ r, 0⟩) := by
      unfold byteR
      have := take_append [UInt8.ofNat (247 + wide n)] (beB (wide n) n ++ r) 1 rfl
      rw [List.cons_append]
      rw [List.singleton_append] at this
      rw [this]; simp; omega
    have ht : takeR ⟨beB (wide n) n ++ r, 0⟩ (247 + wide n - 247) = (beB (wide n) n, ⟨r, 0⟩) := take_append _ _ _ (by rw [beB_length]; omega)
    rw [numR, hb, if_neg (by simp; omega)]
    simp only [ht]
    rw [if_neg, beN_beB _ _ w3]
    rintro ⟨_, h2 | h2⟩
    · exact beB_head _ _ (wide_ge n h (by omega)) w3 w2 h2
    · rw [beN_beB _ _ w3] at h2; omega
theorem numB_length (n : Nat) : (numB n).length = if n < 248 then 1 else 1 + wide n := by
  unfold numB; split
  · rfl
  · rw [List.length_cons, beB_length]; omega
theorem numB_pos (n : Nat) : 0 < (numB n).length := by rw [numB_length]; split <;> omega
theorem numB_le (n : Nat) : (numB n).length ≤ 9 := by have := wide_le n; rw [numB_length]; split <;> omega
theorem wide_unique (n k : Nat) (h : n < 18446744073709551616) (hk : 1 ≤ k) (h1 : 256 ^ (k - 1) ≤ n) (h2 : n < 256 ^ k) : wide n = k := by
  have a := wide_lt n h
  have p : 0 < 256 ^ (k - 1) := Nat.pow_pos (by decide)
  have b := wide_ge n h (by omega)
  rcases Nat.lt_trichotomy (wide n) k with hl | hl | hl
  · have := Nat.pow_le_pow_right (n := 256) (by decide) (show wide n ≤ k - 1 by omega)
    omega
  · exact hl
  · have := Nat.pow_le_pow_right (n := 256) (by decide) (show k ≤ wide n - 1 by omega)
    omega
theorem head_ge (l : List UInt8) (h0 : l ≠ []) (h : l.headD 0 ≠ 0) : 256 ^ (l.length - 1) ≤ beN l := by
  cases l with
  | nil => exact absurd rfl h0
  | cons c l =>
    rw [beN_cons]
    simp only [List.headD_cons] at h
    have : 1 ≤ c.toNat := by
      rcases Nat.eq_zero_or_pos c.toNat with e | e
      · exact absurd (UInt8.toNat_inj.1 (by rw [e]; rfl)) h
      · exact e
    have := Nat.mul_le_mul_right (256 ^ l.length) this
    simp only [List.length_cons, Nat.add_sub_cancel]; omega
theorem head_lt (l : List UInt8) (h0 : l ≠ []) (h : l.headD 0 = 0) : beN l < 256 ^ (l.length - 1) := by
  cases l with
  | nil => exact absurd rfl h0
  | cons c l =>
    simp only [List.headD_cons] at h
    subst h
    rw [beN_cons]
    have := beN_lt l
    simpa using this
theorem pow8 (k : Nat) (h : k ≤ 8) : 256 ^ k ≤ 18446744073709551616 := by
  have := Nat.pow_le_pow_right (n := 256) (by decide) h
  simpa using this
/-- Bytes are a number's own bytes just if the first is not 0 and the number is not one byte. -/
theorem numB_own (t : List UInt8) (h0 : t ≠ []) (h8 : t.length ≤ 8) (h : ¬ (t.headD 0 = 0 ∨ beN t < 248)) : numB (beN t) = UInt8.ofNat (247 + t.length) :: t := by
  have hlt := beN_lt t
  have hp := pow8 _ h8
  have hpos : 1 ≤ t.length := List.length_pos_iff.2 h0
  have hw := wide_unique (beN t) t.length (by omega) hpos (head_ge t h0 (fun e => h (.inl e))) hlt
  rw [numB, if_neg (fun e => h (.inr e)), hw, beB_beN]
theorem numB_not (t : List UInt8) (c : UInt8) (h0 : t ≠ []) (h8 : t.length ≤ 8) (h : t.headD 0 = 0 ∨ beN t < 248) : numB (beN t) ≠ c :: t := by
  intro he
  have hl := congrArg List.length he
  rw [numB_length, List.length_cons] at hl
  have hpos : 1 ≤ t.length := List.length_pos_iff.2 h0
  split at hl
  · omega
  · rename_i hn
    rcases h with h | h
    · have h1 := head_lt t h0 h
      have hlt := beN_lt t
      have hp := pow8 _ h8
      have h2 := wide_ge (beN t) (by omega) (by omega)
      have : 256 ^ (t.length - 1) = 256 ^ (wide (beN t) - 1) := by congr 1; omega
      omega
    · exact hn h
theorem byte_some (c : UInt8) (l : List UInt8) : byteR ⟨c :: l, 0⟩ = (c.toNat, ⟨l, 0⟩) := by
  unfold byteR takeR; simp
theorem byte_none : byteR ⟨[], 0⟩ = (0, ⟨[], 3⟩) := by unfold byteR takeR; simp
theorem take_err (s : R) (n : Nat) (h : s.e ≠ 0) : takeR s n = ([], s) := by unfold takeR; rw [if_pos h]
theorem byte_err (s : R) (h : s.e ≠ 0) : byteR s = (0, s) := by unfold byteR; rw [take_err s 1 h]; rfl
theorem num_err (s : R) (h : s.e ≠ 0) : numR s = (0, s) := by unfold numR; rw [byte_err s h]; simp
theorem num_none : numR ⟨[], 0⟩ = (0, ⟨[], 3⟩) := by unfold numR; rw [byte_none]; simp
theorem num_small (c : UInt8) (l : List UInt8) (h : c.toNat < 248) : numR ⟨c :: l, 0⟩ = (c.toNat, ⟨l, 0⟩) := by unfold numR; rw [byte_some, if_pos h]
theorem take_short (l : List UInt8) (n : Nat) (h : l.length < n) : takeR ⟨l, 0⟩ n = ([], ⟨[], 3⟩) := by unfold takeR; rw [if_neg (by simp), if_pos h]
theorem take_enough (l : List UInt8) (n : Nat) (h : ¬ l.length < n) : takeR ⟨l, 0⟩ n = (l.take n, ⟨l.drop n, 0⟩) := by unfold takeR; rw [if_neg (by simp), if_neg h]
theorem num_short (c : UInt8) (l : List UInt8) (h : ¬ c.toNat < 248) (hl : l.length < c.toNat - 247) : numR ⟨c :: l, 0⟩ = (0, ⟨[], 3⟩) := by
  unfold numR; rw [byte_some, if_neg h]; simp only [take_short _ _ hl]; simp [beN]
theorem num_form (c : UInt8) (l : List UInt8) (h : ¬ c.toNat < 248) (hl : ¬ l.length < c.toNat - 247) (hf : (l.take (c.toNat - 247)).headD 0 = 0 ∨ beN (l.take (c.toNat - 247)) < 248) : numR ⟨c :: l, 0⟩ = (0, ⟨[], 4⟩) := by
  unfold numR; rw [byte_some, if_neg h]; simp only [take_enough _ _ hl]
  rw [if_pos]
  refine ⟨fun e => ?_, hf⟩
  have := congrArg List.length e
  rw [List.length_take, List.length_nil] at this; omega
theorem num_great (c : UInt8) (l : List UInt8) (h : ¬ c.toNat < 248) (hl : ¬ l.length < c.toNat - 247) (hf : ¬ ((l.take (c.toNat - 247)).headD 0 = 0 ∨ beN (l.take (c.toNat - 247)) < 248)) :
    numR ⟨c :: l, 0⟩ = (beN (l.take (c.toNat - 247)), ⟨l.drop (c.toNat - 247), 0⟩) := by
  unfold numR; rw [byte_some, if_neg h]; simp only [take_enough _ _ hl]
  rw [if_neg (fun e => hf e.2)]
/-- What a reader reads as a number: three ways and a good one. -/
theorem num_cases (s : R) (he : s.e = 0) :
    (∃ e, numR s = (0, ⟨[], e⟩) ∧ (e = 3 ∨ e = 4)) ∨ ∃ n r, s.rest = numB n ++ r ∧ n < 18446744073709551616 ∧ numR s = (n, ⟨r, 0⟩) := by
  obtain ⟨l, e⟩ := s
  simp only at he
  subst he
  cases l with
  | nil => exact .inl ⟨3, num_none, .inl rfl⟩
  | cons c l =>
    by_cases h : c.toNat < 248
    · refine .inr ⟨c.toNat, l, ?_, by omega, num_small c l h⟩
      rw [numB, if_pos h]; simp
    · by_cases hl : l.length < c.toNat - 247
      · exact .inl ⟨3, num_short c l h hl, .inl rfl⟩
      · by_cases hf : (l.take (c.toNat - 247)).headD 0 = 0 ∨ beN (l.take (c.toNat - 247)) < 248
        · exact .inl ⟨4, num_form c l h hl hf, .inr rfl⟩
        · have hc := c.toNat_lt
          have hlen : (l.take (c.toNat - 247)).length = c.toNat - 247 := by simp; omega
          have h0 : l.take (c.toNat - 247) ≠ [] := by intro e; rw [e] at hlen; simp at hlen; omega
          have h8 : (l.take (c.toNat - 247)).length ≤ 8 := by omega
          refine .inr ⟨beN (l.take (c.toNat - 247)), l.drop (c.toNat - 247), ?_, ?_, num_great c l h hl hf⟩
          · rw [numB_own _ h0 h8 hf, hlen, List.cons_append, List.take_append_drop]
            have e : 247 + (c.toNat - 247) = c.toNat := by omega
            rw [e, UInt8.ofNat_toNat]
          · have := beN_lt (l.take (c.toNat - 247)); have := pow8 _ h8; omega
end Wire
end Go.Proofs.Ytcmcdpoceeipbaa
