/-
  What a set's bits say and what lists of nodes say is one: plain facts, no program in sight.
-/
import Derived.Test.YthhgcfklaakndaaMemSeq
import Derived.Test.YthhgcfklaakndaaRef08
namespace Go.Proofs.Ythhgcfklaakndaa
namespace R8
open Mem
theorem setTo_bit (l : List Nat) (k i : Nat) : (setTo l k).testBit i = (decide (i < k) && hasN l i) := by
  induction k with
  | zero => simp [setTo]
  | succ k ih =>
    rw [setTo_succ]
    have hlt := setTo_lt l k
    cases hk : hasN l k
    · simp only [Bool.false_eq_true, if_false, Nat.add_zero, ih]
      by_cases h : i = k
      · subst h; simp [hk]
      · by_cases h2 : i < k
        · rw [decide_eq_true h2, decide_eq_true (by omega)]
        · rw [decide_eq_false h2, decide_eq_false (by omega)]
    · simp only [if_true]
      have := Nat.two_pow_add_eq_or_of_lt hlt 1
      rw [Nat.mul_one] at this
      rw [Nat.add_comm, this, Nat.testBit_or, ih, Nat.testBit_two_pow]
      by_cases h : k = i
      · subst h; simp [hk]
      · by_cases h2 : i < k
        · rw [decide_eq_true h2, decide_eq_true (show i < k + 1 by omega), decide_eq_false h]; simp
        · rw [decide_eq_false h2, decide_eq_false (show ¬ i < k + 1 by omega), decide_eq_false h]; simp
theorem set_bit (l : List Nat) (i : Nat) : (setN l).testBit i = (decide (i < 7) && hasN l i) := setTo_bit l 7 i
theorem has_list (s i : Nat) : hasN (listN s) i = (decide (i < 7) && s.testBit i) := by
  rw [Bool.eq_iff_iff]; simp [hasN, listN]
theorem has_append (a b : List Nat) (i : Nat) : hasN (a ++ b) i = (hasN a i || hasN b i) := by
  rw [Bool.eq_iff_iff]; simp [hasN]
theorem has_pick (a b : List Nat) (t : Bool) (i : Nat) : hasN (pickN a b t) i = (hasN a i && (hasN b i == t)) := by
  rw [Bool.eq_iff_iff]; simp [hasN, pickN]
theorem high_bit (x i : Nat) (hx : x < 128) (hi : ¬ i < 7) : x.testBit i = false :=
  Nat.testBit_lt_two_pow (Nat.lt_of_lt_of_le hx (show 2 ^ 7 ≤ 2 ^ i from Nat.pow_le_pow_right (by decide) (by omega)))
theorem with_list (x y : Nat) : mWith x y = setN (listN x ++ listN y) := by
  refine Nat.eq_of_testBit_eq fun i => ?_
  rw [set_bit, has_append, has_list, has_list]
  by_cases h : i < 7
  · rw [bit_with _ _ _ h, decide_eq_true h]; simp
  · rw [high_bit _ _ (mWith_lt x y) h, decide_eq_false h]; rfl
theorem both_list (x y : Nat) : mBoth x y = setN (pickN (listN x) (listN y) true) := by
  refine Nat.eq_of_testBit_eq fun i => ?_
  rw [set_bit, has_pick, has_list, has_list]
  by_cases h : i < 7
  · rw [bit_both _ _ _ h, decide_eq_true h]; simp
  · rw [high_bit _ _ (mBoth_lt x y) h, decide_eq_false h]; rfl
theorem without_list (x y : Nat) (hy : y < 256) : mWithout x y = setN (pickN (listN x) (listN y) false) := by
  refine Nat.eq_of_testBit_eq fun i => ?_
  rw [set_bit, has_pick, has_list, has_list]
  by_cases h : i < 7
  · rw [bit_without _ _ _ hy h, decide_eq_true h]; simp
  · rw [high_bit _ _ (mWithout_lt x y) h, decide_eq_false h]; rfl
theorem list_len : ∀ s < 256, (listN s).length = cnt s := by decide +kernel
theorem pick_list_true (x y : Nat) : pickN (listN x) (listN y) true = listN (mBoth x y) := by
  simp only [pickN, listN, List.filter_filter]
  refine List.filter_congr fun i hi => ?_
  have hi : i < 7 := by simpa using hi
  rw [show (List.filter (fun i => y.testBit i) (List.range 7)) = listN y from rfl, has_list, bit_both _ _ _ hi, decide_eq_true hi]
  simp [Bool.and_comm]
theorem pick_list_false (x y : Nat) (hy : y < 256) : pickN (listN x) (listN y) false = listN (mWithout x y) := by
  simp only [pickN, listN, List.filter_filter]
  refine List.filter_congr fun i hi => ?_
  have hi : i < 7 := by simpa using hi
  rw [show (List.filter (fun i => y.testBit i) (List.range 7)) = listN y from rfl, has_list, bit_without _ _ _ hy hi, decide_eq_true hi]
  simp [Bool.and_comm]
theorem major_list (x y : Nat) (hx : x < 256) : mMajor x y = majorN (listN x) (listN y) := by
  rw [mMajor, majorN, pick_list_true, list_len x hx, list_len _ (by have := mBoth_lt x y; omega)]
theorem setL_val : ∀ s < 256, (setL s).map (·.val) = listN s := by decide +kernel
theorem may_list (x y : Nat) (hx : x < 256) (hy : y < 256) : mMay x y = mayN (listN x) (listN y) := by
  have h1 := setL_val x hx
  have h2 : (setL x).all (fun i => mHas y i.val) = (listN x).all (fun i => mHas y i) := by rw [← h1, List.all_map]; rfl
  have h3 : decide (setL x ≠ []) = decide (0 < (listN x).length) := by rw [← h1]; simp [List.length_pos_iff]
  rw [mMay, mayN, h2, h3]
  congr 1
  rw [Bool.eq_iff_iff]
  simp only [List.all_eq_true, decide_eq_true_eq, List.length_eq_zero_iff, pickN, List.filter_eq_nil_iff, has_list, mHas, Bool.not_eq_true, beq_eq_false_iff_ne]
  simp
end R8
end Go.Proofs.Ythhgcfklaakndaa
