/-
  What is picked is a least majority: plain facts, no program in sight.
-/
import Derived.Test.YthhgcfklaakndaaThrRef
namespace Go.Proofs.Ythhgcfklaakndaa
namespace Thr
open Mem R8
theorem ext7 (a b : Nat) (ha : a < 128) (hb : b < 128) (h : ∀ i < 7, a.testBit i = b.testBit i) : a = b := by
  refine Nat.eq_of_testBit_eq fun i => ?_
  by_cases hi : i < 7
  · exact h i hi
  · rw [high_bit a i ha hi, high_bit b i hb hi]
theorem bt_split (s o : Bool) : bt (s && !o) + bt (s && o) = bt s := by cases s <;> cases o <;> rfl
theorem cnt_split (s o : Nat) (ho : o < 256) : cnt (mWithout s o) + cnt (mBoth s o) = cnt s := by
  have g := fun i => bt_split (s.testBit i) (o.testBit i)
  have h0 := g 0; have h1 := g 1; have h2 := g 2; have h3 := g 3; have h4 := g 4; have h5 := g 5; have h6 := g 6
  clear g
  unfold cnt
  simp only [bit_both _ _ 0 (by decide), bit_both _ _ 1 (by decide), bit_both _ _ 2 (by decide), bit_both _ _ 3 (by decide), bit_both _ _ 4 (by decide), bit_both _ _ 5 (by decide), bit_both _ _ 6 (by decide),
    bit_without _ _ 0 ho (by decide), bit_without _ _ 1 ho (by decide), bit_without _ _ 2 ho (by decide), bit_without _ _ 3 ho (by decide), bit_without _ _ 4 ho (by decide), bit_without _ _ 5 ho (by decide), bit_without _ _ 6 ho (by decide)]
  omega
theorem cnt_mono (a b : Nat) (h : ∀ i < 7, a.testBit i = true → b.testBit i = true) : cnt a ≤ cnt b := by
  have g : ∀ s t : Bool, (s = true → t = true) → bt s ≤ bt t := by decide
  have g' := fun i hi => g (a.testBit i) (b.testBit i) (h i hi)
  have h0 := g' 0 (by decide); have h1 := g' 1 (by decide); have h2 := g' 2 (by decide); have h3 := g' 3 (by decide); have h4 := g' 4 (by decide); have h5 := g' 5 (by decide); have h6 := g' 6 (by decide)
  clear g'
  unfold cnt; omega
theorem cnt_pos (x i : Nat) (hi : i < 7) (h : x.testBit i = true) : 1 ≤ cnt x := by
  have h1 : ∀ j < 7, cnt (2 ^ j) = 1 := by decide
  rw [← h1 i hi]
  refine cnt_mono _ _ (fun k hk hb => ?_)
  rw [Nat.testBit_two_pow] at hb
  have : i = k := by simpa using hb
  subst this; exact h
theorem cnt_none (x : Nat) (hx : x < 128) (h : cnt x = 0) : x = 0 := by
  refine ext7 x 0 hx (by decide) (fun i hi => ?_)
  rw [Nat.zero_testBit]
  cases hb : x.testBit i
  · rfl
  · have := cnt_pos x i hi hb; omega
/-- All of it is of another one. -/
def Sub (o c : Nat) : Prop := ∀ i < 7, o.testBit i = true → c.testBit i = true
theorem both_sub (o c : Nat) (h : Sub o c) : cnt (mBoth c o) = cnt o := by
  refine Nat.le_antisymm (cnt_both_le c o) (cnt_mono _ _ (fun i hi hb => ?_))
  rw [bit_both _ _ _ hi, hb, h i hi hb]; rfl
theorem major_sub (o c : Nat) (h : Sub o c) : mMajor c o = decide (cnt c < 2 * cnt o) := by rw [mMajor, both_sub o c h]
theorem bit_step (c o x i : Nat) (hi : i < 7) : (pkStep c o x).testBit i = (o.testBit i || (decide (x = i) && c.testBit i)) := by
  rw [pkStep, bit_with _ _ _ hi, bit_both _ _ _ hi, mOf_one, bit_one _ _ hi]
theorem cnt_step (c o x : Nat) : cnt (pkStep c o x) ≤ cnt o + 1 := by
  have h1 := cnt_with_le o (mBoth (mOf [x]) c)
  have h2 : cnt (mBoth (mOf [x]) c) ≤ 1 := by
    by_cases hx : x < 7
    · have h3 : ∀ j < 7, cnt (2 ^ j) = 1 := by decide
      rw [← h3 x hx]
      refine cnt_mono _ _ (fun i hi hb => ?_)
      rw [bit_both _ _ _ hi, mOf_one, mOne, if_pos hx, Bool.and_eq_true] at hb
      exact hb.1
    · have : cnt (mBoth (mOf [x]) c) ≤ cnt 0 := cnt_mono _ _ (fun i hi hb => by
        rw [bit_both _ _ _ hi, mOf_one, mOne, if_neg hx, Nat.zero_testBit] at hb
        simp at hb)
      have h0 : cnt 0 = 0 := by decide
      omega
  unfold pkStep; omega
structure Inv (c o : Nat) : Prop where
  sub : Sub o c
  low : 2 * cnt o ≤ cnt c + 2
theorem Inv.step {c o : Nat} (h : Inv c o) (x : Nat) : Inv c (pkF c o x) := by
  unfold pkF
  split
  · exact h
  · rename_i hs
    refine ⟨fun i hi hb => ?_, ?_⟩
    · rw [bit_step _ _ _ _ hi, Bool.or_eq_true, Bool.and_eq_true] at hb
      rcases hb with e | e
      · exact h.sub i hi e
      · exact e.2
    · have h1 := cnt_step c o x
      have h2 : mMajor c o = false := by
        cases hm : mMajor c o
        · rfl
        · rw [pkStop, hm] at hs; simp at hs
      rw [major_sub o c h.sub] at h2
      have := of_decide_eq_false h2
      omega
theorem inv_fold (c : Nat) (l : List Nat) : ∀ o, Inv c o → Inv c (l.foldl (pkF c) o) := by
  induction l with
  | nil => intro o h; exact h
  | cons x l ih => intro o h; exact ih _ (h.step x)
theorem cnt_nil : cnt 0 = 0 := by decide
theorem inv_zero (c : Nat) : Inv c 0 := ⟨fun i _ h => absurd h (by rw [Nat.zero_testBit]; simp), by rw [cnt_nil]; omega⟩
theorem inv_pk (c : Nat) (l : List Nat) : Inv c (pk c l) := inv_fold c l 0 (inv_zero c)
theorem bit_keep (c : Nat) (l : List Nat) : ∀ o i, i < 7 → o.testBit i = true → (l.foldl (pkF c) o).testBit i = true := by
  induction l with
  | nil => intro o i _ h; exact h
  | cons x l ih =>
    intro o i hi h
    refine ih _ i hi ?_
    unfold pkF
    split
    · exact h
    · rw [bit_step _ _ _ _ hi, h]; rfl
theorem bit_added (c : Nat) (l : List Nat) : ∀ o, pkStop c (l.foldl (pkF c) o) = false → ∀ x ∈ l, x < 7 → c.testBit x = true → (l.foldl (pkF c) o).testBit x = true := by
  induction l with
  | nil => intro o _ x hx; simp at hx
  | cons y l ih =>
    intro o hs x hx h7 hc
    rw [List.foldl_cons] at hs ⊢
    rcases List.mem_cons.1 hx with e | e
    · subst e
      refine bit_keep c l _ x h7 ?_
      have : pkStop c o = false := by
        cases hp : pkStop c o
        · rfl
        · rw [pkF, if_pos hp, pkF_stop c o hp] at hs
          rw [hp] at hs; cases hs
      rw [pkF, if_neg (by rw [this]; simp), bit_step _ _ _ _ h7, hc]; simp
    · exact ih _ hs x e h7 hc
theorem pk_major (c : Nat) (h0 : cnt c ≠ 0) (l : List Nat) : mMajor c (pk c (l ++ listN c)) = true := by
  cases hm : mMajor c (pk c (l ++ listN c))
  · exfalso
    have hs : pkStop c (pk c (l ++ listN c)) = false := by rw [pkStop, hm, decide_eq_false h0]; rfl
    have hb := bit_added c (l ++ listN c) 0 hs
    have hle : cnt c ≤ cnt (pk c (l ++ listN c)) := cnt_mono _ _ (fun i hi hc => hb i (List.mem_append.2 (.inr (by simp [listN, hi, hc]))) hi hc)
    rw [major_sub _ _ (inv_pk c _).sub] at hm
    have := of_decide_eq_false hm
    omega
  · rfl
theorem pk_len (c : Nat) (h0 : cnt c ≠ 0) (l : List Nat) : cnt (pk c (l ++ listN c)) = cnt c / 2 + 1 := by
  have h1 := pk_major c h0 l
  have h2 := inv_pk c (l ++ listN c)
  rw [major_sub _ _ h2.sub] at h1
  have h3 := of_decide_eq_true h1
  have h4 := h2.low
  omega
theorem pk_none (l : List Nat) : pk 0 l = 0 := by
  unfold pk; exact pkF_stop 0 0 (by decide) l
theorem pk_within (c : Nat) (hc : c < 256) (l : List Nat) : mWithout (pk c l) c = 0 := by
  refine ext7 _ 0 (mWithout_lt _ _) (by decide) (fun i hi => ?_)
  rw [bit_without _ _ _ hc hi, Nat.zero_testBit]
  cases hb : (pk c l).testBit i
  · rfl
  · rw [(inv_pk c l).sub i hi hb]; rfl
theorem pk_meets (c : Nat) (h0 : cnt c ≠ 0) (l m : List Nat) : mBoth (pk c (l ++ listN c)) (pk c (m ++ listN c)) ≠ 0 := by
  intro h
  have := meet_one c _ _ (pk_major c h0 l) (pk_major c h0 m)
  rw [h] at this
  have h0 : cnt (mBoth 0 c) = 0 := by
    have := cnt_both_le c 0
    have h3 : mBoth 0 c = mBoth c 0 := by unfold mBoth; rw [Nat.and_comm 0 c]
    rw [h3]
    have : cnt 0 = 0 := by decide
    omega
  omega
theorem pk_least (c : Nat) (l : List Nat) (n : Nat) (hn : n < 7) (h : mHas (pk c l) n = true) : mMajor c (mWithout (pk c l) (mOf [n])) = false := by
  have h1 := inv_pk c l
  have hb : (pk c l).testBit n = true := by rw [mHas, Bool.and_eq_true] at h; exact h.2
  have h2 := cnt_split (pk c l) (mOf [n]) (by have := mOf_lt [n]; omega)
  have h3 : 1 ≤ cnt (mBoth (pk c l) (mOf [n])) := cnt_pos _ n hn (by rw [bit_both _ _ _ hn, hb, mOf_one, bit_one _ _ hn, decide_eq_true rfl]; rfl)
  have h4 := cnt_both_le c (mWithout (pk c l) (mOf [n]))
  have h5 := h1.low
  rw [mMajor]
  exact decide_eq_false (by omega)
theorem pk_has (c : Nat) (l : List Nat) (n : Nat) : mHas (pk c l) n = true → mHas c n = true := by
  rw [mHas, mHas, Bool.and_eq_true, Bool.and_eq_true]
  rintro ⟨h1, h2⟩
  exact ⟨h1, (inv_pk c l).sub n (by simpa using h1) h2⟩
/-- It is picked, where it comes up before there are enough. -/
theorem pk_early (c n : Nat) (pre post : List Nat) (hs : pkStop c (pk c pre) = false) (h : mHas c n = true) : mHas (pk c (pre ++ n :: post)) n = true := by
  rw [mHas, Bool.and_eq_true] at h ⊢
  have hn : n < 7 := by simpa using h.1
  refine ⟨h.1, ?_⟩
  unfold pk at hs ⊢
  rw [List.foldl_append, List.foldl_cons]
  refine bit_keep c post _ n hn ?_
  rw [pkF, if_neg (by rw [hs]; simp), bit_step _ _ _ _ hn, h.2]; simp
theorem pk_self (c self : Nat) (h0 : cnt c ≠ 0) (l : List Nat) (h : mHas c self = true) : mHas (pk c (self :: l ++ listN c)) self = true := by
  refine pk_early c self [] (l ++ listN c) ?_ h
  have h1 : mMajor c 0 = false := by
    rw [major_sub 0 c (inv_zero c).sub]
    have : cnt 0 = 0 := by decide
    exact decide_eq_false (by omega)
  show pkStop c 0 = false
  rw [pkStop, h1, decide_eq_false h0]; rfl
theorem pk_last (c self n : Nat) (h1 : 1 < cnt c) (R : List Nat) (h : mHas c n = true) : mHas (pk c (self :: hd self R n ++ listN c)) n = true := by
  by_cases hs : n = self
  · subst hs; exact pk_self c n (by omega) _ h
  · have hn : n < 7 := by rw [mHas, Bool.and_eq_true] at h; simpa using h.1
    have hd1 : hd self R n = n :: R.filter (fun x => !decide (x = n)) := by unfold hd; rw [if_neg (by omega)]
    rw [hd1]
    refine pk_early c n [self] (R.filter (fun x => !decide (x = n)) ++ listN c) ?_ h
    have hi := inv_pk c [self]
    have hc1 : cnt (pk c [self]) ≤ 1 := by
      show cnt (pkF c 0 self) ≤ 1
      unfold pkF
      have : cnt 0 = 0 := by decide
      split
      · omega
      · have := cnt_step c 0 self; omega
    rw [pkStop, major_sub _ _ hi.sub, decide_eq_false (by omega), decide_eq_false (by omega)]; rfl
end Thr
end Go.Proofs.Ythhgcfklaakndaa
