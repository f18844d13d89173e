/-
  Sets of nodes as numbers: counting bits, majorities; plain facts, no program in sight.
-/
import Derived.Lib.BitFns
import Derived.Laws.BitsAllLaws
namespace Go.Proofs.Ythhgcfklaakndaa
namespace Mem

def bt (b : Bool) : Nat := if b then 1 else 0
def cnt (s : Nat) : Nat :=
  bt (s.testBit 0) + bt (s.testBit 1) + bt (s.testBit 2) + bt (s.testBit 3) + bt (s.testBit 4) + bt (s.testBit 5) + bt (s.testBit 6)
def mWith (a b : Nat) : Nat := (a ||| b) &&& 127
def mWithout (a b : Nat) : Nat := a &&& (255 - b) &&& 127
def mBoth (a b : Nat) : Nat := a &&& b &&& 127
def mMajor (a b : Nat) : Bool := decide (cnt a < 2 * cnt (mBoth a b))
def mHas (s n : Nat) : Bool := decide (n < 7) && s.testBit n
def mOne (n : Nat) : Nat := if n < 7 then 2 ^ n else 0
def mOf (l : List Nat) : Nat := l.foldl (fun s n => s ||| mOne n) 0
def mFirst (n : Int) : Nat := 2 ^ (max 0 (min n 7)).toNat - 1

theorem bt_and_le (a b s : Bool) : bt (a && s) + bt (b && s) ≤ bt s + bt (a && b && s) := by cases a <;> cases b <;> cases s <;> decide
theorem onesCount_cnt : ∀ x < 256, Lib.onesCount (x &&& 127) = cnt x := by decide +kernel
theorem cnt_le (x : Nat) : cnt x ≤ 7 := by
  have h : ∀ b, bt b ≤ 1 := by decide
  have := h (x.testBit 0); have := h (x.testBit 1); have := h (x.testBit 2); have := h (x.testBit 3); have := h (x.testBit 4); have := h (x.testBit 5); have := h (x.testBit 6)
  unfold cnt; omega
theorem and_lt (a b : Nat) (h : b < 256) : a &&& b < 256 := Nat.and_lt_two_pow (n := 8) a h
theorem mBoth_lt (a b : Nat) : mBoth a b < 128 := Nat.and_lt_two_pow (n := 7) _ (by decide)
theorem mWith_lt (a b : Nat) : mWith a b < 128 := Nat.and_lt_two_pow (n := 7) _ (by decide)
theorem mWithout_lt (a b : Nat) : mWithout a b < 128 := Nat.and_lt_two_pow (n := 7) _ (by decide)
theorem or_lt (a b : Nat) (ha : a < 256) (hb : b < 256) : a ||| b < 256 := Nat.or_lt_two_pow (n := 8) ha hb

theorem not255 (b i : Nat) (hb : b < 256) : (255 - b).testBit i = (decide (i < 8) && !b.testBit i) := by
  have := Nat.testBit_two_pow_sub_succ (n := 8) (x := b) hb i
  rw [← this, show 255 - b = 2 ^ 8 - (b + 1) by omega]
theorem bit_both (a b i : Nat) (hi : i < 7) : (mBoth a b).testBit i = (a.testBit i && b.testBit i) := by
  have h : (127 : Nat).testBit i = true := by
    have := Nat.testBit_two_pow_sub_one 7 i
    simp at this; rw [this]; simpa using hi
  simp [mBoth, Nat.testBit_and, h]
theorem bit_with (a b i : Nat) (hi : i < 7) : (mWith a b).testBit i = (a.testBit i || b.testBit i) := by
  have h : (127 : Nat).testBit i = true := by
    have := Nat.testBit_two_pow_sub_one 7 i
    simp at this; rw [this]; simpa using hi
  simp [mWith, Nat.testBit_and, Nat.testBit_or, h]
theorem bit_without (a b i : Nat) (hb : b < 256) (hi : i < 7) : (mWithout a b).testBit i = (a.testBit i && !b.testBit i) := by
  have h : (127 : Nat).testBit i = true := by
    have := Nat.testBit_two_pow_sub_one 7 i
    simp at this; rw [this]; simpa using hi
  have h8 : i < 8 := by omega
  simp [mWithout, Nat.testBit_and, h, not255 b i hb, h8]

theorem cnt_both_le (a b : Nat) : cnt (mBoth a b) ≤ cnt b := by
  have h : ∀ a b : Bool, bt (a && b) ≤ bt b := by decide
  have h0 := h (a.testBit 0) (b.testBit 0); have h1 := h (a.testBit 1) (b.testBit 1); have h2 := h (a.testBit 2) (b.testBit 2); have h3 := h (a.testBit 3) (b.testBit 3)
  have h4 := h (a.testBit 4) (b.testBit 4); have h5 := h (a.testBit 5) (b.testBit 5); have h6 := h (a.testBit 6) (b.testBit 6)
  unfold cnt
  rw [bit_both _ _ 0 (by decide), bit_both _ _ 1 (by decide), bit_both _ _ 2 (by decide), bit_both _ _ 3 (by decide), bit_both _ _ 4 (by decide), bit_both _ _ 5 (by decide), bit_both _ _ 6 (by decide)]
  omega
/-- What two have of one set: each part of it, and what they share of it. -/
theorem cnt_meet (p q t : Nat) : cnt (mBoth t p) + cnt (mBoth t q) ≤ cnt t + cnt (mBoth (mBoth p q) t) := by
  have h : ∀ p q t : Bool, bt (t && p) + bt (t && q) ≤ bt t + bt (p && q && t) := by decide
  have g := fun i => h (p.testBit i) (q.testBit i) (t.testBit i)
  have h0 := g 0; have h1 := g 1; have h2 := g 2; have h3 := g 3; have h4 := g 4; have h5 := g 5; have h6 := g 6
  clear g
  unfold cnt
  simp only [bit_both _ _ 0 (by decide), bit_both _ _ 1 (by decide), bit_both _ _ 2 (by decide), bit_both _ _ 3 (by decide), bit_both _ _ 4 (by decide), bit_both _ _ 5 (by decide), bit_both _ _ 6 (by decide)]
  omega
theorem cnt_grow (s t p : Nat) (h : ∀ i < 7, s.testBit i = true → t.testBit i = true) : cnt (mBoth s p) ≤ cnt (mBoth t p) := by
  have g : ∀ s t p : Bool, (s = true → t = true) → bt (s && p) ≤ bt (t && p) := by decide
  have g' := fun i hi => g (s.testBit i) (t.testBit i) (p.testBit i) (h i hi)
  have h0 := g' 0 (by decide); have h1 := g' 1 (by decide); have h2 := g' 2 (by decide); have h3 := g' 3 (by decide); have h4 := g' 4 (by decide); have h5 := g' 5 (by decide); have h6 := g' 6 (by decide)
  clear g'
  unfold cnt
  simp only [bit_both _ _ 0 (by decide), bit_both _ _ 1 (by decide), bit_both _ _ 2 (by decide), bit_both _ _ 3 (by decide), bit_both _ _ 4 (by decide), bit_both _ _ 5 (by decide), bit_both _ _ 6 (by decide)]
  omega
theorem cnt_apart (s p q : Nat) (hp : p < 256) : cnt (mBoth s p) + cnt (mBoth s (mWithout q p)) ≤ cnt s := by
  have g : ∀ s p q : Bool, bt (s && p) + bt (s && (q && !p)) ≤ bt s := by decide
  have g' := fun i => g (s.testBit i) (p.testBit i) (q.testBit i)
  have h0 := g' 0; have h1 := g' 1; have h2 := g' 2; have h3 := g' 3; have h4 := g' 4; have h5 := g' 5; have h6 := g' 6
  clear g'
  unfold cnt
  simp only [bit_both _ _ 0 (by decide), bit_both _ _ 1 (by decide), bit_both _ _ 2 (by decide), bit_both _ _ 3 (by decide), bit_both _ _ 4 (by decide), bit_both _ _ 5 (by decide), bit_both _ _ 6 (by decide),
    bit_without _ _ 0 hp (by decide), bit_without _ _ 1 hp (by decide), bit_without _ _ 2 hp (by decide), bit_without _ _ 3 hp (by decide), bit_without _ _ 4 hp (by decide), bit_without _ _ 5 hp (by decide), bit_without _ _ 6 hp (by decide)]
  omega
theorem bt_or_one (a b : Bool) : bt (a || b) ≤ bt a + bt b := by cases a <;> cases b <;> decide
theorem cnt_with_le (s o : Nat) : cnt (mWith s o) ≤ cnt s + cnt o := by
  have h0 := bt_or_one (s.testBit 0) (o.testBit 0); have h1 := bt_or_one (s.testBit 1) (o.testBit 1); have h2 := bt_or_one (s.testBit 2) (o.testBit 2); have h3 := bt_or_one (s.testBit 3) (o.testBit 3)
  have h4 := bt_or_one (s.testBit 4) (o.testBit 4); have h5 := bt_or_one (s.testBit 5) (o.testBit 5); have h6 := bt_or_one (s.testBit 6) (o.testBit 6)
  unfold cnt
  simp only [bit_with _ _ 0 (by decide), bit_with _ _ 1 (by decide), bit_with _ _ 2 (by decide), bit_with _ _ 3 (by decide), bit_with _ _ 4 (by decide), bit_with _ _ 5 (by decide), bit_with _ _ 6 (by decide)]
  omega
theorem cnt_one : ∀ n < 8, cnt (mOf [n]) ≤ 1 := by decide
theorem mOf_lt (l : List Nat) : mOf l < 128 := by
  have h1 : ∀ n, mOne n < 128 := by
    intro n; unfold mOne; split
    · have : n = 0 ∨ n = 1 ∨ n = 2 ∨ n = 3 ∨ n = 4 ∨ n = 5 ∨ n = 6 := by omega
      rcases this with h | h | h | h | h | h | h <;> subst h <;> decide
    · decide
  have : ∀ (l : List Nat) s, s < 128 → l.foldl (fun s n => s ||| mOne n) s < 128 := by
    intro l; induction l with
    | nil => intro s h; exact h
    | cons a l ih => intro s h; exact ih _ (Nat.or_lt_two_pow (n := 7) h (h1 a))
  exact this l 0 (by decide)
theorem mOf_snoc (l : List Nat) (n : Nat) : mOf (l ++ [n]) = mOf l ||| mOne n := by simp [mOf]

theorem has_fact : ∀ a : Nat, a < 256 → ∀ n : Nat, n < 7 → (bits .and .u8 ((a : Int) / 2 ^ n) 1 == 1) = Nat.testBit a n := by decide +kernel
theorem first_fact : ∀ m : Nat, m < 8 → ((2 : Int) ^ m % 256 - 1) % 256 = ((2 ^ m - 1 : Nat) : Int) := by decide +kernel
theorem one_fact : ∀ n : Nat, n < 7 → (2 : Int) ^ n % 256 = ((mOne n : Nat) : Int) := by decide +kernel
theorem mOne_lt (n : Nat) : mOne n < 128 := by
  unfold mOne; split
  · have : n = 0 ∨ n = 1 ∨ n = 2 ∨ n = 3 ∨ n = 4 ∨ n = 5 ∨ n = 6 := by omega
    rcases this with h | h | h | h | h | h | h <;> subst h <;> decide
  · decide
/-- The stage's theorem. -/
theorem meet_one (s p q : Nat) (h1 : mMajor s p = true) (h2 : mMajor s q = true) : 0 < cnt (mBoth (mBoth p q) s) := by
  simp only [mMajor, decide_eq_true_eq] at h1 h2
  have := cnt_meet p q s
  omega
theorem meet_two (s p q o : Nat) (ho : cnt o ≤ 1) (h1 : mMajor s p = true) (h2 : mMajor (mWith s o) q = true) : 0 < cnt (mBoth (mBoth p q) (mWith s o)) := by
  simp only [mMajor, decide_eq_true_eq] at h1 h2
  have h3 := cnt_meet p q (mWith s o)
  have h4 := cnt_with_le s o
  have h5 := cnt_grow s (mWith s o) p (fun i hi h => by rw [bit_with _ _ _ hi, h]; rfl)
  omega
theorem meet_not (s p q : Nat) (hp : p < 256) (h1 : mMajor s p = true) : mMajor s (mWithout q p) = false := by
  simp only [mMajor, decide_eq_true_eq, decide_eq_false_iff_not] at h1 ⊢
  have := cnt_apart s p q hp
  omega
end Mem
end Go.Proofs.Ythhgcfklaakndaa
