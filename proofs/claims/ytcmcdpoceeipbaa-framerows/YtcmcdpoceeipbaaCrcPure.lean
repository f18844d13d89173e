/-
  The checksum: plain.
-/
import Derived.Test.YtcmcdpoceeipbaaWirePure
namespace Go.Proofs.Ytcmcdpoceeipbaa
namespace Crc
def poly : Nat := 14514072000185962306
def step1 (x : Nat) : Nat := if x % 2 = 1 then (x / 2) ^^^ poly else x / 2
def steps : Nat → Nat → Nat
  | 0, x => x
  | k + 1, x => step1 (steps k x)
def take1 (x : Nat) (c : UInt8) : Nat := steps 8 (x ^^^ c.toNat)
def crcF (x : Nat) (l : List UInt8) : Nat := l.foldl take1 x
def inv (x : Nat) : Nat := 18446744073709551615 ^^^ x
/-- The checksum. -/
def sumR (l : List UInt8) : Nat := inv (crcF (inv 0) l)
theorem xor_lt (a b : Nat) (ha : a < 18446744073709551616) (hb : b < 18446744073709551616) : a ^^^ b < 18446744073709551616 := Nat.xor_lt_two_pow (n := 64) ha hb
theorem step1_lt (x : Nat) (h : x < 18446744073709551616) : step1 x < 18446744073709551616 := by
  unfold step1
  split
  · exact xor_lt _ _ (by omega) (by decide)
  · omega
theorem steps_lt (k x : Nat) (h : x < 18446744073709551616) : steps k x < 18446744073709551616 := by
  induction k with
  | zero => exact h
  | succ k ih => exact step1_lt _ ih
theorem take1_lt (x : Nat) (c : UInt8) (h : x < 18446744073709551616) : take1 x c < 18446744073709551616 := by
  have := c.toNat_lt
  exact steps_lt 8 _ (xor_lt _ _ h (by omega))
theorem crcF_lt (l : List UInt8) (x : Nat) (h : x < 18446744073709551616) : crcF x l < 18446744073709551616 := by
  induction l generalizing x with
  | nil => exact h
  | cons c l ih => exact ih _ (take1_lt x c h)
theorem inv_lt (x : Nat) (h : x < 18446744073709551616) : inv x < 18446744073709551616 := xor_lt _ _ (by decide) h
theorem sumR_lt (l : List UInt8) : sumR l < 18446744073709551616 := inv_lt _ (crcF_lt l _ (by decide))
theorem crcF_snoc (x : Nat) (l : List UInt8) (c : UInt8) : crcF x (l ++ [c]) = take1 (crcF x l) c := by simp [crcF]
/-! One step can be undone. -/
theorem poly_top : poly.testBit 63 = true := by decide
theorem step1_top (x : Nat) (h : x < 18446744073709551616) : (step1 x).testBit 63 = decide (x % 2 = 1) := by
  have h1 : (x / 2).testBit 63 = false := Nat.testBit_lt_two_pow (by omega)
  unfold step1
  split
  · rename_i h2
    rw [Nat.testBit_xor, h1, poly_top, decide_eq_true h2]; rfl
  · rename_i h2
    rw [h1, decide_eq_false h2]
theorem xor_cancel (a b c : Nat) (h : a ^^^ c = b ^^^ c) : a = b := by
  have := congrArg (· ^^^ c) h
  simpa [Nat.xor_assoc] using this
theorem step1_inj (x y : Nat) (hx : x < 18446744073709551616) (hy : y < 18446744073709551616) (h : step1 x = step1 y) : x = y := by
  have h1 := step1_top x hx
  have h2 := step1_top y hy
  rw [h, h2] at h1
  have h3 : (y % 2 = 1) ↔ (x % 2 = 1) := by simpa using h1
  unfold step1 at h
  by_cases hx2 : x % 2 = 1
  · have hy2 := h3.2 hx2
    rw [if_pos hx2, if_pos hy2] at h
    have := xor_cancel _ _ _ h
    omega
  · have hy2 : ¬ y % 2 = 1 := fun h => hx2 (h3.1 h)
    rw [if_neg hx2, if_neg hy2] at h
    omega
theorem steps_inj (k x y : Nat) (hx : x < 18446744073709551616) (hy : y < 18446744073709551616) (h : steps k x = steps k y) : x = y := by
  induction k with
  | zero => exact h
  | succ k ih => exact ih (step1_inj _ _ (steps_lt k x hx) (steps_lt k y hy) h)
theorem take1_inj (x y : Nat) (c : UInt8) (hx : x < 18446744073709551616) (hy : y < 18446744073709551616) (h : take1 x c = take1 y c) : x = y := by
  have hc := c.toNat_lt
  exact xor_cancel _ _ _ (steps_inj 8 _ _ (xor_lt _ _ hx (by omega)) (xor_lt _ _ hy (by omega)) h)
theorem take1_byte (x : Nat) (c d : UInt8) (hx : x < 18446744073709551616) (h : take1 x c = take1 x d) : c = d := by
  have hc := c.toNat_lt
  have hd := d.toNat_lt
  have := steps_inj 8 _ _ (xor_lt _ _ hx (by omega)) (xor_lt _ _ hx (by omega)) h
  rw [Nat.xor_comm x, Nat.xor_comm x] at this
  exact UInt8.toNat_inj.1 (xor_cancel _ _ _ this)
theorem crcF_inj (l : List UInt8) (x y : Nat) (hx : x < 18446744073709551616) (hy : y < 18446744073709551616) (h : crcF x l = crcF y l) : x = y := by
  induction l generalizing x y with
  | nil => exact h
  | cons c l ih => exact take1_inj x y c hx hy (ih _ _ (take1_lt x c hx) (take1_lt y c hy) h)
theorem inv_inj (x y : Nat) (h : inv x = inv y) : x = y := by
  unfold inv at h
  rw [Nat.xor_comm _ x, Nat.xor_comm _ y] at h
  exact xor_cancel _ _ _ h
/-- One byte that is another makes another checksum. -/
theorem sumR_byte (a b : List UInt8) (c d : UInt8) (h : sumR (a ++ c :: b) = sumR (a ++ d :: b)) : c = d := by
  have h1 := inv_inj _ _ h
  unfold crcF at h1
  rw [List.foldl_append, List.foldl_append, List.foldl_cons, List.foldl_cons] at h1
  have h2 : (a.foldl take1 (inv 0)) < 18446744073709551616 := crcF_lt a _ (by decide)
  exact take1_byte _ _ _ h2 (crcF_inj b _ _ (take1_lt _ c h2) (take1_lt _ d h2) h1)
/-- The checksum's eight bytes, the least first. -/
def le8 : Nat → Nat → List UInt8
  | 0, _ => []
  | k + 1, x => UInt8.ofNat x :: le8 k (x / 256)
def sumB (l : List UInt8) : List UInt8 := le8 8 (sumR l)
theorem le8_length (k x : Nat) : (le8 k x).length = k := by
  induction k generalizing x with
  | zero => rfl
  | succ k ih => simp [le8, ih]
theorem le8_snoc (k x : Nat) : le8 (k + 1) x = le8 k x ++ [UInt8.ofNat (x / 256 ^ k)] := by
  induction k generalizing x with
  | zero => simp [le8]
  | succ k ih =>
    rw [le8, ih (x / 256), le8, List.cons_append, Nat.div_div_eq_div_mul, Nat.pow_succ']
theorem le8_inj (k x y : Nat) (hx : x < 256 ^ k) (hy : y < 256 ^ k) (h : le8 k x = le8 k y) : x = y := by
  induction k generalizing x y with
  | zero => simp at hx hy; omega
  | succ k ih =>
    rw [le8, le8] at h
    injection h with h1 h2
    have h3 := ih (x / 256) (y / 256) (by rw [Nat.pow_succ] at hx; omega) (by rw [Nat.pow_succ] at hy; omega) h2
    have h4 := congrArg UInt8.toNat h1
    rw [UInt8.toNat_ofNat', UInt8.toNat_ofNat'] at h4
    omega
theorem sumB_len (l : List UInt8) : (sumB l).length = 8 := le8_length 8 _
theorem sumB_inj (a b : List UInt8) (h : sumB a = sumB b) : sumR a = sumR b := le8_inj 8 _ _ (by have := sumR_lt a; omega) (by have := sumR_lt b; omega) h
end Crc
end Go.Proofs.Ytcmcdpoceeipbaa
