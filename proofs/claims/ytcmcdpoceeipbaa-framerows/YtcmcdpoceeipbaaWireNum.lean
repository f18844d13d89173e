/-
  The package wire's writers, walked: Num and Str put a number's, a text's bytes behind.
-/
import Derived.Test.YtcmcdpoceeipbaaGrew
import Derived.Test.YtcmcdpoceeipbaaShelf
import Derived.Test.YtcmcdpoceeipbaaWirePure
namespace Go.Proofs.Ytcmcdpoceeipbaa
open Go.RowKit
namespace Wire
/-- A text's bytes. -/
def bs (l : List UInt8) : ByteArray := ⟨l.toArray⟩
theorem bs_size (l : List UInt8) : (bs l).size = l.length := by simp [bs, ByteArray.size]
theorem bs_list (s : ByteArray) : bs s.data.toList = s := rfl
theorem bs_data (l : List UInt8) : (bs l).data.toList = l := by simp [bs]
theorem bs_toList (l : List UInt8) : (bs l).toList = l := by rw [ByteArray.toList_eq]; exact bs_data l
theorem bs_inj {a b : List UInt8} (h : bs a = bs b) : a = b := by rw [← bs_data a, ← bs_data b, h]
theorem bs_extract (l : List UInt8) (a b : Nat) : (bs l).extract a b = bs ((l.drop a).take (b - a)) := by
  rw [← bs_list ((bs l).extract a b), Lib.extract_data, bs_data]
def by8 (l : List UInt8) : List Value := l.map fun x => Value.int .u8 (x.toNat : Int)
theorem by8_append (a b : List UInt8) : by8 (a ++ b) = by8 a ++ by8 b := by simp [by8]
theorem by8_length (l : List UInt8) : (by8 l).length = l.length := by simp [by8]
theorem by8_u8s (l : List UInt8) : by8 l = u8s (l.map (·.toNat)) := by simp [by8, u8s]
theorem info : (Try.prog.info? 5).map (fun i => (i.zero, i.size, i.bytes)) = some (some (.int .u8 0), 1, 1) := by kernel_rfl
theorem shr_fact (n i : Nat) : (n : Int) / 2 ^ (8 * i) % 256 = ((UInt8.ofNat (n / 256 ^ i)).toNat : Int) := by
  rw [UInt8.toNat_ofNat', pow256]
  have : ((n : Int) / 2 ^ (8 * i)) = ((n / 2 ^ (8 * i) : Nat) : Int) := by rw [Int.natCast_ediv, Int.natCast_pow]; rfl
  rw [this]
  generalize n / 2 ^ (8 * i) = m
  omega
set_option maxHeartbeats 1000000 in
theorem num_any (base : Nat) (vb : Value) (k : Nat) (xs : List Value) (n : Nat) (hn : n < 18446744073709551616) (w : World) (hown : w.ownsRow base 5 1 vb k xs) (hk : k ≤ 1000000000) (hbase : base ≤ w.heap.size) :
    Calls Try.prog 17 #[vb, .int .u64 n] w fun e w' => ∃ v, e = .returned v ∧ w'.ownsRow base 5 1 v (k + (numB n).length) (xs ++ by8 (numB n)) ∧ Grew w vb w' v := by
  by_cases h : n < 248
  · have h1 : decide ((n : Int) < 248) = true := by simp; omega
    have hw : IntKind.u8.wrap (n : Int) = (n : Int) := by rw [IntKind.wrap_u8]; omega
    have HN := Lib.hid (show xs ++ by8 (numB n) = xs ++ [.int .u8 (n : Int)] by rw [numB, if_pos h]; simp [by8]; omega)
    have HL := Lib.hid (show (numB n).length = 1 by rw [numB, if_pos h]; rfl)
    go_enter Try.func17, Try.ntmps17
    go_wp2_with (at_builtin; refine app1g rfl _ _ 22 rfl base 5 (.int .u8 0) 1 info Try.underlying22 rfl _ _ _ rfl _ _ _ hown rfl _ (by simp) rfl (by omega) (by omega) hbase ?_; intro v' w1 hown1 hg)
    go_ret
    exact ⟨_, rfl, by rw [HN.out, HL.out]; exact hown1, hg⟩
  · have h1 : decide ((n : Int) < 248) = false := by simp; omega
    go_enter Try.func17, Try.ntmps17
    go_wp2_with fail
    refine (Try.bits_Len64 _ _ (by omega) (by omega)).mono ?_
    rintro e w' ⟨rfl, hw'⟩
    obtain rfl : w = w' := hw'.symm
    simp only [Int.toNat_natCast]
    have w1 := wide_le n
    have w2 := wide_pos n hn (by omega)
    have hwd : ((Lib.bitLen n : Int) + 7) / 8 = (wide n : Int) := by unfold wide; omega
    have hcv : IntKind.u8.wrap (247 + (wide n : Int)) = ((UInt8.ofNat (247 + wide n)).toNat : Int) := by rw [IntKind.wrap_u8, UInt8.toNat_ofNat']; omega
    have hbl : Lib.bitLen n ≤ 64 := bitLenAux_le 64 n
    have HN := Lib.hid (show numB n = UInt8.ofNat (247 + wide n) :: beB (wide n) n by rw [numB, if_neg h])
    go_wp2_with (at_builtin; refine app1g rfl _ _ 22 rfl base 5 (.int .u8 0) 1 info Try.underlying22 rfl _ _ _ rfl _ _ _ hown rfl _ (by simp) rfl (by omega) (by omega) hbase ?_; intro v1 w1' hown1 hg1)
    clear hwd hcv
    have hz1 := hg1.size
    go_loopw [0, 6] (fun v i wr => ∃ (j : Nat) (pre : List UInt8), j ≤ wide n ∧ i = .int .i64 ((j : Int) - 1) ∧ pre ++ beB j n = numB n ∧ pre.length ≤ 9 ∧ wr.ownsRow base 5 1 v (k + pre.length) (xs ++ by8 pre) ∧ Grew w vb wr v) (fun _ i _ => (intOf i + 1).toNat)
    case atStart => exact ⟨wide n, [UInt8.ofNat (247 + wide n)], Nat.le_refl _, rfl, by rw [HN.out]; rfl, by simp, by simpa [by8] using hown1, hg1⟩
    case round =>
      obtain ⟨j, pre, hj, rfl, hpre, hpl, hown2, hg2⟩ := hrel
      have hz2 := hg2.size
      cases j with
      | zero =>
        have HE := Lib.hid (show pre = numB n by simpa [beB] using hpre)
        clear hpre
        go_wp2
        go_ret
        exact ⟨_, rfl, by rw [← HE.out]; exact hown2, hg2⟩
      | succ j =>
        have hlen := congrArg List.length hpre
        rw [List.length_append, beB_length] at hlen
        have hnl := numB_le n
        have hpl2 : pre.length + 1 ≤ 9 := by omega
        have HP := Lib.hid hpre
        have hsh := shr_fact n j
        have HB := Lib.hid (show xs ++ by8 (pre ++ [UInt8.ofNat (n / 256 ^ j)]) = xs ++ by8 pre ++ [.int .u8 ((n : Int) / 2 ^ (8 * j) % 256)] by rw [hsh]; simp [by8])
        have HP2 := Lib.hid (show (pre ++ [UInt8.ofNat (n / 256 ^ j)]) ++ beB j n = numB n by rw [← hpre, beB]; simp)
        clear hsh
        generalize UInt8.ofNat (n / 256 ^ j) = x at HB HP2
        clear hpre hlen hnl hown hown1 hg1
        rw [show ((j + 1 : Nat) : Int) - 1 = (j : Int) by omega]
        go_wp2_with (at_builtin; refine app1g rfl _ _ 22 rfl base 5 (.int .u8 0) 1 info Try.underlying22 rfl _ _ _ rfl _ _ _ hown2 rfl _ (by simp) rfl (by omega) (by omega) (by omega) ?_; intro v' w3 hown3 hg3)
        go_roundw
        case rel => exact ⟨j, pre ++ [x], by omega, rfl, HP2.out, by simp; omega, by rw [HB.out]; simpa [Nat.add_assoc] using hown3, hg2.trans hg3⟩
        case measure => simp [intOf]
end Wire
end Go.Proofs.Ytcmcdpoceeipbaa
