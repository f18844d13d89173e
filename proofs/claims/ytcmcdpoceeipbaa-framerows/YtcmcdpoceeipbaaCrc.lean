/-
  The package crc's Sum, and the document's, walked.
-/
import Derived.Laws.Bits64
import Derived.Laws.Bits64b
import Derived.Test.YtcmcdpoceeipbaaCrcPure
import Derived.Test.YtcmcdpoceeipbaaWireRef
namespace Go.Proofs.Ytcmcdpoceeipbaa
open Go.RowKit
namespace Crc
open Wire
theorem step_any (x : Nat) (hx : x < 18446744073709551616) (w : World) : Calls Try.prog 38 #[.int .u64 x] w fun e w' => e = .returned (.int .u64 (step1 x : Nat)) ∧ w = w' := by
  have h1 : bits .and .u64 (x : Int) 1 = ((x % 2 : Nat) : Int) := by
    rw [show (1 : Int) = ((1 : Nat) : Int) from rfl, bits_and_u64_nat x 1 hx (by decide), Nat.and_one_is_mod]
  by_cases h : x % 2 = 1
  · have HS := Lib.hid (show step1 x = (x / 2) ^^^ poly by unfold step1; rw [if_pos h])
    have hd : ((x : Int) / 2) = ((x / 2 : Nat) : Int) := by omega
    obtain ⟨q, hq⟩ : ∃ q, x / 2 = q := ⟨_, rfl⟩
    rw [hq] at HS hd
    rw [h] at h1
    have h2 : bits .and .u64 14514072000185962306 18446744073709551615 = 14514072000185962306 := by kernel_rfl
    have h3 : bits .xor .u64 (q : Int) 14514072000185962306 = ((q ^^^ poly : Nat) : Int) := by
      rw [show (14514072000185962306 : Int) = ((poly : Nat) : Int) from rfl, bits_xor_u64_nat q poly (by omega) (by decide)]
    have hw : IntKind.u64.wrap (-1) = 18446744073709551615 := by kernel_rfl
    clear hq h
    go_enter Try.func38, Try.ntmps38
    go_wp2
    go_ret
    rw [HS.out]
    exact ⟨rfl, rfl⟩
  · have HS := Lib.hid (show step1 x = x / 2 by unfold step1; rw [if_neg h])
    have hd : ((x : Int) / 2) = ((x / 2 : Nat) : Int) := by omega
    obtain ⟨q, hq⟩ : ∃ q, x / 2 = q := ⟨_, rfl⟩
    rw [hq] at HS hd
    rw [show x % 2 = 0 by omega] at h1
    have h2 : bits .and .u64 14514072000185962306 0 = 0 := by kernel_rfl
    have h3 : bits .xor .u64 (q : Int) 0 = (q : Int) := by
      have := bits_xor_u64_nat q 0 (by omega) (by decide)
      rw [Nat.xor_zero] at this; exact this
    have hw : IntKind.u64.wrap 0 = 0 := by kernel_rfl
    clear hq h
    go_enter Try.func38, Try.ntmps38
    go_wp2
    go_ret
    rw [HS.out]
    exact ⟨rfl, rfl⟩
theorem inv_bits (x : Nat) (hx : x < 18446744073709551616) : bits .xor .u64 IntKind.u64.max (x : Int) = ((inv x : Nat) : Int) := by
  rw [show IntKind.u64.max = ((18446744073709551615 : Nat) : Int) from rfl, bits_xor_u64_nat _ x (by decide) hx]; rfl
theorem byte_bits (x : Nat) (c : UInt8) (hx : x < 18446744073709551616) : bits .xor .u64 (x : Int) (c.toNat : Int) = ((x ^^^ c.toNat : Nat) : Int) := by
  have := c.toNat_lt
  exact bits_xor_u64_nat x _ hx (by omega)
theorem bs_at (l : List UInt8) (k : Nat) (h : k < l.length) (h2 : k < (bs l).size) : (bs l)[k]'h2 = l[k]'h := by simp [bs, ByteArray.getElem_eq_getElem_data]
set_option maxRecDepth 100000 in
set_option maxHeartbeats 1000000 in
theorem more_any (x0 : Nat) (hx0 : x0 < 18446744073709551616) (l : List UInt8) (hl : l.length ≤ 1000000000) (w : World) :
    Calls Try.prog 36 #[.int .u64 x0, .string (bs l)] w fun e w' => e = .returned (.int .u64 (inv (crcF (inv x0) l) : Nat)) ∧ w = w' := by
  have zs := bs_size l
  have hi0 := inv_bits x0 hx0
  have hil := inv_lt x0 hx0
  have HI := Lib.hid (fun x h => inv_bits x h)
  have HB := Lib.hid (fun x c h => byte_bits x c h)
  have HA := Lib.hid (fun k h h2 => bs_at l k h h2)
  generalize inv x0 = i0 at *
  go_enter Try.func36, Try.ntmps36
  go_wp2_with fail
  go_loopw [5, 11] (fun s5 s11 wr => ∃ k : Nat, k ≤ l.length ∧ s11 = .int .i64 k ∧ s5 = .int .u64 (crcF i0 (l.take k) : Nat) ∧ w = wr) (fun _ s11 _ => l.length - (intOf s11).toNat)
  case atStart => exact ⟨0, Nat.zero_le _, rfl, by simp [crcF], rfl⟩
  case round =>
    obtain ⟨k, hk, rfl, rfl, rfl⟩ := hrel
    have hlt0 := crcF_lt (l.take k) i0 hil
    by_cases hlt : k < l.length
    · have hd : decide ((k : Int) < (l.length : Int)) = true := decide_eq_true (by omega)
      have hd' : decide (k < l.length) = true := decide_eq_true hlt
      have HS := Lib.hid (show crcF i0 (l.take (k + 1)) = steps 8 (crcF i0 (l.take k) ^^^ (l[k]).toNat) by
        rw [List.take_succ_eq_append_getElem hlt, crcF_snoc]; rfl)
      obtain ⟨X, hX⟩ : ∃ X, crcF i0 (l.take k) = X := ⟨_, rfl⟩
      rw [hX] at hlt0 HS ⊢
      have ha := HA.out k hlt (by omega)
      obtain ⟨c, hc⟩ : ∃ c, l[k] = c := ⟨_, rfl⟩
      rw [hc] at ha HS
      have hb := HB.out X c hlt0
      have hY : X ^^^ c.toNat < 18446744073709551616 := xor_lt _ _ hlt0 (by have := c.toNat_lt; omega)
      obtain ⟨Y, hYe⟩ : ∃ Y, X ^^^ c.toNat = Y := ⟨_, rfl⟩
      rw [hYe] at hb hY HS
      have hc2 := c.toNat_lt
      clear hX hc hYe
      go_wp2_with fail
      go_loopw [5, 20] (fun s5 s20 wr => ∃ j : Nat, j ≤ 8 ∧ s20 = .int .i64 j ∧ s5 = .int .u64 (steps j Y : Nat) ∧ w = wr) (fun _ s20 _ => 8 - (intOf s20).toNat)
      case atStart => exact ⟨0, by omega, rfl, rfl, rfl⟩
      case round =>
        obtain ⟨j, hj, rfl, rfl, rfl⟩ := hrel
        have hsl := steps_lt j Y hY
        by_cases hj8 : j < 8
        · have hd3 : decide ((j : Int) < 8) = true := decide_eq_true (by omega)
          have hd4 : decide (j < 8) = true := decide_eq_true hj8
          go_wp2_with fail
          refine (step_any (steps j Y) hsl w).mono ?_
          rintro e w' ⟨rfl, rfl⟩
          go_wp2_with fail
          go_roundw
          case rel => exact ⟨j + 1, by omega, by go_num, rfl, by trivial⟩
          case measure => simp [intOf]; omega
        · have hd3 : decide ((j : Int) < 8) = false := decide_eq_false (by omega)
          have hd4 : decide (j < 8) = false := decide_eq_false hj8
          obtain rfl : j = 8 := by omega
          go_wp2_with fail
          go_roundw
          case rel => exact ⟨k + 1, by omega, by go_num, by rw [HS.out], by trivial⟩
          case measure => simp [intOf]; omega
    · have hd : decide ((k : Int) < (l.length : Int)) = false := decide_eq_false (by omega)
      have hd' : decide (k < l.length) = false := decide_eq_false hlt
      have HE := Lib.hid (show crcF i0 (l.take k) = crcF i0 l by rw [List.take_of_length_le (by omega)])
      have hi := HI.out _ hlt0
      go_wp2_with fail
      go_ret
      rw [HE.out]
      exact ⟨rfl, rfl⟩
theorem sum_any (l : List UInt8) (hl : l.length ≤ 1000000000) (w : World) : Calls Try.prog 29 #[.string (bs l)] w fun e w' => e = .returned (.int .u64 (sumR l : Nat)) ∧ w = w' := by
  have HM := Lib.hid (more_any 0 (by decide) l hl w)
  go_enter Try.func29, Try.ntmps29
  go_wp2_with fail
  refine HM.out.mono ?_
  rintro e w' ⟨rfl, rfl⟩
  go_wp2_with fail
  go_ret
  exact ⟨rfl, rfl⟩
/-! The document's. -/
set_option maxRecDepth 100000 in
set_option maxHeartbeats 1000000 in
theorem rsteps_any (x : Nat) (hx : x < 18446744073709551616) (w : World) : Calls Try.prog 37 #[.int .u64 x, .int .i64 8] w fun e w' => e = .returned (.int .u64 (steps 8 x : Nat)) ∧ w = w' := by
  go_enter Try.func37, Try.ntmps37
  go_wp2_with fail
  go_loopw [0, 5] (fun s0 s5 wr => ∃ j : Nat, j ≤ 8 ∧ s5 = .int .i64 j ∧ s0 = .int .u64 (steps j x : Nat) ∧ w = wr) (fun _ s5 _ => 8 - (intOf s5).toNat)
  case atStart => exact ⟨0, by omega, rfl, rfl, rfl⟩
  case round =>
    obtain ⟨j, hj, rfl, rfl, rfl⟩ := hrel
    have hsl := steps_lt j x hx
    by_cases hj8 : j < 8
    · have hd3 : decide ((j : Int) < 8) = true := decide_eq_true (by omega)
      have hd4 : decide (j < 8) = true := decide_eq_true hj8
      have HS := Lib.hid (show steps (j + 1) x = step1 (steps j x) from rfl)
      obtain ⟨Y, hY⟩ : ∃ Y, steps j x = Y := ⟨_, rfl⟩
      rw [hY] at hsl HS ⊢
      clear hY
      have hdv : ((Y : Int) / 2) = ((Y / 2 : Nat) : Int) := by omega
      have hmv : ((Y : Int) % 2) = ((Y % 2 : Nat) : Int) := by omega
      by_cases h : Y % 2 = 1
      · have HT := Lib.hid (show step1 Y = (Y / 2) ^^^ poly by unfold step1; rw [if_pos h])
        rw [h] at hmv
        obtain ⟨q, hq⟩ : ∃ q, Y / 2 = q := ⟨_, rfl⟩
        rw [hq] at HT hdv
        have h3 : bits .xor .u64 (q : Int) 14514072000185962306 = ((q ^^^ poly : Nat) : Int) := by
          rw [show (14514072000185962306 : Int) = ((poly : Nat) : Int) from rfl, bits_xor_u64_nat q poly (by omega) (by decide)]
        have hm1 : (Y : Int) % 2 = 1 := hmv
        clear hq hmv h
        go_wp2_with fail
        go_roundw
        case rel => exact ⟨j + 1, by omega, by go_num, by rw [HS.out, HT.out], by trivial⟩
        case measure => simp [intOf]; omega
      · have HT := Lib.hid (show step1 Y = Y / 2 by unfold step1; rw [if_neg h])
        rw [show Y % 2 = 0 by omega] at hmv
        obtain ⟨q, hq⟩ : ∃ q, Y / 2 = q := ⟨_, rfl⟩
        rw [hq] at HT hdv
        have hm1 : (Y : Int) % 2 = 0 := hmv
        clear hq hmv h
        go_wp2_with fail
        go_roundw
        case rel => exact ⟨j + 1, by omega, by go_num, by rw [HS.out, HT.out], by trivial⟩
        case measure => simp [intOf]; omega
    · have hd3 : decide ((j : Int) < 8) = false := decide_eq_false (by omega)
      have hd4 : decide (j < 8) = false := decide_eq_false hj8
      obtain rfl : j = 8 := by omega
      go_wp2_with fail
      go_ret
      exact ⟨rfl, rfl⟩
set_option maxRecDepth 100000 in
set_option maxHeartbeats 1000000 in
theorem rmore_any (x0 : Nat) (hx0 : x0 < 18446744073709551616) (l : List UInt8) (hl : l.length ≤ 1000000000) (w : World) :
    Calls Try.prog 30 #[.int .u64 x0, .string (bs l)] w fun e w' => e = .returned (.int .u64 (inv (crcF (inv x0) l) : Nat)) ∧ w = w' := by
  have zs := bs_size l
  have hi0 := inv_bits x0 hx0
  have hil := inv_lt x0 hx0
  have HI := Lib.hid (fun x h => inv_bits x h)
  have HB := Lib.hid (fun x c h => byte_bits x c h)
  have HA := Lib.hid (fun k h h2 => bs_at l k h h2)
  generalize inv x0 = i0 at *
  go_enter Try.func30, Try.ntmps30
  go_wp2_with fail
  go_loopw [5, 6] (fun s5 s11 wr => ∃ k : Nat, k ≤ l.length ∧ s11 = .int .i64 k ∧ s5 = .int .u64 (crcF i0 (l.take k) : Nat) ∧ w = wr) (fun _ s11 _ => l.length - (intOf s11).toNat)
  case atStart => exact ⟨0, Nat.zero_le _, rfl, by simp [crcF], rfl⟩
  case round =>
    obtain ⟨k, hk, rfl, rfl, rfl⟩ := hrel
    have hlt0 := crcF_lt (l.take k) i0 hil
    by_cases hlt : k < l.length
    · have hd : decide ((k : Int) < (l.length : Int)) = true := decide_eq_true (by omega)
      have hd' : decide (k < l.length) = true := decide_eq_true hlt
      have HS := Lib.hid (show crcF i0 (l.take (k + 1)) = steps 8 (crcF i0 (l.take k) ^^^ (l[k]).toNat) by
        rw [List.take_succ_eq_append_getElem hlt, crcF_snoc]; rfl)
      obtain ⟨X, hX⟩ : ∃ X, crcF i0 (l.take k) = X := ⟨_, rfl⟩
      rw [hX] at hlt0 HS ⊢
      have ha := HA.out k hlt (by omega)
      obtain ⟨c, hc⟩ : ∃ c, l[k] = c := ⟨_, rfl⟩
      rw [hc] at ha HS
      have hb := HB.out X c hlt0
      have hY : X ^^^ c.toNat < 18446744073709551616 := xor_lt _ _ hlt0 (by have := c.toNat_lt; omega)
      obtain ⟨Y, hYe⟩ : ∃ Y, X ^^^ c.toNat = Y := ⟨_, rfl⟩
      rw [hYe] at hb hY HS
      have hc2 := c.toNat_lt
      clear hX hc hYe
      go_wp2_with fail
      refine (rsteps_any Y hY w).mono ?_
      rintro e w' ⟨rfl, rfl⟩
      go_wp2_with fail
      go_roundw
      case rel => exact ⟨k + 1, by omega, by go_num, by rw [HS.out], by trivial⟩
      case measure => simp [intOf]; omega
    · have hd : decide ((k : Int) < (l.length : Int)) = false := decide_eq_false (by omega)
      have hd' : decide (k < l.length) = false := decide_eq_false hlt
      have HE := Lib.hid (show crcF i0 (l.take k) = crcF i0 l by rw [List.take_of_length_le (by omega)])
      have hi := HI.out _ hlt0
      go_wp2_with fail
      go_ret
      rw [HE.out]
      exact ⟨rfl, rfl⟩
theorem rsum_any (l : List UInt8) (hl : l.length ≤ 1000000000) (w : World) : Calls Try.prog 19 #[.string (bs l)] w fun e w' => e = .returned (.int .u64 (sumR l : Nat)) ∧ w = w' := by
  have HM := Lib.hid (rmore_any 0 (by decide) l hl w)
  go_enter Try.func19, Try.ntmps19
  go_wp2_with fail
  refine HM.out.mono ?_
  rintro e w' ⟨rfl, rfl⟩
  go_wp2_with fail
  go_ret
  exact ⟨rfl, rfl⟩
end Crc
end Go.Proofs.Ytcmcdpoceeipbaa
