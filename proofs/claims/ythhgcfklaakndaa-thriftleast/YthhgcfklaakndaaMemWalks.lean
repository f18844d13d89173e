/-
  The functions of the package member, walked: each answers its plain count.
-/
import Derived.Test.YthhgcfklaakndaaBase
import Derived.Test.YthhgcfklaakndaaShelf
import Derived.Test.YthhgcfklaakndaaMemPure
namespace Go.Proofs.Ythhgcfklaakndaa
open Go.RowKit
namespace Mem

theorem u8_127 (a : Int) (h : 0 ≤ a) (h2 : a ≤ 255) : bits .and .u8 a 127 = ((a.toNat &&& 127 : Nat) : Int) := u8_and a 127 h (by omega) (by decide) (by decide)

theorem with_any (a b : Int) (ha : 0 ≤ a) (ha' : a ≤ 255) (hb : 0 ≤ b) (hb' : b ≤ 255) (w : World) :
    Calls Try.prog 8 #[.int .u8 a, .int .u8 b] w fun e w' => e = .returned (.int .u8 (mWith a.toNat b.toNat : Nat)) ∧ w = w' := by
  have H := Lib.hid (show bits .and .u8 (bits .or .u8 a b) 127 = (mWith a.toNat b.toNat : Nat) by
    rw [u8_or a b ha (by omega) hb (by omega), u8_127 _ (by omega) (by have := or_lt a.toNat b.toNat (by omega) (by omega); omega)]; rfl)
  go_enter Try.func8, Try.ntmps8
  go_wp2
  go_ret
  exact ⟨by rw [← H.out]; rfl, rfl⟩
theorem without_any (a b : Int) (ha : 0 ≤ a) (ha' : a ≤ 255) (hb : 0 ≤ b) (hb' : b ≤ 255) (w : World) :
    Calls Try.prog 12 #[.int .u8 a, .int .u8 b] w fun e w' => e = .returned (.int .u8 (mWithout a.toNat b.toNat : Nat)) ∧ w = w' := by
  have H := Lib.hid (show bits .and .u8 (bits .andNot .u8 a b) 127 = (mWithout a.toNat b.toNat : Nat) by
    rw [u8_andNot a b ha (by omega) hb (by omega), u8_127 _ (by omega) (by have := and_lt a.toNat (255 - b.toNat) (by omega); omega)]; rfl)
  go_enter Try.func12, Try.ntmps12
  go_wp2
  go_ret
  exact ⟨by rw [← H.out]; rfl, rfl⟩
theorem both_any (a b : Int) (ha : 0 ≤ a) (ha' : a ≤ 255) (hb : 0 ≤ b) (hb' : b ≤ 255) (w : World) :
    Calls Try.prog 14 #[.int .u8 a, .int .u8 b] w fun e w' => e = .returned (.int .u8 (mBoth a.toNat b.toNat : Nat)) ∧ w = w' := by
  have H := Lib.hid (show bits .and .u8 (bits .and .u8 a b) 127 = (mBoth a.toNat b.toNat : Nat) by
    rw [u8_and a b ha (by omega) hb (by omega), u8_127 _ (by omega) (by have := and_lt a.toNat b.toNat (by omega); omega)]; rfl)
  go_enter Try.func14, Try.ntmps14
  go_wp2
  go_ret
  exact ⟨by rw [← H.out]; rfl, rfl⟩
theorem len_any (a : Int) (ha : 0 ≤ a) (ha' : a ≤ 255) (w : World) :
    Calls Try.prog 9 #[.int .u8 a] w fun e w' => e = .returned (.int .i64 (cnt a.toNat : Nat)) ∧ w = w' := by
  have H := Lib.hid (u8_127 a ha ha')
  have H2 := Lib.hid (onesCount_cnt a.toNat (by omega))
  have H3 := and_lt a.toNat 127 (by decide)
  go_enter Try.func9, Try.ntmps9
  go_wp2_with fail
  rw [H.out]
  refine (Try.bits_OnesCount8 _ _ (by omega) (by omega)).mono ?_
  rintro e w' ⟨rfl, rfl⟩
  rw [Int.toNat_natCast, H2.out]
  go_wp2
  go_ret
  exact ⟨rfl, rfl⟩
theorem need_any (a : Int) (ha : 0 ≤ a) (ha' : a ≤ 255) (w : World) :
    Calls Try.prog 17 #[.int .u8 a] w fun e w' => e = .returned (.int .i64 ((cnt a.toNat / 2 + 1 : Nat))) ∧ w = w' := by
  have H := cnt_le a.toNat
  go_enter Try.func17, Try.ntmps17
  go_wp2_with fail
  refine (len_any a ha ha' _).mono ?_
  rintro e w' ⟨rfl, rfl⟩
  go_wp2
  go_ret
  exact ⟨by simp, rfl⟩
theorem major_any (a b : Int) (ha : 0 ≤ a) (ha' : a ≤ 255) (hb : 0 ≤ b) (hb' : b ≤ 255) (w : World) :
    Calls Try.prog 13 #[.int .u8 a, .int .u8 b] w fun e w' => e = .returned (.bool (mMajor a.toNat b.toNat)) ∧ w = w' := by
  have H := mBoth_lt a.toNat b.toNat
  go_enter Try.func13, Try.ntmps13
  go_wp2_with fail
  refine (both_any a b ha ha' hb hb' _).mono ?_
  rintro e w' ⟨rfl, rfl⟩
  go_wp2_with fail
  refine (len_any _ (by omega) (by omega) _).mono ?_
  rintro e w' ⟨rfl, rfl⟩
  go_wp2_with fail
  refine (need_any a ha ha' _).mono ?_
  rintro e w' ⟨rfl, rfl⟩
  go_wp2
  go_ret
  refine ⟨?_, rfl⟩
  simp [mMajor]
  omega
theorem has_any (a n : Int) (ha : 0 ≤ a) (ha' : a ≤ 255) (hn : 0 ≤ n) (hn' : n ≤ 255) (w : World) :
    Calls Try.prog 15 #[.int .u8 a, .int .u8 n] w fun e w' => e = .returned (.bool (mHas a.toNat n.toNat)) ∧ w = w' := by
  by_cases h : n < 7
  · have H := Lib.hid (show (bits .and .u8 (a / 2 ^ n.toNat) 1 == 1) = mHas a.toNat n.toNat by
      have h1 := has_fact a.toNat (by omega) n.toNat (by omega)
      rw [Int.toNat_of_nonneg ha] at h1
      rw [h1, mHas, decide_eq_true (by omega)]; rfl)
    go_enter Try.func15, Try.ntmps15
    go_wp2
    go_ret
    exact ⟨by rw [← H.out]; rfl, rfl⟩
  · have H := Lib.hid (show mHas a.toNat n.toNat = false by rw [mHas, decide_eq_false (by omega)]; rfl)
    go_enter Try.func15, Try.ntmps15
    go_wp2
    go_ret
    exact ⟨by rw [H.out]; rfl, rfl⟩
set_option maxHeartbeats 400000 in
theorem of_any (v : Value) (l : List Nat) (w : World) (hv : RdB w v l) :
    Calls Try.prog 16 #[v] w fun e w' => e = .returned (.int .u8 (mOf l : Nat)) ∧ w = w' := by
  obtain ⟨p, cap, rfl, hb, hl, hc, _⟩ := hv
  go_enter Try.func16, Try.ntmps16
  go_wp2
  go_loop [3, 8] (fun s i => ∃ k : Nat, k ≤ l.length ∧ i = .int .i64 k ∧ s = .int .u8 (mOf (l.take k) : Nat)) (fun _ i => l.length - (intOf i).toNat)
  case atStart => exact ⟨0, Nat.zero_le _, rfl, rfl⟩
  case round =>
    obtain ⟨k, hk, rfl, rfl⟩ := hrel
    by_cases hlt : k < l.length
    · obtain ⟨b, off, rfl, hcell⟩ := hc k hlt
      have hx : l.getD k 0 < 256 := by rw [getD_at _ _ hlt]; exact hb _ (List.getElem_mem hlt)
      have ht : l.take (k + 1) = l.take k ++ [l.getD k 0] := by rw [List.take_succ_eq_append_getElem hlt, getD_at _ _ hlt]
      have H := Lib.hid (show mOf (l.take (k + 1)) = mOf (l.take k) ||| mOne (l.getD k 0) by rw [ht, mOf_snoc])
      generalize l.getD k 0 = x at hcell hx H
      have hm := mOf_lt (l.take k)
      have H2 := Lib.hid (show x < 7 → bits .or .u8 (mOf (l.take k) : Nat) (2 ^ x % 256) = (mOf (l.take (k + 1)) : Nat) by
        intro h7; rw [one_fact x h7, u8_or_nat _ _ (by omega) (by have := mOne_lt x; omega), H.out])
      have H3 := Lib.hid (show ¬ x < 7 → mOf (l.take (k + 1)) = mOf (l.take k) by
        intro h7; rw [H.out, mOne, if_neg h7, Nat.or_zero])
      clear ht hc hb hm
      by_cases h7 : x < 7
      · go_wp2
        go_round
        case rel => exact ⟨k + 1, by omega, by go_num, by rw [← H2.out h7]⟩
        case measure => simp [intOf]; omega
      · go_wp2
        go_round
        case rel => exact ⟨k + 1, by omega, by go_num, by rw [H3.out h7]⟩
        case measure => simp [intOf]; omega
    · clear hc
      go_wp2
      go_ret
      exact ⟨by rw [List.take_of_length_le (by omega)]; rfl, rfl⟩
/-- The same, at the walk's own spelling, and with the answer known. -/
theorem of_new (w : World) (l : List Nat) (vs : Array Value) (e : TypeId) (b n cap : Nat) (r : Int) (hb : b = w.heap.size) (hvs : (u8s l).toArray = vs) (hnn : l.length = n) (hr : ((mOf l : Nat) : Int) = r) (hl : ∀ x ∈ l, x < 256) (hn : l.length ≤ 9223372036854775807) :
    Calls Try.prog 16 #[.slice (some ⟨b, 0, none⟩) n cap] (w.alloc (.cells vs e)) fun e' w' => e' = .returned (.int .u8 r) ∧ w.alloc (.cells vs e) = w' := by
  subst hb; subst hvs; subst hnn; subst hr
  exact of_any _ l _ (rdB_new w l e cap hl hn)
end Mem
end Go.Proofs.Ythhgcfklaakndaa
