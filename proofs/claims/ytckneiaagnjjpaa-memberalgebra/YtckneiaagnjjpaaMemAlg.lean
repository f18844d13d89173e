/-
  The walk of MemberAlgebra: for any three bytes it answers true.
-/
import Derived.Test.YtckneiaagnjjpaaMemTold
import Derived.Test.YtckneiaagnjjpaaMemWakes
namespace Go.Proofs.Ytckneiaagnjjpaa
open Go.RowKit
namespace R8
open Mem
theorem ext7 (a b : Nat) (ha : a < 128) (hb : b < 128) (h : ∀ i < 7, a.testBit i = b.testBit i) : a = b := by
  refine Nat.eq_of_testBit_eq fun i => ?_
  by_cases hi : i < 7
  · exact h i hi
  · rw [high_bit a i ha hi, high_bit b i hb hi]
theorem bt_split (s o : Bool) : bt (s && !o) + bt (s && o) = bt s := by cases s <;> cases o <;> rfl
theorem bt_union (s o : Bool) : bt (s || o) + bt (s && o) = bt s + bt o := by cases s <;> cases o <;> rfl
theorem cnt_split (s o : Nat) (ho : o < 256) : cnt (mWithout s o) + cnt (mBoth s o) = cnt s := by
  have g := fun i => bt_split (s.testBit i) (o.testBit i)
  have h0 := g 0; have h1 := g 1; have h2 := g 2; have h3 := g 3; have h4 := g 4; have h5 := g 5; have h6 := g 6
  clear g
  unfold cnt
  simp only [bit_both _ _ 0 (by decide), bit_both _ _ 1 (by decide), bit_both _ _ 2 (by decide), bit_both _ _ 3 (by decide), bit_both _ _ 4 (by decide), bit_both _ _ 5 (by decide), bit_both _ _ 6 (by decide),
    bit_without _ _ 0 ho (by decide), bit_without _ _ 1 ho (by decide), bit_without _ _ 2 ho (by decide), bit_without _ _ 3 ho (by decide), bit_without _ _ 4 ho (by decide), bit_without _ _ 5 ho (by decide), bit_without _ _ 6 ho (by decide)]
  omega
theorem cnt_union (s o : Nat) : cnt (mWith s o) + cnt (mBoth s o) = cnt s + cnt o := by
  have g := fun i => bt_union (s.testBit i) (o.testBit i)
  have h0 := g 0; have h1 := g 1; have h2 := g 2; have h3 := g 3; have h4 := g 4; have h5 := g 5; have h6 := g 6
  clear g
  unfold cnt
  simp only [bit_both _ _ 0 (by decide), bit_both _ _ 1 (by decide), bit_both _ _ 2 (by decide), bit_both _ _ 3 (by decide), bit_both _ _ 4 (by decide), bit_both _ _ 5 (by decide), bit_both _ _ 6 (by decide),
    bit_with _ _ 0 (by decide), bit_with _ _ 1 (by decide), bit_with _ _ 2 (by decide), bit_with _ _ 3 (by decide), bit_with _ _ 4 (by decide), bit_with _ _ 5 (by decide), bit_with _ _ 6 (by decide)]
  omega
theorem alg_with (s o : Nat) (hs : s < 128) (ho : o < 256) : mWith (mWithout s o) (mBoth s o) = s :=
  ext7 _ _ (mWith_lt _ _) hs fun i hi => by rw [bit_with _ _ _ hi, bit_without _ _ _ ho hi, bit_both _ _ _ hi]; cases s.testBit i <;> cases o.testBit i <;> rfl
theorem alg_both (s o : Nat) (ho : o < 256) : mBoth (mWithout s o) (mBoth s o) = 0 :=
  ext7 _ _ (mBoth_lt _ _) (by decide) fun i hi => by rw [bit_both _ _ _ hi, bit_without _ _ _ ho hi, bit_both _ _ _ hi, Nat.zero_testBit]; cases s.testBit i <;> cases o.testBit i <;> rfl
theorem alg_comm (s o : Nat) : mWith s o = mWith o s :=
  ext7 _ _ (mWith_lt _ _) (mWith_lt _ _) fun i hi => by rw [bit_with _ _ _ hi, bit_with _ _ _ hi]; exact Bool.or_comm _ _
theorem has_with (s o n : Nat) : mHas (mWith s o) n = (mHas s n || mHas o n) := by
  by_cases hi : n < 7
  · simp [mHas, bit_with _ _ _ hi, hi]
  · simp [mHas, hi]
theorem has_both (s o n : Nat) : mHas (mBoth s o) n = (mHas s n && mHas o n) := by
  by_cases hi : n < 7
  · simp [mHas, bit_both _ _ _ hi, hi]
  · simp [mHas, hi]
theorem has_without (s o n : Nat) (ho : o < 256) : mHas (mWithout s o) n = (mHas s n && !mHas o n) := by
  by_cases hi : n < 7
  · simp [mHas, bit_without _ _ _ ho hi, hi]
  · simp [mHas, hi]
theorem of_list : ∀ s < 128, mOf (listN s) = s := by decide +kernel
theorem both_self (s : Nat) (hs : s < 128) : mBoth s s = s :=
  ext7 _ _ (mBoth_lt _ _) hs fun i hi => by rw [bit_both _ _ _ hi, Bool.and_self]
theorem cnt_zero (x : Nat) : cnt (mWith x 0) = cnt x := by have := cnt_union x 0; have h : mBoth x 0 = 0 := by simp [mBoth]
                                                           rw [h] at this; have h0 : cnt 0 = 0 := by decide
                                                           omega
theorem may_self (s : Nat) (hs : s < 128) : mMay s s = decide (0 < cnt s) := by
  rw [may_list s s (by omega) (by omega), mayN, pick_list_false s s (by omega), list_len s (by omega)]
  have h : mWithout s s = 0 := ext7 _ _ (mWithout_lt _ _) (by decide) fun i hi => by rw [bit_without _ _ _ (by omega) hi, Nat.zero_testBit]; cases s.testBit i <;> rfl
  rw [h]; simp [show listN 0 = [] from by decide]

set_option maxRecDepth 100000 in
set_option maxHeartbeats 4000000 in
theorem alg_walk (x y n : Nat) (hx : x < 256) (hy : y < 256) (hn : n < 256) (w : World) :
    Calls Try.prog 6 #[.int .u8 x, .int .u8 y, .int .u8 n] w fun e w' => e = .returned (.bool true) ∧ Below w.heap.size w w' := by
  have hs := mWith_lt x 0
  have ho := mWith_lt y 0
  have HX := Lib.hid (cnt_zero x)
  go_enter Try.func6, Try.ntmps6
  go_wp2_with fail
  refine (with_any x 0 (by omega) (by omega) (by omega) (by omega) _).mono ?_
  rintro e w' ⟨rfl, rfl⟩
  simp only [Int.toNat_natCast, Int.toNat_zero]
  go_wp2_with fail
  refine (with_any y 0 (by omega) (by omega) (by omega) (by omega) _).mono ?_
  rintro e w' ⟨rfl, rfl⟩
  simp only [Int.toNat_natCast, Int.toNat_zero]
  generalize mWith x 0 = s at *
  generalize mWith y 0 = o at *
  have H1 := Lib.hid (alg_with s o hs (by omega))
  have H2 := Lib.hid (alg_both s o (by omega))
  have H3 := Lib.hid (cnt_split s o (by omega))
  have H4 := Lib.hid (alg_comm s o)
  have H5 := Lib.hid (cnt_union s o)
  have H6 := Lib.hid (has_with s o n)
  have H7 := Lib.hid (has_both s o n)
  have H8 := Lib.hid (has_without s o n (by omega))
  have H9 := Lib.hid (of_list s hs)
  have HS := Lib.hid (both_self s hs)
  have HY := Lib.hid (may_self s hs)
  have la := mWithout_lt s o
  have lb := mBoth_lt s o
  have lw := mWith_lt s o
  have c1 := cnt_le (mWithout s o)
  have c2 := cnt_le (mBoth s o)
  have c3 := cnt_le s
  have c4 := cnt_le o
  have c5 := cnt_le (mWith s o)
  have HM : Hid (mMajor s s = decide (0 < cnt s)) := Lib.hid (by rw [mMajor, HS.out]; simp; omega)
  have HO : Hid (mMajor s o = decide (cnt s < 2 * cnt (mBoth s o))) := Lib.hid rfl
  go_wp2_with fail
  refine (without_any s o (by omega) (by omega) (by omega) (by omega) _).mono ?_
  rintro e w' ⟨rfl, rfl⟩
  simp only [Int.toNat_natCast]
  go_wp2_with fail
  refine (both_any s o (by omega) (by omega) (by omega) (by omega) _).mono ?_
  rintro e w' ⟨rfl, rfl⟩
  simp only [Int.toNat_natCast]
  generalize hga : mWithout s o = a at *
  generalize hgb : mBoth s o = b at *
  clear hga hgb
  go_wp2_with fail
  refine (with_any a b (by omega) (by omega) (by omega) (by omega) _).mono ?_
  rintro e w' ⟨rfl, rfl⟩
  simp only [Int.toNat_natCast]
  rw [H1.out]
  go_wp2_with fail
  refine (both_any a b (by omega) (by omega) (by omega) (by omega) _).mono ?_
  rintro e w' ⟨rfl, rfl⟩
  simp only [Int.toNat_natCast]
  rw [H2.out]
  go_wp2_with fail
  refine (len_any a (by omega) (by omega) _).mono ?_
  rintro e w' ⟨rfl, rfl⟩
  go_wp2_with fail
  refine (len_any b (by omega) (by omega) _).mono ?_
  rintro e w' ⟨rfl, rfl⟩
  go_wp2_with fail
  refine (len_any s (by omega) (by omega) _).mono ?_
  rintro e w' ⟨rfl, rfl⟩
  simp only [Int.toNat_natCast]
  rw [← H3.out]
  go_wp2_with fail
  refine (with_any s o (by omega) (by omega) (by omega) (by omega) _).mono ?_
  rintro e w' ⟨rfl, rfl⟩
  go_wp2_with fail
  refine (with_any o s (by omega) (by omega) (by omega) (by omega) _).mono ?_
  rintro e w' ⟨rfl, rfl⟩
  simp only [Int.toNat_natCast]
  rw [← H4.out]
  have e5 : ((cnt (mWith s o) : Int) + (cnt b : Int) != (cnt s : Int) + (cnt o : Int)) = false := by have := H5.out; simp; omega
  go_wp2_with fail
  refine (with_any s o (by omega) (by omega) (by omega) (by omega) _).mono ?_
  rintro e w' ⟨rfl, rfl⟩
  simp only [Int.toNat_natCast]
  generalize hgc : mWith s o = c at *
  have HC := Lib.hid hgc
  clear hgc
  go_wp2_with (go_at_call 11; refine (len_any _ (by omega) (by omega) _).mono ?_; rintro e w' ⟨rfl, rfl⟩; simp only [Int.toNat_natCast])
  clear e5
  refine (with_any s o (by omega) (by omega) (by omega) (by omega) _).mono ?_
  rintro e w' ⟨rfl, rfl⟩
  simp only [Int.toNat_natCast]
  rw [HC.out]
  have e6 := H6.out
  have e7 := H7.out
  have e8 := H8.out
  cases h1 : mHas s n <;> cases h2 : mHas o n
  all_goals
    rw [h1, h2] at e6 e7
    rw [h1, h2] at e8
    simp only [Bool.or_true, Bool.true_or, Bool.or_self, Bool.and_self, Bool.and_false, Bool.false_and, Bool.not_true, Bool.not_false] at e6 e7 e8
    go_wp2_with (go_at_call 18; refine (Mem.has_any _ _ (by omega) (by omega) (by omega) (by omega) _).mono ?_; rintro e w' ⟨rfl, rfl⟩; simp only [Int.toNat_natCast])
    clear e6 e7 e8 h1 h2
  all_goals
    refine (told_any s 99 (by omega) (by decide) (by decide) _).mono ?_
    rintro e w1 ⟨v, rfl, own1, b1⟩
    go_wp2_with fail
    refine (of_any v (listN s) _ (by have hl := List.take_of_length_le (i := 99) (l := listN s) (by have : (listN s).length ≤ 7 := listTo_len s 7; omega); rw [hl] at own1; exact RdB.owns own1 (fun z hz => by have := listTo_lt s 7 z hz; omega))).mono ?_
    rintro e w' ⟨rfl, rfl⟩
    rw [H9.out]
    have s1 := b1.size
    clear own1
    by_cases h0 : cnt s = 0
    · have hx0 : cnt x = 0 := by rw [← HX.out]; exact h0
      have hy : mMay s s = false := by rw [HY.out, h0]; rfl
      clear H1 H2 H3 H4 H5 H6 H7 H8 H9 HO HM HC HS HY HX
      go_wp2_with (first
        | (go_at_call 11; refine (len_any _ (by omega) (by omega) _).mono ?_; rintro e w' ⟨rfl, rfl⟩; simp only [Int.toNat_natCast])
        | (go_at_call 22; refine (Mem.may_any s s (by omega) (by omega) _).mono ?_; rintro e w2 ⟨rfl, b2⟩)
        | (go_at_call 13; refine (wakes_any _).mono ?_; rintro e w3 ⟨rfl, b3⟩))
      go_ret
      exact ⟨rfl, (b1.trans (b2.mono s1)).trans (b3.mono (b1.trans (b2.mono s1)).size)⟩
    · have hpos : 0 < cnt s := by omega
      have hb0 : ((cnt s : Int) == 0) = false := by rw [beq_eq_false_iff_ne]; omega
      have hy : mMay s s = true := by rw [HY.out]; simpa using hpos
      have hm : mMajor s s = true := by rw [HM.out]; simpa using hpos
      have hx0 := HX.out
      by_cases hq : cnt s < 2 * cnt b
      · have hmo : mMajor s o = true := by rw [HO.out]; simpa using hq
        have hnd : ¬ cnt b < cnt s / 2 + 1 := by omega
        clear H1 H2 H3 H4 H5 H6 H7 H8 H9 HO HM HC HS HY HX
        go_wp2_with (first
          | (go_at_call 11; refine (len_any _ (by omega) (by omega) _).mono ?_; rintro e w' ⟨rfl, rfl⟩; simp only [Int.toNat_natCast])
          | (go_at_call 24; refine (need_any _ (by omega) (by omega) _).mono ?_; rintro e w' ⟨rfl, rfl⟩; simp only [Int.toNat_natCast])
          | (go_at_call 9; refine (Mem.major_any _ _ (by omega) (by omega) (by omega) (by omega) _).mono ?_; rintro e w' ⟨rfl, rfl⟩; simp only [Int.toNat_natCast])
          | (go_at_call 22; refine (Mem.may_any s s (by omega) (by omega) _).mono ?_; rintro e w2 ⟨rfl, b2⟩)
          | (go_at_call 13; refine (wakes_any _).mono ?_; rintro e w3 ⟨rfl, b3⟩))
        go_ret
        exact ⟨rfl, (b1.trans (b2.mono s1)).trans (b3.mono (b1.trans (b2.mono s1)).size)⟩
      · have hnd : cnt b < cnt s / 2 + 1 := by omega
        clear H1 H2 H3 H4 H5 H6 H7 H8 H9 HO HM HC HS HY HX
        go_wp2_with (first
          | (go_at_call 11; refine (len_any _ (by omega) (by omega) _).mono ?_; rintro e w' ⟨rfl, rfl⟩; simp only [Int.toNat_natCast])
          | (go_at_call 24; refine (need_any _ (by omega) (by omega) _).mono ?_; rintro e w' ⟨rfl, rfl⟩; simp only [Int.toNat_natCast])
          | (go_at_call 9; refine (Mem.major_any _ _ (by omega) (by omega) (by omega) (by omega) _).mono ?_; rintro e w' ⟨rfl, rfl⟩; simp only [Int.toNat_natCast])
          | (go_at_call 22; refine (Mem.may_any s s (by omega) (by omega) _).mono ?_; rintro e w2 ⟨rfl, b2⟩)
          | (go_at_call 13; refine (wakes_any _).mono ?_; rintro e w3 ⟨rfl, b3⟩))
        go_ret
        exact ⟨rfl, (b1.trans (b2.mono s1)).trans (b3.mono (b1.trans (b2.mono s1)).size)⟩
theorem alg_law (x y n : Int) (w : World) (hwx : (Lit.int .u8 x).wf = true) (hwy : (Lit.int .u8 y).wf = true) (hwn : (Lit.int .u8 n).wf = true) :
    Calls Try.prog 6 #[.int .u8 x, .int .u8 y, .int .u8 n] w fun e w' => e = .returned (.bool true) ∧ Below w.heap.size w w' := by
  obtain ⟨hx0, hx1⟩ := bounds_u8 hwx
  obtain ⟨hy0, hy1⟩ := bounds_u8 hwy
  obtain ⟨hn0, hn1⟩ := bounds_u8 hwn
  obtain ⟨X, rfl⟩ := Int.eq_ofNat_of_zero_le hx0
  obtain ⟨Y, rfl⟩ := Int.eq_ofNat_of_zero_le hy0
  obtain ⟨N, rfl⟩ := Int.eq_ofNat_of_zero_le hn0
  exact alg_walk X Y N (by omega) (by omega) (by omega) w
end R8
end Go.Proofs.Ytckneiaagnjjpaa
