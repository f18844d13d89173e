/-
  Seat 01: the law WireOne, walked.
-/
import Derived.Deep.RegionWith
import Derived.OpenShut
import Derived.Deep.CutRange
import Derived.Test.YteilmkknedgmpaaWireWakes
namespace Go.Proofs.Yteilmkknedgmpaa
open Go.RowKit
namespace Wire
theorem whole (l : List UInt8) (h : (endR (numR ⟨l, 0⟩).2).e = 0) : numB (numR ⟨l, 0⟩).1 = l := by
  rcases num_cases ⟨l, 0⟩ rfl with ⟨e, h1, h2⟩ | ⟨n, r, h1, h2, h3⟩
  · rw [h1] at h; unfold endR at h; simp at h; omega
  · rw [h3] at h ⊢
    simp only at h1
    unfold endR at h
    cases r with
    | nil => rw [h1]; simp
    | cons c r => simp at h
theorem numB_inj {n m : Nat} (hn : n < 18446744073709551616) (hm : m < 18446744073709551616) (h : numB n = numB m) : n = m := by
  have h1 := numR_numB n hn []
  have h2 := numR_numB m hm []
  rw [h, h2] at h1
  exact (congrArg Prod.fst h1).symm
theorem numB_mono {n m : Nat} (hn : n < 18446744073709551616) (hm : m < 18446744073709551616) (h : n < m) : (numB n).length ≤ (numB m).length := by
  rw [numB_length, numB_length]
  by_cases h1 : n < 248
  · rw [if_pos h1]; split <;> omega
  · rw [if_neg h1, if_neg (by omega)]
    have a := wide_ge n hn (by omega)
    have b := wide_lt m hm
    rcases Nat.lt_or_ge (wide m) (wide n) with hl | hl
    · have := Nat.pow_le_pow_right (n := 256) (by decide) (show wide m ≤ wide n - 1 by omega)
      omega
    · omega
theorem below_num (n m : Nat) (hn : n < 18446744073709551616) : belowR ⟨numB n, 0⟩ m = if n < m then (n, ⟨[], 0⟩) else (0, ⟨[], 4⟩) := by
  have h := numR_numB n hn []
  rw [List.append_nil] at h
  unfold belowR
  rw [h]
  simp
/-- As num_new; the text reads as it did in every later world. -/
theorem num_kept (n : Nat) (hn : n < 18446744073709551616) (w : World) :
    Calls Try.prog 10 #[.slice none 0 0, .int .u64 n] w fun e w' => ∃ v, e = .returned v ∧ (∀ w2, Below w'.heap.size w' w2 → (convert 22 9 v).run Try.prog w2 = .ok (.string (bs (numB n))) w2) ∧ Below w.heap.size w w' := by
  refine (num_any w.heap.size _ 0 [] n hn w (own_nil _ _) (by omega) (Nat.le_refl _)).mono ?_
  rintro e w' ⟨v, rfl, h1, h2⟩
  exact ⟨v, rfl, fun w2 hb => own_text (ownsRow_below (by simpa using h1) hb), below_grew h2⟩
theorem below_undrew {B : Nat} {w w' : World} (h : Below B w.drew w') : Below B w w' := ⟨h.os, h.tape, h.output, h.size, h.block⟩
theorem below_to {w w1 w2 : World} (h : Below w.heap.size w w1) (g : Below w1.heap.size w1 w2) : Below w.heap.size w w2 := h.trans (g.mono h.size)
theorem one_short (l : List UInt8) (n m : Nat) (w : World) (hl : 12 < l.length) :
    Calls Try.prog 6 #[.string (bs l), .int .u64 n, .int .u64 m] w fun e w' => e = .returned (.bool true) ∧ Below w.heap.size w w' := by
  have hs := bs_size l
  have hd : decide ((12 : Int) < (l.length : Int)) = true := by simp; omega
  have hd2 : decide (12 < l.length) = true := by simp; omega
  go_enter Try.func6, Try.ntmps6
  go_wp2_with fail
  refine (wakes_any w).mono ?_
  rintro e w1 ⟨rfl, hb⟩
  go_wp2
  go_ret
  exact ⟨rfl, hb⟩
set_option maxRecDepth 100000 in
set_option maxHeartbeats 4000000 in
theorem one_walk (l : List UInt8) (n m : Nat) (hn : n < 18446744073709551616) (hm : m < 18446744073709551616) (w : World) (hl : ¬ 12 < l.length) :
    Calls Try.prog 6 #[.string (bs l), .int .u64 n, .int .u64 m] w fun e w' => e = .returned (.bool true) ∧ Below w.heap.size w w' := by
  have hs := bs_size l
  have hd : decide ((12 : Int) < (l.length : Int)) = false := by simp; omega
  have hd2 : decide (12 < l.length) = false := by simpa using hl
  have hwh := Lib.hid (whole l)
  have hxl := numR_lt ⟨l, 0⟩
  have hnm := Lib.hid (below_num n m hn)
  have HT := Lib.hid (show (n < m ∧ ((bs (numB n)).toList == (bs (numB m)).toList) = false ∧ (numB n).length ≤ (numB m).length) ∨ n = m ∨ (m < n ∧ ((bs (numB n)).toList == (bs (numB m)).toList) = false) by
    rw [bs_toList, bs_toList]
    rcases Nat.lt_trichotomy n m with h | h | h
    · refine .inl ⟨h, ?_, numB_mono hn hm h⟩
      rw [beq_eq_false_iff_ne]; intro e; have := numB_inj hn hm e; omega
    · exact .inr (.inl h)
    · refine .inr (.inr ⟨h, ?_⟩)
      rw [beq_eq_false_iff_ne]; intro e; have := numB_inj hn hm e; omega)
  go_enter Try.func6, Try.ntmps6
  go_wp2_with fail
  refine (of_any l w).mono ?_
  rintro e w1 ⟨b, rfl, hb, hB1, hr1⟩
  have z1 := hB1.size
  go_wp2_with fail
  refine (num_of b _ w1 hr1 (by simp only []; omega)).mono ?_
  obtain ⟨x, s1, hx⟩ : ∃ x s1, numR ⟨l, 0⟩ = (x, s1) := ⟨_, _, rfl⟩
  rw [hx] at hwh hxl ⊢
  rintro e w2 ⟨rfl, g2, hr2⟩
  have hB2 := Below.grew hB1 g2 (by omega) hb
  have z2 := hB2.size
  clear hB1 g2 hr1 hx
  go_upto_region 5 with (fail)
  go_cut [30] from 21 to 30 (fun s30 wx => s30 = .bool false ∧ Below w.heap.size w wx)
  case first =>
    clear HT hnm
    go_wp2_with fail
    refine (end_of b _ w2 hr2).mono ?_
    rintro e w3 ⟨rfl, g3, hr3⟩
    have hB3 := Below.grew hB2 g3 (by omega) hb
    have z3 := hB3.size
    clear hB2 g3 hr2
    obtain ⟨e0, he0⟩ : ∃ e0, (endR s1).e = e0 := ⟨_, rfl⟩
    rw [he0]
    by_cases h0 : e0 = 0
    · have hw2 := Lib.hid (hwh.out (by rw [he0, h0]))
      have h1 : ((e0 : Int) == 0) = true := by simp [h0]
      have h2 : ((bs (numB x)).toList == (bs l).toList) = true := by rw [bs_toList, bs_toList, hw2.out]; simp
      clear hwh hr3 he0 h0 hw2
      go_wp2_with fail
      refine (num_new x hxl w3).mono ?_
      rintro e w4 ⟨v, rfl, hcv, b4⟩
      have hB4 := hB3.trans (b4.mono z3)
      go_wp2_with fail
      go_meet
      exact ⟨rfl, hB4⟩
    · have h1 : ((e0 : Int) == 0) = false := by simp; omega
      clear hwh hr3 he0 h0
      go_wp2_with fail
      go_meet
      exact ⟨rfl, hB3⟩
  case rest =>
  obtain ⟨rfl, hBc⟩ := hcut
  have zc := hBc.size
  clear hB2 hr2 hwh z2 hxl
  go_upto_region 7 with (fail)
  go_cut [9, 10] from 31 to 36 (fun s9 s10 wx => s9 = .string (bs (numB n)) ∧ s10 = .string (bs (numB m)) ∧ Below wc.heap.size wc wx)
  case first =>
    clear HT hnm
    go_region_with (go_at_call 10; refine (num_kept _ (by assumption) _).mono ?_; (try have hcP := hca); (try have bP := ba); rintro e wa ⟨va, rfl, hca, ba⟩; have ha := hca _ (Below.refl _ _); (try have hP := hcP _ ba))
    all_goals (go_wp2_with fail; go_meet)
    all_goals exact ⟨rfl, rfl, below_to (below_undrew bP) ba⟩
  case rest =>
  obtain ⟨rfl, rfl, hBd⟩ := hcut
  have hBe := hBc.trans (hBd.mono zc)
  have ze := hBe.size
  clear hBc hBd
  go_wp2_with fail
  refine (of_any (numB n) wc).mono ?_
  rintro e w3 ⟨c, rfl, hc, b3, hs3⟩
  have hB3 := hBe.trans (b3.mono ze)
  have z3 := hB3.size
  clear hBe b3
  go_wp2_with fail
  refine (below_any c _ m hm w3 hs3 (by have := numB_le n; simp only []; omega)).mono ?_
  rintro e w4 ⟨rfl, g4, hs4⟩
  rw [hnm.out] at hs4 ⊢
  have hB4 := Below.grew hB3 g4 (by omega) (by omega)
  have z4 := hB4.size
  clear hB3 g4 hs3 hnm
  rcases HT.out with ⟨h, hq, hlen⟩ | rfl | ⟨h, hq⟩
  · rw [if_pos h] at hs4 ⊢
    have t1 : (n == m) = false := by simp; omega
    have t2 : decide (n < m) = true := by simp; omega
    have t3 : decide (m ≤ n) = false := by simp; omega
    have t1' : ((n : Int) == m) = false := by simp; omega
    have t2' : decide ((n : Int) < m) = true := by simp; omega
    have t3' : decide ((m : Int) ≤ n) = false := by simp; omega
    have ln := bs_size (numB n)
    have lm := bs_size (numB m)
    generalize (numB n).length = k1 at *
    generalize (numB m).length = k2 at *
    clear HT h hs hl hd hd2
    go_wp2_with fail
    refine (err_of c _ w4 hs4).mono ?_
    rintro e w' ⟨rfl, rfl⟩
    by_cases hl2 : k1 < k2
    · have t4 : decide (k1 < k2) = true := by simp; omega
      have t4' : decide ((k1 : Int) < (k2 : Int)) = true := by simp; omega
      go_wp2_with fail
      refine (wakes_any w4).mono ?_
      rintro e w5 ⟨rfl, b5⟩
      go_wp2
      go_ret
      exact ⟨rfl, hB4.trans (b5.mono z4)⟩
    · have t4 : decide (k1 < k2) = false := by simp; omega
      have t5 : (k1 == k2) = true := by simp; omega
      have t4' : decide ((k1 : Int) < (k2 : Int)) = false := by simp; omega
      have t5' : ((k1 : Int) == (k2 : Int)) = true := by simp; omega
      go_wp2_with fail
      refine (wakes_any w4).mono ?_
      rintro e w5 ⟨rfl, b5⟩
      go_wp2
      go_ret
      exact ⟨rfl, hB4.trans (b5.mono z4)⟩
  · rw [if_neg (Nat.lt_irrefl n)] at hs4 ⊢
    have t0 : ((bs (numB n)).toList == (bs (numB n)).toList) = true := beq_self_eq_true _
    have t1 : (n == n) = true := by simp
    have t2 : decide (n < n) = false := by simp
    have t3 : decide (n ≤ n) = true := by simp
    have t1' : ((n : Int) == n) = true := by simp
    have t2' : decide ((n : Int) < n) = false := by simp
    have t3' : decide ((n : Int) ≤ n) = true := by simp
    have ln := bs_size (numB n)
    generalize (numB n).length = k1 at *
    clear HT hs hl hd hd2
    go_wp2_with fail
    refine (err_of c _ w4 hs4).mono ?_
    rintro e w' ⟨rfl, rfl⟩
    by_cases h0 : n = 0
    · have t6 : ((0 : Int) == (n : Int)) = true := by simp; omega
      have t6' : ((0 : Nat) == n) = true := by simp; omega
      clear h0
      go_wp2_with fail
      refine (wakes_any w4).mono ?_
      rintro e w5 ⟨rfl, b5⟩
      go_wp2
      go_ret
      exact ⟨rfl, hB4.trans (b5.mono z4)⟩
    · have t6 : ((0 : Int) == (n : Int)) = false := by simp; omega
      have t6' : ((0 : Nat) == n) = false := by simp; omega
      clear h0
      go_wp2_with fail
      refine (wakes_any w4).mono ?_
      rintro e w5 ⟨rfl, b5⟩
      go_wp2
      go_ret
      exact ⟨rfl, hB4.trans (b5.mono z4)⟩
  · rw [if_neg (by omega)] at hs4 ⊢
    have t1 : (n == m) = false := by simp; omega
    have t2 : decide (n < m) = false := by simp; omega
    have t3 : decide (m ≤ n) = true := by simp; omega
    have t1' : ((n : Int) == m) = false := by simp; omega
    have t2' : decide ((n : Int) < m) = false := by simp; omega
    have t3' : decide ((m : Int) ≤ n) = true := by simp; omega
    have t6 : ((0 : Int) == (n : Int)) = false := by simp; omega
    have t6' : ((0 : Nat) == n) = false := by simp; omega
    have ln := bs_size (numB n)
    have lm := bs_size (numB m)
    generalize (numB n).length = k1 at *
    generalize (numB m).length = k2 at *
    clear HT h hs hl hd hd2
    go_wp2_with fail
    refine (err_of c _ w4 hs4).mono ?_
    rintro e w' ⟨rfl, rfl⟩
    by_cases hl2 : k1 < k2
    · have t4 : decide (k1 < k2) = true := by simp; omega
      have t4' : decide ((k1 : Int) < (k2 : Int)) = true := by simp; omega
      go_wp2_with fail
      refine (wakes_any w4).mono ?_
      rintro e w5 ⟨rfl, b5⟩
      go_wp2
      go_ret
      exact ⟨rfl, hB4.trans (b5.mono z4)⟩
    · have t4 : decide (k1 < k2) = false := by simp; omega
      have t4' : decide ((k1 : Int) < (k2 : Int)) = false := by simp; omega
      go_wp2_with fail
      refine (wakes_any w4).mono ?_
      rintro e w5 ⟨rfl, b5⟩
      go_wp2
      go_ret
      exact ⟨rfl, hB4.trans (b5.mono z4)⟩
theorem one_law (s : ByteArray) (n m : Int) (w : World) (_ : s.size ≤ maxLen) (h1 : (Lit.int .u64 n).wf = true) (h2 : (Lit.int .u64 m).wf = true) :
    Calls Try.prog 6 #[.string s, .int .u64 n, .int .u64 m] w fun e w' => e = .returned (.bool true) ∧ Below w.heap.size w w' := by
  have b1 := bounds_u64 h1
  have b2 := bounds_u64 h2
  obtain ⟨n, rfl⟩ : ∃ k : Nat, n = k := ⟨n.toNat, by omega⟩
  obtain ⟨m, rfl⟩ : ∃ k : Nat, m = k := ⟨m.toNat, by omega⟩
  rw [← bs_list s]
  by_cases h : 12 < s.data.toList.length
  · exact one_short _ n m w h
  · exact one_walk _ n m (by omega) (by omega) w h
end Wire
end Go.Proofs.Yteilmkknedgmpaa
