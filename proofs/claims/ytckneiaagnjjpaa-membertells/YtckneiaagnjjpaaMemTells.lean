/-
  The walk of MemberTells: for any byte, any bytes, any number, any node it answers true.
-/
import Derived.Deep.QuietTactic
import Derived.BigQuiet
import Derived.Test.YtckneiaagnjjpaaMemTold
import Derived.Test.YtckneiaagnjjpaaFlat
import Derived.Test.YtckneiaagnjjpaaMemWakes
namespace Go.Proofs.Ytckneiaagnjjpaa
open Go.RowKit
namespace R8
open Mem
theorem one_bit (n i : Nat) (hi : i < 7) : (mOne n).testBit i = decide (n = i) := by
  unfold mOne
  split
  · rw [Nat.testBit_two_pow]
  · rw [Nat.zero_testBit, decide_eq_false (by omega)]
theorem of_set (l : List Nat) : mOf l = setN l := by
  have h : ∀ (l : List Nat) (s i : Nat), i < 7 → (l.foldl (fun s n => s ||| mOne n) s).testBit i = (s.testBit i || hasN l i) := by
    intro l
    induction l with
    | nil => intro s i _; simp [hasN]
    | cons a l ih =>
      intro s i hi
      have e : hasN (a :: l) i = (decide (a = i) || hasN l i) := by
        rw [hasN, List.contains_cons, hasN]; congr 1; rw [Bool.eq_iff_iff]; simp; exact ⟨Eq.symm, Eq.symm⟩
      rw [List.foldl_cons, ih _ _ hi, Nat.testBit_or, one_bit _ _ hi, Bool.or_assoc, e]
  refine Nat.eq_of_testBit_eq fun i => ?_
  rw [set_bit]
  by_cases hi : i < 7
  · rw [mOf, h l 0 i hi, decide_eq_true hi]; simp
  · rw [high_bit _ _ (mOf_lt l) hi, decide_eq_false hi]; rfl
theorem first_set : ∀ k : Nat, k < 8 → 2 ^ k - 1 = setN (List.range k) := by decide +kernel
theorem range_lt (k : Nat) (hk : k ≤ 7) : ∀ z ∈ List.range k, z < 256 := by intro z hz; simp at hz; omega

set_option maxRecDepth 100000 in
set_option maxHeartbeats 4000000 in
theorem tells_walk (x : Nat) (hx : x < 256) (vl : Value) (l : List Nat) (n : Int) (hn0 : -9223372036854775808 ≤ n) (hn1 : n ≤ 9223372036854775807) (o : Nat) (ho : o < 256) (w : World) (hl : RdB w vl l) (hlen : l.length ≤ 100) :
    Calls Try.prog 4 #[.int .u8 x, vl, .int .i64 n, .int .u8 o] w fun e w' => e = .returned (.bool true) ∧ Below w.heap.size w w' := by
  have HL := Lib.hid hl
  have HO := Lib.hid (of_set l)
  have HH := Lib.hid (show hasN (listN x) o = mHas x o from has_list x o)
  have HC := Lib.hid (list_len x hx)
  have hc := cnt_le x
  have HT := Lib.hid (show ∀ z ∈ listN x, z < 256 from fun z hz => by have := listTo_lt x 7 z hz; omega)
  obtain ⟨p, cap, rfl, _⟩ := hl
  have hlenI : ¬ (100 : Int) < (l.length : Int) := by omega
  go_enter Try.func4, Try.ntmps4
  go_wp2_with fail
  refine (list_any x (by omega) (by omega) _).mono ?_
  rintro e w1 ⟨va, rfl, owa, b1⟩
  simp only [Int.toNat_natCast] at owa
  have s1 := b1.size
  go_wp2_with fail
  refine (told_any x 99 hx (by decide) (by decide) _).mono ?_
  rintro e w2 ⟨vg, rfl, owg, b2⟩
  rw [List.take_of_length_le (by have : (listN x).length ≤ 7 := listTo_len x 7; omega)] at owg
  have b2w := b1.trans (b2.mono b1.size)
  have s2 := b2.size
  have RA := Lib.hid ((RdB.owns owa HT.out).below b2 (Nat.le_refl _))
  have RG := Lib.hid (RdB.owns owg HT.out)
  clear owa owg
  go_wp2_with fail
  obtain ⟨m, hm⟩ : ∃ m : Nat, m = (max 0 (min n 7)).toNat := ⟨_, rfl⟩
  have hm7 : m ≤ 7 := by omega
  have HMn := Lib.hid hm
  clear hm
  go_loopw [12, 13] (fun v i wr => ∃ k : Nat, k ≤ m ∧ i = .int .i64 k ∧ wr.ownsRow w2.heap.size 5 1 v k (u8s (List.range k)) ∧ Below w2.heap.size w2 wr) (fun _ i _ => 7 - (intOf i).toNat)
  case atStart => exact ⟨0, Nat.zero_le _, rfl, World.ownsRow_nil _ _ _ _, Below.refl _ _⟩
  case round =>
    obtain ⟨k, hk, rfl, hown, hbel⟩ := hrel
    have hbz := hbel.size
    by_cases hlt : k < m
    · have hkn : (k : Int) < n := by have := HMn.out; omega
      have hk7 : (k : Int) < 7 := by omega
      have hkw : IntKind.u8.wrap (k : Int) = k := by rw [IntKind.wrap_u8]; omega
      have HR := Lib.hid (show u8s (List.range (k + 1)) = u8s (List.range k) ++ [.int .u8 (k : Int)] by rw [List.range_succ, u8s_append]; rfl)
      go_wp2_with (at_builtin; refine app1 rfl _ _ 29 rfl w2.heap.size 5 (.int .u8 0) 1 info Try.underlying29 rfl _ _ _ rfl _ _ _ hown rfl _ (by simp) rfl (by omega) (by omega) (by omega) ?_; intro v' w3 hown1 hg)
      go_roundw
      case rel => exact ⟨k + 1, by omega, by go_num, by rw [HR.out]; exact hown1, below_grown hbel hown hg (by omega) (by omega)⟩
      case measure => simp [intOf]; omega
    · obtain rfl : k = m := by omega
      have RF := Lib.hid (RdB.owns hown (range_lt k hm7))
      have HF := Lib.hid (show mFirst n = setN (List.range k) by rw [← first_set k (by omega), mFirst, ← HMn.out])
      have bw := b2w.trans (hbel.mono b2w.size)
      have sw := bw.size
      have RA' := Lib.hid (RA.out.below hbel (Nat.le_refl _))
      have RG' := Lib.hid (RG.out.below hbel (Nat.le_refl _))
      have hex : ¬ (k : Int) < n ∨ ¬ (k : Int) < 7 := by have := HMn.out; omega
      clear RA RG hown hbel
      have hcont : ((k : Int) < n ∧ ¬ (k : Int) < 7) ∨ ¬ (k : Int) < n := by omega
      clear hex
      rcases hcont with ⟨hkn, hk7⟩ | hkn
      all_goals
        go_wp2_with fail
        refine (of_any _ l _ (HL.out.below bw (Nat.le_refl _))).mono ?_
        rintro e w' ⟨rfl, rfl⟩
        rw [HO.out]
        go_wp2_with fail
        refine (set_any _ l _ (HL.out.below bw (Nat.le_refl _))).mono ?_
        rintro e w' ⟨rfl, rfl⟩
        go_wp2_with fail
        refine (first_any n hn0 hn1 _).mono ?_
        rintro e w' ⟨rfl, rfl⟩
        rw [HF.out]
        go_wp2_with fail
        refine (set_any _ (List.range k) _ RF.out).mono ?_
        rintro e w' ⟨rfl, rfl⟩
        go_wp2_with fail
        refine (Mem.has_any x o (by omega) (by omega) (by omega) (by omega) _).mono ?_
        rintro e w' ⟨rfl, rfl⟩
        simp only [Int.toNat_natCast]
        go_wp2_with fail
        refine (R8.has_any va _ o (by omega) (by omega) _ RA'.out).mono ?_
        rintro e w' ⟨rfl, rfl⟩
        simp only [Int.toNat_natCast]
        rw [HH.out]
        go_wp2_with fail
        refine (len_any x (by omega) (by omega) _).mono ?_
        rintro e w' ⟨rfl, rfl⟩
        simp only [Int.toNat_natCast]
        rw [← HC.out]
        have hc7 : (listN x).length ≤ 7 := listTo_len x 7
        obtain ⟨pa, ca, hva, _⟩ := RA'.out
        obtain ⟨pg, cg, hvg, _⟩ := RG'.out
        subst hva
        subst hvg
        go_wp2_with fail
        refine (told_any x 1 hx (by decide) (by decide) _).mono ?_
        rintro e w4 ⟨vt, rfl, owt, b4⟩
        obtain ⟨pt, ct, hvt, _⟩ := RdV.owns owt
        subst hvt
        have hq : (List.take 1 (listN x)).length = min 1 (listN x).length := List.length_take
        clear owt
        have hmn : (((min 1 (listN x).length : Nat) : Int) != min 1 ((listN x).length : Int)) = false := by simp; omega
        have bw4 := bw.trans (b4.mono bw.size)
        have RA4 := Lib.hid (RA'.out.below b4 (Nat.le_refl _))
        have RG4 := Lib.hid (RG'.out.below b4 (Nat.le_refl _))
        have HTa := HT
        clear RA' RG' b4
        go_wp2_with fail
        clear hmn
        go_loopw [14] (fun i wr => ∃ j : Nat, j ≤ (listN x).length ∧ i = .int .i64 j ∧ Below w4.heap.size w4 wr) (fun i _ => (listN x).length - (intOf i).toNat)
        case atStart => exact ⟨0, Nat.zero_le _, rfl, Below.refl _ _⟩
        case round =>
          obtain ⟨j, hj, rfl, hbel⟩ := hrel
          by_cases hlt : j < (listN x).length
          · obtain ⟨p1, c1, e1, _, _, hca, _⟩ := RA4.out.below hbel (Nat.le_refl _)
            obtain ⟨p2, c2, e2, _, _, hcg, _⟩ := RG4.out.below hbel (Nat.le_refl _)
            cases e1
            cases e2
            obtain ⟨ab, aoff, rfl, hcell1⟩ := hca j hlt
            obtain ⟨gb, goff, rfl, hcell2⟩ := hcg j hlt
            clear hca hcg
            generalize (listN x).getD j 0 = y at hcell1 hcell2
            have hj0 : (0 : Int) ≤ (j : Int) := by omega
            have hj1 : (j : Int) < ((listN x).length : Int) := by omega
            go_wp2_with fail
            go_quiet (fail)
            go_wp2
            go_roundw
            case rel => exact ⟨j + 1, by omega, by go_num, hbel.trans (below_draws _ _ _)⟩
            case measure => simp [intOf]; omega
          · go_wp2_with fail
            refine (wakes_any _).mono ?_
            rintro e w5 ⟨rfl, b5⟩
            have bwr := bw4.trans (hbel.mono bw4.size)
            go_wp2
            go_ret
            exact ⟨rfl, bwr.trans (b5.mono bwr.size)⟩
/-- More than a hundred: what is known. -/
theorem tells_great (x : Int) (p : Option Addr) (len cap : Nat) (n o : Int) (w : World) (hlen : ¬ len ≤ 100) (hm : len ≤ 9223372036854775807) :
    Calls Try.prog 4 #[.int .u8 x, .slice p len cap, .int .i64 n, .int .u8 o] w fun e w' => e = .returned (.bool true) ∧ Below w.heap.size w w' := by
  have h : (100 : Int) < (len : Int) := by omega
  go_enter Try.func4, Try.ntmps4
  go_wp2_with fail
  refine (wakes_any _).mono ?_
  rintro e w5 ⟨rfl, b5⟩
  go_wp2
  go_ret
  exact ⟨rfl, b5⟩
theorem tells_law {H : Type} {enc : TypeId × Value → H} {base : Nat} {d : DataW H} {ps : List MemPlace} (x : Int) (v : Value) (n o : Int) (w : World) (hx : (Lit.int .u8 x).wf = true)
    (hok : Value.okWide Try.prog w .any base 29 v) (ht : DataW.Trod enc Try.prog w 0 (fun _ => true) true 29 v d ps) (hn : (Lit.int .i64 n).wf = true) (ho : (Lit.int .u8 o).wf = true) :
    Calls Try.prog 4 #[.int .u8 x, v, .int .i64 n, .int .u8 o] w fun e w' => e = .returned (.bool true) ∧ Below w.heap.size w w' := by
  obtain ⟨l, hl⟩ := flat_u8s Try.underlying29 Try.underlying5 (by kernel_rfl) hok ht
  obtain ⟨hx0, hx1⟩ := bounds_u8 hx
  obtain ⟨ho0, ho1⟩ := bounds_u8 ho
  obtain ⟨hn0, hn1⟩ := bounds_i64 hn
  obtain ⟨X, rfl⟩ := Int.eq_ofNat_of_zero_le hx0
  obtain ⟨O, rfl⟩ := Int.eq_ofNat_of_zero_le ho0
  by_cases h : l.length ≤ 100
  · exact tells_walk X (by omega) v l n hn0 hn1 O (by omega) w hl h
  · obtain ⟨p, cap, rfl, _, hm, _⟩ := hl
    exact tells_great X p l.length cap n O w h hm
end R8
end Go.Proofs.Ytckneiaagnjjpaa
