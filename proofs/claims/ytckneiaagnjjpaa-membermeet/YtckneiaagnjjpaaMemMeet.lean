import Derived.Test.YtckneiaagnjjpaaMemWakes
import Derived.OpenShut
namespace Go.Proofs.Ytckneiaagnjjpaa
open Go.RowKit
namespace Mem
set_option maxHeartbeats 1000000 in
theorem meet_walk (x a b m : Int) (hx : 0 ≤ x) (hx' : x ≤ 255) (ha : 0 ≤ a) (ha' : a ≤ 255) (hb : 0 ≤ b) (hb' : b ≤ 255) (hm : 0 ≤ m) (hm' : m ≤ 255) (w : World) :
    Calls Try.prog 3 #[.int .u8 x, .int .u8 a, .int .u8 b, .int .u8 m] w fun e w' => e = .returned (.bool true) ∧ Below w.heap.size w w' := by
  have hn : (m % 8).toNat < 8 := by omega
  have ho := mOf_lt [(m % 8).toNat]
  have hc := cnt_one (m % 8).toNat hn
  have e1 : m % 8 = ((m % 8).toNat : Int) := by omega
  generalize (m % 8).toNat = n at hn ho hc e1
  have E1 := Lib.hid e1
  clear e1
  have H1 := Lib.hid (fun h1 h2 => meet_one x.toNat a.toNat b.toNat h1 h2)
  have H2 := Lib.hid (fun h1 h2 => meet_two x.toNat a.toNat b.toNat (mOf [n]) hc h1 h2)
  have H3 := Lib.hid (fun h1 => meet_not x.toNat a.toNat b.toNat (by omega) h1)
  have l1 := mWith_lt x.toNat (mOf [n])
  have l2 := mBoth_lt a.toNat b.toNat
  have l3 := mWithout_lt b.toNat a.toNat
  have l4 := mBoth_lt (mBoth a.toNat b.toNat) x.toNat
  have l5 := mBoth_lt (mBoth a.toNat b.toNat) (mWith x.toNat (mOf [n]))
  have f1 := Lib.hid (show mMajor x.toNat a.toNat = true → mMajor x.toNat b.toNat = true → (((cnt (mBoth (mBoth a.toNat b.toNat) x.toNat) : Nat) : Int) == 0) = false by
    intro h1 h2; have := H1.out h1 h2; rw [beq_eq_false_iff_ne]; omega)
  have f2 := Lib.hid (show mMajor x.toNat a.toNat = true → mMajor (mWith x.toNat (mOf [n])) b.toNat = true → (((cnt (mBoth (mBoth a.toNat b.toNat) (mWith x.toNat (mOf [n]))) : Nat) : Int) == 0) = false by
    intro h1 h2; have := H2.out h1 h2; rw [beq_eq_false_iff_ne]; omega)
  clear H1 H2
  go_enter Try.func3, Try.ntmps3
  go_wp2_with fail
  rw [E1.out]
  refine (of_new _ [n] _ _ _ 1 _ (mOf [n]) (by simp) rfl rfl rfl (by simp; omega) (by simp)).mono ?_
  rintro e w' ⟨rfl, rfl⟩
  go_wp2_with fail
  refine (with_any _ _ (by omega) (by omega) (by omega) (by omega) _).mono ?_
  rintro e w' ⟨rfl, rfl⟩
  simp only [Int.toNat_natCast]
  go_wp2_with fail
  refine (major_any _ _ (by omega) (by omega) (by omega) (by omega) _).mono ?_
  rintro e w' ⟨rfl, rfl⟩
  cases h1 : mMajor x.toNat a.toNat
  · go_wp2_with (first
      | (go_at_call 9; refine (major_any _ _ (by omega) (by omega) (by omega) (by omega) _).mono ?_; rintro e w' ⟨rfl, rfl⟩)
      | (go_at_call 13; refine (wakes_any _).mono ?_; rintro e w' ⟨rfl, hbw⟩))
    go_ret
    exact ⟨rfl, (((Below.refl _ _).alloc (Nat.le_refl _) _).trans (hbw.mono (by simp)))⟩
  have H3' := H3.out h1
  cases h2 : mMajor x.toNat b.toNat <;> cases h3 : mMajor (mWith x.toNat (mOf [n])) b.toNat
  all_goals
    try (have f1' := f1.out h1 h2)
    try (have f2' := f2.out h1 h3)
    clear f1 f2 H3
    go_wp2_with (first
      | (go_at_call 9; refine (major_any _ _ (by omega) (by omega) (by omega) (by omega) _).mono ?_; rintro e w' ⟨rfl, rfl⟩; try simp only [Int.toNat_natCast])
      | (go_at_call 10; refine (both_any _ _ (by omega) (by omega) (by omega) (by omega) _).mono ?_; rintro e w' ⟨rfl, rfl⟩; try simp only [Int.toNat_natCast])
      | (go_at_call 12; refine (without_any _ _ (by omega) (by omega) (by omega) (by omega) _).mono ?_; rintro e w' ⟨rfl, rfl⟩; try simp only [Int.toNat_natCast])
      | (go_at_call 11; refine (len_any _ (by omega) (by omega) _).mono ?_; rintro e w' ⟨rfl, rfl⟩; try simp only [Int.toNat_natCast])
      | (go_at_call 13; refine (wakes_any _).mono ?_; rintro e w' ⟨rfl, hbw⟩))
    go_ret
    exact ⟨rfl, (((Below.refl _ _).alloc (Nat.le_refl _) _).trans (hbw.mono (by simp)))⟩
theorem meet_law (x a b m : Int) (w : World) (h0 : (Lit.int .u8 x).wf = true) (h1 : (Lit.int .u8 a).wf = true) (h2 : (Lit.int .u8 b).wf = true) (h3 : (Lit.int .u8 m).wf = true) :
    Calls Try.prog 3 #[.int .u8 x, .int .u8 a, .int .u8 b, .int .u8 m] w fun e w' => e = .returned (.bool true) ∧ Below w.heap.size w w' :=
  meet_walk x a b m (bounds_u8 h0).1 (bounds_u8 h0).2 (bounds_u8 h1).1 (bounds_u8 h1).2 (bounds_u8 h2).1 (bounds_u8 h2).2 (bounds_u8 h3).1 (bounds_u8 h3).2 w
end Mem
end Go.Proofs.Ytckneiaagnjjpaa
