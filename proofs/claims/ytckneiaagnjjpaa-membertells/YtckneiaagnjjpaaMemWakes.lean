/-
  The sets that are known, walked: the law's own wakes answers true.
-/
import Derived.Test.YtckneiaagnjjpaaMemWalks
namespace Go.Proofs.Ytckneiaagnjjpaa
open Go.RowKit
namespace Mem
set_option maxHeartbeats 400000 in
theorem wakes_any (w : World) :
    Calls Try.prog 13 #[] w fun e w' => e = .returned (.bool true) ∧ Below w.heap.size w w' := by
  go_enter Try.func13, Try.ntmps13
  go_wp2_with fail
  refine (of_new _ [0, 2, 9] _ _ _ 3 _ 5 (by simp) rfl rfl (by decide) (by decide) (by decide)).mono ?_
  rintro e w' ⟨rfl, rfl⟩
  go_wp2_with fail
  refine (first_any _ (by decide) (by decide) _).mono ?_
  rintro e w' ⟨rfl, rfl⟩
  rw [show ((mFirst 3 : Nat) : Int) = 7 from by decide]
  go_wp2_with fail
  refine (has_any _ _ (by decide) (by decide) (by decide) (by decide) _).mono ?_
  rintro e w' ⟨rfl, rfl⟩
  rw [show mHas (5 : Int).toNat (2 : Int).toNat = true from by decide]
  go_wp2_with fail
  refine (has_any _ _ (by decide) (by decide) (by decide) (by decide) _).mono ?_
  rintro e w' ⟨rfl, rfl⟩
  rw [show mHas (5 : Int).toNat (1 : Int).toNat = false from by decide]
  go_wp2_with fail
  refine (len_any _ (by decide) (by decide) _).mono ?_
  rintro e w' ⟨rfl, rfl⟩
  rw [show ((cnt (5 : Int).toNat : Nat) : Int) = 2 from by decide]
  go_wp2_with fail
  refine (of_new _ [0, 1, 2] _ _ _ 3 _ 7 (by simp) rfl rfl (by decide) (by decide) (by decide)).mono ?_
  rintro e w' ⟨rfl, rfl⟩
  go_wp2_with fail
  refine (of_new _ [1, 2, 6] _ _ _ 3 _ 70 (by simp) rfl rfl (by decide) (by decide) (by decide)).mono ?_
  rintro e w' ⟨rfl, rfl⟩
  go_wp2_with fail
  refine (major_any _ _ (by decide) (by decide) (by decide) (by decide) _).mono ?_
  rintro e w' ⟨rfl, rfl⟩
  rw [show mMajor (7 : Int).toNat (70 : Int).toNat = true from by decide]
  go_wp2_with fail
  refine (of_any _ [] _ (rdB_nil _)).mono ?_
  rintro e w' ⟨rfl, rfl⟩
  rw [show ((mOf [] : Nat) : Int) = 0 from by decide]
  go_wp2_with fail
  refine (of_new _ [0] _ _ _ 1 _ 1 (by simp) rfl rfl (by decide) (by decide) (by decide)).mono ?_
  rintro e w' ⟨rfl, rfl⟩
  go_wp2_with fail
  refine (major_any _ _ (by decide) (by decide) (by decide) (by decide) _).mono ?_
  rintro e w' ⟨rfl, rfl⟩
  rw [show mMajor (0 : Int).toNat (1 : Int).toNat = false from by decide]
  go_wp2_with fail
  refine (of_new _ [0, 1, 2, 3] _ _ _ 4 _ 15 (by simp) rfl rfl (by decide) (by decide) (by decide)).mono ?_
  rintro e w' ⟨rfl, rfl⟩
  go_wp2_with fail
  refine (need_any _ (by decide) (by decide) _).mono ?_
  rintro e w' ⟨rfl, rfl⟩
  rw [show ((cnt (15 : Int).toNat / 2 + 1 : Nat) : Int) = 3 from by decide]
  go_wp2_with fail
  go_ret
  exact ⟨rfl, by repeat (first | exact Below.refl _ _ | refine Below.alloc ?_ (by simp <;> omega) _)⟩
end Mem
end Go.Proofs.Ytckneiaagnjjpaa
