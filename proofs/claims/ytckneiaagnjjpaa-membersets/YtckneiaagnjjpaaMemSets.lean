/-
  The walk of MemberSets: for any two bytes it answers true.
-/
import Derived.Test.YtckneiaagnjjpaaMemLists
import Derived.Test.YtckneiaagnjjpaaMemWakes
namespace Go.Proofs.Ytckneiaagnjjpaa
open Go.RowKit
namespace R8
open Mem
set_option maxHeartbeats 2000000 in
theorem sets_walk (x y : Nat) (hx : x < 256) (hy : y < 256) (w : World) :
    Calls Try.prog 5 #[.int .u8 x, .int .u8 y] w fun e w' => e = .returned (.bool true) ∧ Below w.heap.size w w' := by
  have HW := Lib.hid (with_list x y)
  have HB := Lib.hid (both_list x y)
  have HO := Lib.hid (without_list x y (by omega))
  have HM := Lib.hid (major_list x y (by omega))
  have HY := Lib.hid (may_list x y (by omega) (by omega))
  have HL := Lib.hid (list_len x (by omega))
  have hc := cnt_le x
  have hax : ∀ z ∈ listN x, z < 256 := fun z hz => by have := listTo_lt x 7 z hz; omega
  have hay : ∀ z ∈ listN y, z < 256 := fun z hz => by have := listTo_lt y 7 z hz; omega
  have hlx : (listN x).length ≤ 7 := listTo_len _ _
  have hly : (listN y).length ≤ 7 := listTo_len _ _
  have HAX := Lib.hid hax
  have HAY := Lib.hid hay
  clear hax hay
  go_enter Try.func5, Try.ntmps5
  go_wp2_with fail
  refine (list_any x (by omega) (by omega) _).mono ?_
  rintro e w1 ⟨va, rfl, owa, b1⟩
  simp only [Int.toNat_natCast] at owa
  go_wp2_with fail
  refine (list_any y (by omega) (by omega) _).mono ?_
  rintro e w2 ⟨vb, rfl, owb, b2⟩
  simp only [Int.toNat_natCast] at owb
  have b2w := b1.trans (b2.mono b1.size)
  have ra := (RdB.owns owa HAX.out).below b2 (Nat.le_refl _)
  have rb := RdB.owns owb HAY.out
  clear owa owb
  have RA := Lib.hid ra
  have RB := Lib.hid rb
  have s1 := b1.size
  have s2 := b2.size
  go_wp2_with fail
  refine (pick_any va vb _ _ true _ ra rb (by omega)).mono ?_
  rintro e w3 ⟨vc, rfl, owc, b3⟩
  have b3w := b2w.trans (b3.mono b2w.size)
  have s3 := b3.size
  have ra3 := RA.out.below b3 (Nat.le_refl _)
  have rb3 := RB.out.below b3 (Nat.le_refl _)
  have RC := Lib.hid (RdB.owns owc (fun z hz => HAX.out z (pick_mem _ _ _ z hz)))
  have RA3 := Lib.hid ra3
  have RB3 := Lib.hid rb3
  clear owc ra rb RA RB
  go_wp2_with (first
    | (at_builtin; refine appN rfl _ _ 29 rfl w3.heap.size 5 (.int .u8 0) 1 1 info Try.underlying29 rfl (by decide) _ _ _ _ (World.ownsRow_nil _ _ _ _) rfl va (listN x).length (u8s (listN x)) ra3.to (by simp [u8s]) (u8s_one _) rfl (by omega) (by omega) (Nat.le_refl _) ?_; intro v4 w4 own4 hg4; have b4 : Below w3.heap.size w3 w4 := below_grown (Below.refl _ _) (World.ownsRow_nil _ w3.heap.size 5 1) hg4 (Nat.le_refl _) (Nat.le_refl _); have rb4 := (rb3.below b4 (Nat.le_refl _)).to; clear rb3 ra3 hg4)
    | (at_builtin; refine appN rfl _ _ 29 rfl w3.heap.size 5 (.int .u8 0) 1 1 info Try.underlying29 rfl (by decide) _ _ _ _ own4 rfl vb (listN y).length (u8s (listN y)) rb4 (by simp [u8s]) (u8s_one _) rfl (by omega) (by omega) b4.size ?_; intro v5 w5 own5 hg5; have b5 := below_grown b4 own4 hg5 b4.size (Nat.le_refl _); clear rb4 hg5))
  have R5 := Lib.hid (show RdB w5 v5 (listN x ++ listN y) from RdB.owns (by simpa [u8s] using own5) (by intro z hz; rcases List.mem_append.1 hz with h | h; exact HAX.out z h; exact HAY.out z h))
  have b5w := b3w.trans (b5.mono b3w.size)
  have s5 := b5.size
  clear own4 own5 b4
  refine (with_any x y (by omega) (by omega) (by omega) (by omega) _).mono ?_
  rintro e w' ⟨rfl, rfl⟩
  go_wp2_with fail
  refine (set_any _ _ _ R5.out).mono ?_
  rintro e w' ⟨rfl, rfl⟩
  rw [← HW.out]
  go_wp2_with fail
  refine (without_any x y (by omega) (by omega) (by omega) (by omega) _).mono ?_
  rintro e w' ⟨rfl, rfl⟩
  go_wp2_with fail
  refine (pick_any va vb _ _ false _ (RA3.out.below b5 (Nat.le_refl _)) (RB3.out.below b5 (Nat.le_refl _)) (by omega)).mono ?_
  rintro e w6 ⟨vd, rfl, owd, b6⟩
  have RD := Lib.hid (RdB.owns owd (fun z hz => HAX.out z (pick_mem _ _ _ z hz)))
  have b6w := b5w.trans (b6.mono b5w.size)
  have b63 := b5.trans (b6.mono b5.size)
  have s6 := b6.size
  clear owd
  go_wp2_with fail
  refine (set_any _ _ _ RD.out).mono ?_
  rintro e w' ⟨rfl, rfl⟩
  rw [← HO.out]
  go_wp2_with fail
  refine (both_any x y (by omega) (by omega) (by omega) (by omega) _).mono ?_
  rintro e w' ⟨rfl, rfl⟩
  go_wp2_with fail
  refine (set_any _ _ _ (RC.out.below b63 (Nat.le_refl _))).mono ?_
  rintro e w' ⟨rfl, rfl⟩
  rw [← HB.out]
  go_wp2_with fail
  refine (Mem.major_any x y (by omega) (by omega) (by omega) (by omega) _).mono ?_
  rintro e w' ⟨rfl, rfl⟩
  go_wp2_with fail
  refine (R8.major_any va vb _ _ _ (RA3.out.below b63 (Nat.le_refl _)) (RB3.out.below b63 (Nat.le_refl _)) (by omega)).mono ?_
  rintro e w7 ⟨rfl, b7⟩
  rw [← HM.out]
  have b7w := b6w.trans (b7.mono b6w.size)
  have b73 := b63.trans (b7.mono b63.size)
  have s7 := b7.size
  go_wp2_with fail
  refine (Mem.may_any x y hx hy _).mono ?_
  rintro e w8 ⟨rfl, b8⟩
  have b8w := b7w.trans (b8.mono b7w.size)
  have b83 := b73.trans (b8.mono b73.size)
  have s8 := b8.size
  go_wp2_with fail
  refine (R8.may_any va vb _ _ _ (RA3.out.below b83 (Nat.le_refl _)) (RB3.out.below b83 (Nat.le_refl _)) (by omega)).mono ?_
  rintro e w9 ⟨rfl, b9⟩
  rw [← HY.out]
  have b9w := b8w.trans (b9.mono b8w.size)
  have s9 := b9.size
  obtain ⟨pa, ca, hva, _⟩ := RA3.out
  have hl2 := HL.out
  subst hva
  go_wp2_with fail
  refine (need_any x (by omega) (by omega) _).mono ?_
  rintro e w' ⟨rfl, rfl⟩
  simp only [Int.toNat_natCast]
  have hn : cnt x / 2 + 1 ≤ 4 := by omega
  have d1 : cnt x < 2 * (cnt x / 2 + 1) := by omega
  have d2 : 2 * (cnt x / 2 + 1) ≤ cnt x + 2 := by omega
  clear hl2
  have HQ : ∃ q, q = cnt x / 2 + 1 := ⟨_, rfl⟩
  obtain ⟨q, hq⟩ := HQ
  have HQ := Lib.hid hq
  rw [← hq] at hn d1 d2 ⊢
  clear hq
  go_wp2_with fail
  refine (need_any x (by omega) (by omega) _).mono ?_
  rintro e w' ⟨rfl, rfl⟩
  simp only [Int.toNat_natCast]
  rw [← HQ.out]
  go_wp2_with fail
  refine (wakes_any _).mono ?_
  rintro e w10 ⟨rfl, b10⟩
  go_wp2
  go_ret
  exact ⟨rfl, b9w.trans (b10.mono b9w.size)⟩
theorem sets_law (x y : Int) (w : World) (hwx : (Lit.int .u8 x).wf = true) (hwy : (Lit.int .u8 y).wf = true) :
    Calls Try.prog 5 #[.int .u8 x, .int .u8 y] w fun e w' => e = .returned (.bool true) ∧ Below w.heap.size w w' := by
  obtain ⟨hx0, hx1⟩ := bounds_u8 hwx
  obtain ⟨hy0, hy1⟩ := bounds_u8 hwy
  obtain ⟨X, rfl⟩ := Int.eq_ofNat_of_zero_le hx0
  obtain ⟨Y, rfl⟩ := Int.eq_ofNat_of_zero_le hy0
  exact sets_walk X Y (by omega) (by omega) w
end R8
end Go.Proofs.Ytckneiaagnjjpaa
