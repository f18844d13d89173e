/-
  A memory that is known; no memory.
-/
import Derived.Test.YthhgcfklaakndaaThrPick
import Derived.Test.YthhgcfklaakndaaThrMem
namespace Go.Proofs.Ythhgcfklaakndaa
open Go.RowKit
namespace Thr
open Mem R8
set_option maxHeartbeats 1000000 in
theorem wakes_any (w : World) : Calls Try.prog 6 #[] w fun e w' => e = .returned (.bool true) ∧ Below w.heap.size w w' := by
  go_enter Try.func6, Try.ntmps6
  go_wp2_with fail
  refine (new_any 0 (by decide) _).mono ?_
  rintro e w1 ⟨rfl, q1, B1⟩
  go_wp2_with fail
  refine (heard_any w.heap.size w.heap.size 0 (.slice none 0 0) [] (by decide) 2 (by decide) _ q1).mono ?_
  rintro e w2 ⟨rfl, v2, q2, m2⟩
  rw [show hd 0 [] 2 = [2] from by decide +kernel] at q2
  have B2 := m2.below B1 B1.size (Nat.le_refl _) (own_base q1.row)
  clear q1 m2 B1
  go_wp2_with fail
  refine (heard_any w.heap.size w.heap.size 0 v2 [2] (by decide) 4 (by decide) _ q2).mono ?_
  rintro e w3 ⟨rfl, v3, q3, m3⟩
  rw [show hd 0 [2] 4 = [4, 2] from by decide +kernel] at q3
  have B3 := m3.below B2 B2.size (Nat.le_refl _) (own_base q2.row)
  clear q2 m3 B2
  go_wp2_with fail
  refine (heard_any w.heap.size w.heap.size 0 v3 [4, 2] (by decide) 3 (by decide) _ q3).mono ?_
  rintro e w4 ⟨rfl, v4, q4, m4⟩
  rw [show hd 0 [4, 2] 3 = [3, 4, 2] from by decide +kernel] at q4
  have B4 := m4.below B3 B3.size (Nat.le_refl _) (own_base q3.row)
  clear q3 m4 B3
  go_wp2_with fail
  refine (pick_any w.heap.size 0 w.heap.size v4 [3, 4, 2] 31 (by decide) (by decide) (by decide) _ q4.blk q4.row).mono ?_
  rintro e w5 ⟨rfl, b5⟩
  have q5 := q4.below b5
  have B5 := Below.later B4 b5 B4.size
  clear q4 B4 b5
  rw [show pk 31 (0 :: [3, 4, 2] ++ listN 31) = 25 from by decide +kernel]
  go_wp2_with fail
  refine (of_new _ [0, 3, 4] _ _ _ _ _ 25 rfl rfl rfl (by decide) (by decide) (by decide)).mono ?_
  rintro e w6 ⟨rfl, hw6⟩
  have q6 : Mm w6 w.heap.size w.heap.size 0 v4 [3, 4, 2] := by rw [← hw6]; exact q5.below (below1 w5 _)
  have B6 : Below w.heap.size w w6 := by rw [← hw6]; exact Below.later B5 (below1 w5 _) B5.size
  clear q5 B5 hw6
  go_wp2_with fail
  refine (of_new _ [1, 2, 5] _ _ _ _ _ 38 rfl rfl rfl (by decide) (by decide) (by decide)).mono ?_
  rintro e w7 ⟨rfl, hw7⟩
  have q7 : Mm w7 w.heap.size w.heap.size 0 v4 [3, 4, 2] := by rw [← hw7]; exact q6.below (below1 w6 _)
  have B7 : Below w.heap.size w w7 := by rw [← hw7]; exact Below.later B6 (below1 w6 _) B6.size
  clear q6 B6 hw7
  go_wp2_with fail
  refine (pick_any w.heap.size 0 w.heap.size v4 [3, 4, 2] 38 (by decide) (by decide) (by decide) _ q7.blk q7.row).mono ?_
  rintro e w8 ⟨rfl, b8⟩
  have q8 := q7.below b8
  have B8 := Below.later B7 b8 B7.size
  clear q7 B7 b8
  rw [show pk 38 (0 :: [3, 4, 2] ++ listN 38) = 6 from by decide +kernel]
  go_wp2_with fail
  refine (of_new _ [1, 2] _ _ _ _ _ 6 rfl rfl rfl (by decide) (by decide) (by decide)).mono ?_
  rintro e w9 ⟨rfl, hw9⟩
  have q9 : Mm w9 w.heap.size w.heap.size 0 v4 [3, 4, 2] := by rw [← hw9]; exact q8.below (below1 w8 _)
  have B9 : Below w.heap.size w w9 := by rw [← hw9]; exact Below.later B8 (below1 w8 _) B8.size
  clear q8 B8 hw9
  go_wp2_with fail
  refine (pick_any w.heap.size 0 w.heap.size v4 [3, 4, 2] 64 (by decide) (by decide) (by decide) _ q9.blk q9.row).mono ?_
  rintro e w10 ⟨rfl, b10⟩
  have q10 := q9.below b10
  have B10 := Below.later B9 b10 B9.size
  clear q9 B9 b10
  rw [show pk 64 (0 :: [3, 4, 2] ++ listN 64) = 64 from by decide +kernel]
  go_wp2_with fail
  refine (pick_any w.heap.size 0 w.heap.size v4 [3, 4, 2] 0 (by decide) (by decide) (by decide) _ q10.blk q10.row).mono ?_
  rintro e w11 ⟨rfl, b11⟩
  have B11 := Below.later B10 b11 B10.size
  clear q10 B10 b11
  rw [show pk 0 (0 :: [3, 4, 2] ++ listN 0) = 0 from by decide +kernel]
  go_wp2_with fail
  go_ret
  exact ⟨rfl, B11⟩
set_option maxHeartbeats 1000000 in
theorem nil_any (node c : Nat) (w : World) : Calls Try.prog 5 #[.int .u8 node, .int .u8 c] w fun e w' => e = .returned (.bool true) ∧ Below w.heap.size w w' := by
  go_enter Try.func5, Try.ntmps5
  go_wp2_with fail
  refine (heard_nil node _).mono ?_
  rintro e w1 ⟨rfl, B1⟩
  go_wp2_with fail
  refine (row_nil _).mono ?_
  rintro e w2 ⟨rfl, rfl⟩
  go_wp2_with fail
  refine (pick_nil c _).mono ?_
  rintro e w3 ⟨rfl, b3⟩
  have B3 := Below.later' B1 b3
  clear B1 b3
  go_wp2_with fail
  refine (wakes_any _).mono ?_
  rintro e w4 ⟨rfl, b4⟩
  have B4 := Below.later' B3 b4
  clear B3 b4
  go_wp2_with fail
  go_ret
  exact ⟨rfl, B4⟩
theorem nil_law (x y : Int) (w : World) (hx : (Lit.int .u8 x).wf = true) (hy : (Lit.int .u8 y).wf = true) :
    Calls Try.prog 5 #[.int .u8 x, .int .u8 y] w fun e w' => e = .returned (.bool true) ∧ Below w.heap.size w w' := by
  obtain ⟨X, rfl⟩ := Int.eq_ofNat_of_zero_le (bounds_u8 hx).1
  obtain ⟨Y, rfl⟩ := Int.eq_ofNat_of_zero_le (bounds_u8 hy).1
  exact nil_any X Y w
end Thr
end Go.Proofs.Ythhgcfklaakndaa
