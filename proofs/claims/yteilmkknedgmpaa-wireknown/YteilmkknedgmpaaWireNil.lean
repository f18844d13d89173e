/-
  Seat 01: the laws WireNil and WireKnown, walked.
-/
import Derived.Test.YteilmkknedgmpaaWireWakes
namespace Go.Proofs.Yteilmkknedgmpaa
open Go.RowKit
namespace Wire
set_option maxHeartbeats 1000000 in
theorem nil_law (n : Int) (m : Int) (w : World) (h0 : (Lit.int .u64 n).wf = true) (_ : (Lit.int .i64 m).wf = true) : Calls Try.prog 8 #[.int .u64 n, .int .i64 m] w fun e w' => e = .returned (.bool true) ∧ Below w.heap.size w w' := by
  obtain ⟨k, rfl⟩ : ∃ k : Nat, n = k := ⟨n.toNat, by have := bounds_u64 h0; omega⟩
  have e1 : ((bs []).toList.isEmpty) = true := by rw [bs_toList]; rfl
  clear h0
  go_enter Try.func8, Try.ntmps8
  go_wp2_with fail
  refine (bad_nil w).mono ?_
  rintro e w' ⟨rfl, rfl⟩
  go_wp2_with fail
  refine (byte_nil w).mono ?_
  rintro e w' ⟨rfl, rfl⟩
  go_wp2_with fail
  refine (num_nil w).mono ?_
  rintro e w' ⟨rfl, rfl⟩
  go_wp2_with fail
  refine (below_nil k w).mono ?_
  rintro e w' ⟨rfl, rfl⟩
  go_wp2_with fail
  refine (str_nil m w).mono ?_
  rintro e w' ⟨rfl, rfl⟩
  go_wp2_with fail
  refine (left_nil w).mono ?_
  rintro e w' ⟨rfl, rfl⟩
  go_wp2_with fail
  refine (err_nil w).mono ?_
  rintro e w' ⟨rfl, rfl⟩
  go_wp2_with fail
  refine (end_nil w).mono ?_
  rintro e w' ⟨rfl, rfl⟩
  go_wp2_with fail
  refine (wakes_any w).mono ?_
  rintro e w' ⟨rfl, hb⟩
  go_wp2
  go_ret
  exact ⟨rfl, hb⟩
set_option maxHeartbeats 1000000 in
theorem known_law (w : World) : Calls Try.prog 5 #[] w fun e w' => e = .returned (.bool true) ∧ Below w.heap.size w w' := by
  have k1 := Lib.hid (show numR ⟨[248, 5], 0⟩ = (0, ⟨[], 4⟩) from by kernel_rfl)
  have k2 := Lib.hid (show strR ⟨[5, 97], 0⟩ (9 : Int).toNat = ([], ⟨[], 3⟩) from by kernel_rfl)
  have k3 := Lib.hid (show strR ⟨[5, 97], 0⟩ (4 : Int).toNat = ([], ⟨[], 4⟩) from by kernel_rfl)
  have k4 := Lib.hid (show numR ⟨[255, 1, 2, 3, 4, 5, 6, 7, 8], 0⟩ = (72623859790382856, ⟨[], 0⟩) from by kernel_rfl)
  have k5 := Lib.hid (show numB 247 = [247] from by kernel_rfl)
  have k6 := Lib.hid (show numB 248 = [248, 248] from by kernel_rfl)
  have k7 := Lib.hid (show strB [97, 98] = [2, 97, 98] from by kernel_rfl)
  have e1 : ((bs [247]).toList == [247]) = true := by rw [bs_toList]; rfl
  have e2 : ((bs [248, 248]).toList == [248, 248]) = true := by rw [bs_toList]; rfl
  have e3 : ((bs [2, 97, 98]).toList == [2, 97, 98]) = true := by rw [bs_toList]; rfl
  go_enter Try.func5, Try.ntmps5
  go_wp2_with fail
  refine (of_any [248, 5] w).mono ?_
  rintro e w1 ⟨b, rfl, hb, hB1, hr1⟩
  have z1 := hB1.size
  go_wp2_with fail
  refine (num_of b _ w1 hr1 (by decide)).mono ?_
  rintro e w2 ⟨rfl, g2, hr2⟩
  rw [k1.out] at hr2 ⊢
  have hB2 := Below.grew hB1 g2 (by omega) hb
  have z2 := hB2.size
  clear hB1 g2 hr1
  go_wp2_with fail
  refine (of_any [5, 97] w2).mono ?_
  rintro e w3 ⟨c, rfl, hc, b3, hs3⟩
  have z3 := b3.size
  have hr3 : Rdr w3 b _ := Blk.later hr2 b3
  have hB3 := hB2.trans (b3.mono z2)
  have hbc : b < c := Nat.lt_of_lt_of_le hr2.lt hc
  clear hB2 b3 hr2
  go_wp2_with fail
  refine (str_any c _ 9 (by decide) w3 hs3 (by decide)).mono ?_
  rintro e w4 ⟨rfl, g4, hs4⟩
  rw [k2.out] at hs4 ⊢
  have hr4 : Rdr w4 b _ := Blk.grown hr3 g4 (by simp; omega)
  have hB4 := Below.grew hB3 g4 (by omega) (by omega)
  have z4 := hB4.size
  clear hB3 g4 hr3 hs3
  go_wp2_with fail
  refine (of_any [5, 97] w4).mono ?_
  rintro e w5 ⟨d, rfl, hd, b5, ht5⟩
  have z5 := b5.size
  have hr5 : Rdr w5 b _ := Blk.later hr4 b5
  have hs5 : Rdr w5 c _ := Blk.later hs4 b5
  have hB5 := hB4.trans (b5.mono z4)
  have hcd : c < d := Nat.lt_of_lt_of_le hs4.lt hd
  clear hB4 b5 hr4 hs4
  go_wp2_with fail
  refine (str_any d _ 4 (by decide) w5 ht5 (by decide)).mono ?_
  rintro e w6 ⟨rfl, g6, ht6⟩
  rw [k3.out] at ht6 ⊢
  have hr6 : Rdr w6 b _ := Blk.grown hr5 g6 (by simp; omega)
  have hs6 : Rdr w6 c _ := Blk.grown hs5 g6 (by simp; omega)
  have hB6 := Below.grew hB5 g6 (by omega) (by omega)
  have z6 := hB6.size
  clear hB5 g6 hr5 hs5 ht5
  go_wp2_with fail
  refine (of_any [255, 1, 2, 3, 4, 5, 6, 7, 8] w6).mono ?_
  rintro e w7 ⟨f, rfl, hf, b7, hu7⟩
  have z7 := b7.size
  have hr7 : Rdr w7 b _ := Blk.later hr6 b7
  have hs7 : Rdr w7 c _ := Blk.later hs6 b7
  have ht7 : Rdr w7 d _ := Blk.later ht6 b7
  have hB7 := hB6.trans (b7.mono z6)
  clear hB6 b7 hr6 hs6 ht6
  go_wp2_with fail
  refine (num_new 247 (by decide) w7).mono ?_
  rintro e w8 ⟨v8, rfl, hcv, b8⟩
  rw [k5.out] at hcv
  have z8 := b8.size
  have hr8 : Rdr w8 b _ := Blk.later hr7 b8
  have hs8 : Rdr w8 c _ := Blk.later hs7 b8
  have ht8 : Rdr w8 d _ := Blk.later ht7 b8
  have hu8 : Rdr w8 f _ := Blk.later hu7 b8
  have hB8 := hB7.trans (b8.mono (by omega))
  clear hB7 b8 hr7 hs7 ht7 hu7
  go_wp2_with fail
  refine (num_new 248 (by decide) w8).mono ?_
  rintro e w9 ⟨v9, rfl, hcv9, b9⟩
  rw [k6.out] at hcv9
  have z9 := b9.size
  have hr9 : Rdr w9 b _ := Blk.later hr8 b9
  have hs9 : Rdr w9 c _ := Blk.later hs8 b9
  have ht9 : Rdr w9 d _ := Blk.later ht8 b9
  have hu9 : Rdr w9 f _ := Blk.later hu8 b9
  have hB9 := hB8.trans (b9.mono (by omega))
  clear hB8 b9 hr8 hs8 ht8 hu8 hcv
  go_wp2_with fail
  refine (str_new [97, 98] (by decide) w9).mono ?_
  rintro e w8 ⟨v8, rfl, hcv, b8⟩
  rw [k7.out] at hcv
  have z8 := b8.size
  have hr8 : Rdr w8 b _ := Blk.later hr9 b8
  have hs8 : Rdr w8 c _ := Blk.later hs9 b8
  have ht8 : Rdr w8 d _ := Blk.later ht9 b8
  have hu8 : Rdr w8 f _ := Blk.later hu9 b8
  have hB8 := hB9.trans (b8.mono (by omega))
  clear hB9 b8 hr9 hs9 ht9 hu9 hcv9
  go_wp2_with fail
  refine (err_of b _ w8 hr8).mono ?_
  rintro e w' ⟨rfl, rfl⟩
  go_wp2_with fail
  refine (err_of c _ w8 hs8).mono ?_
  rintro e w' ⟨rfl, rfl⟩
  go_wp2_with fail
  refine (err_of d _ w8 ht8).mono ?_
  rintro e w' ⟨rfl, rfl⟩
  go_wp2_with fail
  refine (num_of f _ w8 hu8 (by decide)).mono ?_
  rintro e w9 ⟨rfl, g9, hu9⟩
  rw [k4.out] at hu9 ⊢
  have hB9 := Below.grew hB8 g9 (by omega) (by omega)
  have z9 := hB9.size
  clear hB8 g9 hu8 hcv
  go_wp2_with fail
  refine (end_of f _ w9 hu9).mono ?_
  rintro e w8 ⟨rfl, g8, hu8⟩
  have he : ((endR ⟨[], 0⟩).e : Int) = 0 := rfl
  have hB8 := Below.grew hB9 g8 (by omega) (by omega)
  have z8 := hB8.size
  go_wp2_with fail
  refine (wakes_any w8).mono ?_
  rintro e w' ⟨rfl, hb⟩
  go_wp2
  go_ret
  exact ⟨rfl, hB8.trans (hb.mono (by omega))⟩
end Wire
end Go.Proofs.Yteilmkknedgmpaa
