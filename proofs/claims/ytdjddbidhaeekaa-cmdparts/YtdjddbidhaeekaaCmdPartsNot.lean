/-
  CmdParts, walked.
-/
import Derived.Test.YtdjddbidhaeekaaCmdPartsPure
namespace Go.Proofs.Ytdjddbidhaeekaa
open Go.RowKit Go.WideShapes
namespace Cm
open Wire
set_option maxRecDepth 100000 in
set_option maxHeartbeats 2000000 in
theorem parts_not (c : Cm) (hok : c.ok) (hm : ¬ c.may) (w : World) :
    Calls Try.prog 6 #[c.val] w fun e w' => e = .returned (.bool true) ∧ Below w.heap.size w w' := by
  have HC := Lib.hid (show chk c = 2 from if_neg hm)
  have HB := Lib.hid (batch_bad [c] c (by simp) hm)
  have k0 := Blk.new w (.cells #[.int .u8 c.cl, .int .u32 c.sq, .int .u8 c.kd, .string c.key, .string c.old, .string c.new, .int .u8 c.set] 25)
  have b0 := below1 w (.cells #[.int .u8 c.cl, .int .u32 c.sq, .int .u8 c.kd, .string c.key, .string c.old, .string c.new, .int .u8 c.set] 25)
  obtain ⟨W, hW⟩ : ∃ W, w.alloc (.cells #[.int .u8 c.cl, .int .u32 c.sq, .int .u8 c.kd, .string c.key, .string c.old, .string c.new, .int .u8 c.set] 25) = W := ⟨_, rfl⟩
  rw [hW] at k0 b0
  go_enter Try.func6, Try.ntmps6
  go_upto_region 1 with (fail)
  clear hW
  have F := k0.held
  have c0 := k0.cell 0
  have c1 := k0.cell 1
  have c2 := k0.cell 2
  have c3 := k0.cell 3
  have c4 := k0.cell 4
  have c5 := k0.cell 5
  have c6 := k0.cell 6
  go_wp2_with fail
  refine (check_any c hok _).mono ?_
  rintro e w1 ⟨rfl, b1⟩
  rw [HC.out]
  have k1 := k0.later b1
  have B1 := Below.later b0 b1 b0.size
  clear F c0 c1 c2 c3 c4 c5 c6 k0 b0 b1
  have c0 := k1.cell 0
  have c1 := k1.cell 1
  have c2 := k1.cell 2
  have c3 := k1.cell 3
  have c4 := k1.cell 4
  have c5 := k1.cell 5
  have c6 := k1.cell 6
  have hrd : RdT cells (w1.alloc (.cells #[.int .u8 c.cl, .int .u32 c.sq, .int .u8 c.kd, .string c.key, .string c.old, .string c.new, .int .u8 c.set] 25)) (.slice (some ⟨w1.heap.size, 0, none⟩) 1 1) [c] := rdV_block w1 #[.int .u8 c.cl, .int .u32 c.sq, .int .u8 c.kd, .string c.key, .string c.old, .string c.new, .int .u8 c.set] 25 1 1 (by omega)
  have B2 := B1.alloc B1.size (.cells #[.int .u8 c.cl, .int .u32 c.sq, .int .u8 c.kd, .string c.key, .string c.old, .string c.new, .int .u8 c.set] 25)
  go_wp2_with fail
  refine (batch_c _ [c] (fun x hx => by rw [List.mem_singleton] at hx; rw [hx]; exact hok) _ hrd).mono ?_
  rintro e w2 ⟨rfl, b2⟩
  rw [HB.out]
  have B3 := Below.later B2 b2 B2.size
  clear hrd B2 b2 k1 c0 c1 c2 c3 c4 c5 c6
  go_wp2_with fail
  refine (wakes_any _).mono ?_
  rintro e w3 ⟨rfl, b3⟩
  go_wp2
  go_ret
  exact ⟨rfl, Below.later' B3 b3⟩
end Cm
end Go.Proofs.Ytdjddbidhaeekaa
