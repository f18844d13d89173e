/-
  A command that is known.
-/
import Derived.Test.YtdjddbidhaeekaaCmdParse
import Derived.Test.YtdjddbidhaeekaaOrd
namespace Go.Proofs.Ytdjddbidhaeekaa
open Go.RowKit Go.WideShapes
/-- One element's cells, in whatever later world. -/
theorem rd_one {W : World} {v : Value} {l : List Cm} (h : RdT Cm.cells W v l) (i : Nat) (hi : i < l.length) : ∃ lb off cap, v = .slice (some ⟨lb, off, none⟩) l.length cap ∧ ∀ w', Below W.heap.size W w' → ∀ j, j < 7 → w'.cell? ⟨lb, off + i * 7 + j, none⟩ = (l[i]).cells[j]? := by
  obtain ⟨p, cap, rfl, _⟩ := h.len
  obtain ⟨lb, off, rfl, _⟩ := h.at 7 (by decide) Cm.cells_len i hi
  refine ⟨lb, off, cap, rfl, fun w' hb j hj => ?_⟩
  obtain ⟨lb2, off2, e2, g⟩ := (h.later hb).at 7 (by decide) Cm.cells_len i hi
  cases e2
  exact g j hj
namespace Cm
open Wire
theorem c1_ok : (⟨1, 2, 2, ⟨#[97]⟩, ⟨#[]⟩, ⟨#[120]⟩, 0⟩ : Cm).ok := ⟨(by decide : (1 : Nat) ≤ 255), (by decide : (2 : Nat) ≤ 4294967295), (by decide : (2 : Nat) ≤ 255), (by decide : ByteArray.size ⟨#[97]⟩ ≤ 9223372036854775807), (by decide : ByteArray.size ⟨#[]⟩ ≤ 9223372036854775807), (by decide : ByteArray.size ⟨#[120]⟩ ≤ 9223372036854775807), (by decide : (0 : Nat) ≤ 255)⟩
theorem zero_ok : zero.ok := ⟨(by decide : (0 : Nat) ≤ 255), (by decide : (0 : Nat) ≤ 4294967295), (by decide : (0 : Nat) ≤ 255), (by decide : ByteArray.size ⟨#[]⟩ ≤ 9223372036854775807), (by decide : ByteArray.size ⟨#[]⟩ ≤ 9223372036854775807), (by decide : ByteArray.size ⟨#[]⟩ ≤ 9223372036854775807), (by decide : (0 : Nat) ≤ 255)⟩
theorem c1_bytes : batchR [(⟨1, 2, 2, ⟨#[97]⟩, ⟨#[]⟩, ⟨#[120]⟩, 0⟩ : Cm)] = ([1, 1, 2, 2, 1, 97, 0, 1, 120, 0], 0) := by kernel_rfl
theorem c1_back : parseR [1, 1, 2, 2, 1, 97, 0, 1, 120, 0] = ([(⟨1, 2, 2, ⟨#[97]⟩, ⟨#[]⟩, ⟨#[120]⟩, 0⟩ : Cm)], 0) := by kernel_rfl
set_option maxRecDepth 100000 in
set_option maxHeartbeats 2000000 in
theorem wakes_any (w : World) : Calls Try.prog 8 #[] w fun e w' => e = .returned (.bool true) ∧ Below w.heap.size w w' := by
  have HB := Lib.hid c1_bytes
  have HP := Lib.hid c1_back
  have HC1 := Lib.hid (show chk (⟨1, 2, 2, ⟨#[97]⟩, ⟨#[]⟩, ⟨#[120]⟩, 0⟩ : Cm) = 0 by kernel_rfl)
  have HC0 := Lib.hid (show chk zero = 2 by kernel_rfl)
  have k1 : Blk ((w.alloc (.cells #[.int .u8 1, .int .u32 2, .int .u8 2, .string ⟨#[97]⟩, .string ⟨#[]⟩, .string ⟨#[120]⟩, .int .u8 0] 25)).alloc (.cells #[.int .u8 1, .int .u32 2, .int .u8 2, .string ⟨#[97]⟩, .string ⟨#[]⟩, .string ⟨#[120]⟩, .int .u8 0] 25)) w.heap.size (.cells #[.int .u8 1, .int .u32 2, .int .u8 2, .string ⟨#[97]⟩, .string ⟨#[]⟩, .string ⟨#[120]⟩, .int .u8 0] 25) := Blk.alloc (Blk.new w _) _
  have b1 := below2 w (.cells #[.int .u8 1, .int .u32 2, .int .u8 2, .string ⟨#[97]⟩, .string ⟨#[]⟩, .string ⟨#[120]⟩, .int .u8 0] 25) (.cells #[.int .u8 1, .int .u32 2, .int .u8 2, .string ⟨#[97]⟩, .string ⟨#[]⟩, .string ⟨#[120]⟩, .int .u8 0] 25)
  have hrd : RdT cells ((w.alloc (.cells #[.int .u8 1, .int .u32 2, .int .u8 2, .string ⟨#[97]⟩, .string ⟨#[]⟩, .string ⟨#[120]⟩, .int .u8 0] 25)).alloc (.cells #[.int .u8 1, .int .u32 2, .int .u8 2, .string ⟨#[97]⟩, .string ⟨#[]⟩, .string ⟨#[120]⟩, .int .u8 0] 25)) (.slice (some ⟨w.heap.size + 1, 0, none⟩) 1 1) [(⟨1, 2, 2, ⟨#[97]⟩, ⟨#[]⟩, ⟨#[120]⟩, 0⟩ : Cm)] := by
    have := rdV_block (w.alloc (.cells #[.int .u8 1, .int .u32 2, .int .u8 2, .string ⟨#[97]⟩, .string ⟨#[]⟩, .string ⟨#[120]⟩, .int .u8 0] 25)) #[.int .u8 1, .int .u32 2, .int .u8 2, .string ⟨#[97]⟩, .string ⟨#[]⟩, .string ⟨#[120]⟩, .int .u8 0] 25 1 1 (by omega)
    simp only [World.size_alloc] at this
    exact this
  go_enter Try.func8, Try.ntmps8
  go_wp2_with fail
  refine (batch_c _ [(⟨1, 2, 2, ⟨#[97]⟩, ⟨#[]⟩, ⟨#[120]⟩, 0⟩ : Cm)] (fun x hx => by rw [List.mem_singleton] at hx; rw [hx]; exact c1_ok) _ hrd).mono ?_
  rintro e w2 ⟨rfl, b2⟩
  rw [HB.out]
  have k2 := k1.later b2
  have B2 := Below.later b1 b2 b1.size
  clear k1 b1 hrd b2
  go_wp2_with fail
  refine (parse_c [1, 1, 2, 2, 1, 97, 0, 1, 120, 0] (by decide) w2).mono ?_
  rintro e w3 ⟨v3, rfl, r3, b3⟩
  rw [HP.out] at r3 ⊢
  have k3 := k2.later b3
  have B3 := Below.later B2 b3 B2.size
  obtain ⟨lb, off, cap, e3, g⟩ := rd_one r3 0 (by simp)
  subst e3
  have a0 := fun w' hb => g w' hb 0 (by decide)
  have a1 := fun w' hb => g w' hb 1 (by decide)
  have a2 := fun w' hb => g w' hb 2 (by decide)
  have a3 := fun w' hb => g w' hb 3 (by decide)
  have a4 := fun w' hb => g w' hb 4 (by decide)
  have a5 := fun w' hb => g w' hb 5 (by decide)
  have a6 := fun w' hb => g w' hb 6 (by decide)
  simp only [Nat.zero_mul, Nat.add_zero] at a0 a1 a2 a3 a4 a5 a6
  have F := k3.held
  have E1 := cm_eql (⟨1, 2, 2, ⟨#[97]⟩, ⟨#[]⟩, ⟨#[120]⟩, 0⟩ : Cm) (⟨1, 2, 2, ⟨#[97]⟩, ⟨#[]⟩, ⟨#[120]⟩, 0⟩ : Cm) true (by simp)
  have q1 : ((bs [1, 1, 2, 2, 1, 97, 0, 1, 120, 0]).toList == [1, 1, 2, 2, 1, 97, 0, 1, 120, 0]) = true := by rw [bs_toList]; rfl
  clear g r3 k2 B2 b3
  have B0 : Below w3.heap.size w3 w3.drew := Below.drew (Below.refl _ _)
  go_wp2_with fail
  refine wp_region_ord (fun w' => Below w3.heap.size w3 w') (0 :: 1 :: 2 :: 3 :: 4 :: 5 :: 6 :: 7 :: 8 :: 9 :: 10 :: 11 :: 12 :: 13 :: 14 :: 15 :: 16 :: 17 :: 18 :: 19 :: 20 :: 21 :: 22 :: 23 :: 24 :: 25 :: 26 :: 27 :: 28 :: 29 :: 30 :: 31 :: 32 :: []) [1, 29] (by kernel_rfl) (by kernel_rfl) (by intro c d v a w h; cases d <;> exact h) B0 ?_
  repeat (first
    | (refine wpOrd_take (v := ?_) rfl rfl ?_ ?_ ?_; rotate_left; rfl; (· intro w' hSw; (try dsimp only at hSw); go_simp <;> with_reducible rfl); simp only [Act.put, List.setIfInBounds_toArray, List.set_cons_zero, List.set_cons_succ])
    | (refine wpOrd_skip rfl rfl ?_ ?_; rfl; simp only [Act.put, List.setIfInBounds_toArray, List.set_cons_zero, List.set_cons_succ]))
  refine wpOrd_eff rfl rfl (fun K hK => ?_)
  go_wp2_with fail
  refine (check_any (⟨1, 2, 2, ⟨#[97]⟩, ⟨#[]⟩, ⟨#[120]⟩, 0⟩ : Cm) c1_ok _).mono ?_
  rintro e w4 ⟨rfl, b4⟩
  rw [HC1.out]
  have B4 := B0.trans (b4.mono B0.size)
  go_wp2_with fail
  refine hK.out _ _ B4 ?_
  clear hK K
  repeat (first
    | (refine wpOrd_take (v := ?_) rfl rfl ?_ ?_ ?_; rotate_left; rfl; (· intro w' hSw; (try dsimp only at hSw); go_simp <;> with_reducible rfl); simp only [Act.put, List.setIfInBounds_toArray, List.set_cons_zero, List.set_cons_succ])
    | (refine wpOrd_skip rfl rfl ?_ ?_; rfl; simp only [Act.put, List.setIfInBounds_toArray, List.set_cons_zero, List.set_cons_succ]))
  refine wpOrd_eff rfl rfl (fun K hK => ?_)
  go_wp2_with fail
  refine (check_any zero zero_ok _).mono ?_
  rintro e w5 ⟨rfl, b5⟩
  rw [HC0.out]
  have B5 := B4.trans (b5.mono B4.size)
  go_wp2_with fail
  refine hK.out _ _ B5 ?_
  clear hK K
  repeat (first
    | (refine wpOrd_take (v := ?_) rfl rfl ?_ ?_ ?_; rotate_left; rfl; (· intro w' hSw; (try dsimp only at hSw); go_simp <;> with_reducible rfl); simp only [Act.put, List.setIfInBounds_toArray, List.set_cons_zero, List.set_cons_succ])
    | (refine wpOrd_skip rfl rfl ?_ ?_; rfl; simp only [Act.put, List.setIfInBounds_toArray, List.set_cons_zero, List.set_cons_succ]))
  refine wpOrd_nil ?_
  go_wp2_with fail
  go_ret
  exact ⟨rfl, Below.later' B3 B5⟩
end Cm
end Go.Proofs.Ytdjddbidhaeekaa
