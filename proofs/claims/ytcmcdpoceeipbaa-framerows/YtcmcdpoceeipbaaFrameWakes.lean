/-
  The law's own row that is awake: frames that are known.
-/
import Derived.Test.YtcmcdpoceeipbaaFrameRef2
namespace Go.Proofs.Ytcmcdpoceeipbaa
open Go.RowKit
namespace Fr
open Wire Crc
theorem ab_len : (frameB [97, 98]).length = 11 := by rw [frame_len]; rfl
theorem ab_head : ∃ t, frameB [97, 98] = 2 :: t := ⟨sumB [97, 98] ++ [97, 98], rfl⟩
theorem ab_take : frTake (frameB [97, 98] ++ [122]) = ([97, 98], 11, 0) := by rw [take_own _ _ (by decide) (by decide), ab_len]
theorem zero_take : frTake [0] = ([], 0, 4) := take_form [0] [] 0 (by kernel_rfl) (.inl rfl)
set_option maxRecDepth 100000 in
set_option maxHeartbeats 1000000 in
theorem wakes_any (w : World) : Calls Try.prog 8 #[] w fun e w' => e = .returned (.bool true) ∧ Below w.heap.size w w' := by
  have hlen := ab_len
  obtain ⟨t, ht⟩ := ab_head
  have HT := Lib.hid (fun w => take_any (frameB [97, 98] ++ [122]) (by rw [List.length_append, ab_len]; decide) w)
  rw [ab_take] at HT
  have HZ := Lib.hid (fun w => take_any [0] (by decide) w)
  rw [zero_take] at HZ
  unfold tkv at HT HZ
  dsimp only at HT HZ
  have HP := Lib.hid (fun base vb n0 xs w h h0 hb => put_any base vb n0 xs [97, 98] (by decide) (by decide) w h h0 hb)
  rw [hlen] at HP
  have hcat := bs_append (frameB [97, 98]) [122]
  have HH := Lib.hid (show (by8 (frameB [97, 98]))[0]? = some (.int .u8 2) by rw [ht]; rfl)
  have zf := bs_size (frameB [97, 98])
  rw [hlen] at zf
  have q1 : ((bs [97, 98]).toList == [97, 98]) = true := by rw [bs_toList]; rfl
  have q1' : ((bs [97, 98]).toList == (bs [97, 98]).toList) = true := by simp
  clear ht
  generalize frameB [97, 98] = f at *
  have kc := Lib.run_convert_bytes_const (P := Try.prog) w 22 5 #[.int .u8 120] 1 1 Try.underlying22 Try.underlying5
  have k0 := Blk.new w (.cells #[.int .u8 120] 5 (1, 2))
  have b0 := below1 w (.cells #[.int .u8 120] 5 (1, 2))
  go_enter Try.func8, Try.ntmps8
  go_wp2_with fail
  obtain ⟨w0, hw0⟩ : ∃ w0, w.alloc (.cells #[.int .u8 120] 5 (#[Value.int .u8 120].size, #[Value.int .u8 120].size + 1)) = w0 := ⟨_, rfl⟩
  have hw0' : w.alloc (.cells #[.int .u8 120] 5 (1, 2)) = w0 := hw0
  first | rw [hw0] | rw [hw0']
  rw [hw0'] at k0 b0
  clear kc hw0 hw0'
  have c0 := k0.cell 0
  refine (HP.out w.heap.size _ 1 [.int .u8 120] _ (.inr ⟨w.heap.size, .int .u8 120, rfl, rfl, rfl, k0.lt, c0⟩) (by decide) b0.size).mono ?_
  rintro e w1 ⟨v, rfl, ho, g⟩
  have b1 : Below w.heap.size w w1 := g.below b0 b0.size (fun b hb => by cases hb; exact Nat.le_refl _)
  have hr := RdV.owns ho
  have ho' := ho
  rcases ho.2 with ⟨_, h0⟩ | ⟨gb, cap, cur, rfl, _, _, _, _, _, _⟩
  · simp at h0
  · have c0 := World.ownsRow.cells (g := gb) ho rfl 0 (.int .u8 120) rfl
    have c1 := World.ownsRow.cells (g := gb) ho rfl 1 (.int .u8 2) HH.out
    rw [show (⟨gb, 0, none⟩ : Addr).add 0 = ⟨gb, 0, none⟩ from rfl] at c0
    rw [show (⟨gb, 0, none⟩ : Addr).add 1 = ⟨gb, 1, none⟩ from rfl] at c1
    have tx := rd_text (RdV.drop (k := 1) hr (by omega)) hlen
    have hs1 : ¬ 9223372036854775807 < 11 + 1 := by decide
    clear hr ho ho'
    go_wp2_with fail
    refine (HT.out _).mono ?_
    rintro e w2 ⟨rfl, b2⟩
    go_wp2_with fail
    refine (HZ.out _).mono ?_
    rintro e w3 ⟨rfl, b3⟩
    go_wp2_with fail
    go_ret
    exact ⟨rfl, Below.later' (Below.later' b1 b2) b3⟩
end Fr
end Go.Proofs.Ytcmcdpoceeipbaa
