/-
  FrameKnown, walked.
-/
import Derived.Test.YtcmcdpoceeipbaaFramePuts
namespace Go.Proofs.Ytcmcdpoceeipbaa
open Go.RowKit
namespace Fr
open Wire Crc
theorem cut_take : frTake [1, 0, 0] = ([], 0, 3) := take_cut [1, 0, 0] [0, 0] 1 (by kernel_rfl) (by decide) (by decide)
theorem made_zero (n : Nat) : madeCells #[.int .u8 0] n = Array.replicate n (.int .u8 0) := by
  apply Array.ext
  · simp [madeCells]
  · intro i h1 h2
    simp [madeCells, Nat.mod_one]
theorem mk_big (w : World) : (Instr.makeSlice 22 (.int .i64 65536) (.int .i64 65536)).run Try.prog w = .ok (.slice (some ⟨w.heap.size, 0, none⟩) 65536 65536) (w.alloc (.cells (Array.replicate 65536 (.int .u8 0)) 5)) := by
  obtain ⟨i, hi, hz, hz1, hz2⟩ := info_parts info
  have h := run_makeSlice (P := Try.prog) w 22 5 i (.int .u8 0) Try.underlying22 hi hz .i64 .i64 65536 65536 (by decide) (by decide) (by rw [hz1]; decide) (by rw [hz2]; decide) (by decide)
  rw [hz1] at h
  rw [h]
  have e : madeCells (Value.int .u8 0).cells ((65536 : Int).toNat * 1) = Array.replicate 65536 (.int .u8 0) := made_zero 65536
  rw [e]; rfl
set_option maxRecDepth 100000 in
set_option maxHeartbeats 1000000 in
theorem known_walk (w : World) : Calls Try.prog 5 #[] w fun e w' => e = .returned (.bool true) ∧ Below w.heap.size w w' := by
  obtain ⟨big, hbig⟩ : ∃ big : List UInt8, big = List.replicate 65536 0 := ⟨_, rfl⟩
  have hlen : big.length = 65536 := by rw [hbig, List.length_replicate]
  have hby : by8 big = List.replicate 65536 (.int .u8 0) := by rw [hbig, by8, List.map_replicate]; rfl
  have HBY := Lib.hid hby
  have HP := Lib.hid (fun base vb n0 xs w h h0 hb => put_any base vb n0 xs big (by omega) (by omega) w h h0 hb)
  have hfl := frame_le big
  have hfl2 := frame_len big
  have HN1 := Lib.hid (fun vb w => put_none vb (big ++ [120]) (.inr (by rw [List.length_append, hlen]; decide)) (by rw [List.length_append, hlen]; decide) w)
  have HN2 := Lib.hid (fun vb w => put_none vb [] (.inl rfl) (by decide) w)
  have HT := Lib.hid (fun w => take_any (frameB big) (by omega) w)
  have hto := take_own big [] (by omega) (by omega)
  rw [List.append_nil] at hto
  rw [hto] at HT
  have HC := Lib.hid (fun w => take_any [1, 0, 0] (by decide) w)
  rw [cut_take] at HC
  have HS := Lib.hid (fun w => split_any [] (by decide) w)
  unfold spv at HS
  rw [frP_nil] at HS
  unfold tkv at HT HC
  dsimp only at HT HC HS
  have hcat := bs_append big [120]
  have zb := bs_size big
  have z1 : (bs [120]).size = 1 := rfl
  have hfn : (frameB big).length ≤ 100000 := by omega
  generalize frameB big = f at *
  have zf := bs_size f
  have e1 : ((bs big).toList == (bs big).toList) = true := by simp
  have e2 : ((bs [113]).toList == [113]) = true := by rw [bs_toList]; rfl
  have e2' : ((bs [113]).toList == (bs [113]).toList) = true := by simp
  have e3 : ((f.length : Int) == (f.length : Int)) = true := by simp
  rw [hlen] at zb
  have s1 : ¬ 9223372036854775807 < 65536 + 1 := by decide
  have kR := Blk.new w (.cells (Array.replicate 65536 (.int .u8 0)) 5)
  have bR := below1 w (.cells (Array.replicate 65536 (.int .u8 0)) 5)
  have hrd := rdV_blk kR 65536 65536 (by decide)
  rw [Array.toList_replicate, ← HBY.out] at hrd
  have tx := rd_text hrd hlen
  have hmk := mk_big w
  clear hbig hby hto hfl hfl2 hlen hrd
  go_enter Try.func5, Try.ntmps5
  go_wp2_with fail
  generalize w.alloc (.cells (Array.replicate 65536 (.int .u8 0)) 5) = W at *
  refine (HP.out W.heap.size _ 0 [] W (.inl (own_nil _ _)) (by decide) (Nat.le_refl _)).mono ?_
  rintro e w1 ⟨v1, rfl, ho1, g1⟩
  have b1 := below_grew g1
  rw [List.nil_append, Nat.zero_add] at ho1
  clear tx kR
  have kc := Lib.run_convert_bytes_const (P := Try.prog) w1 22 5 #[.int .u8 113] 1 1 Try.underlying22 Try.underlying5
  have k0 := Blk.new w1 (.cells #[.int .u8 113] 5 (1, 2))
  have b2 := below1 w1 (.cells #[.int .u8 113] 5 (1, 2))
  go_wp2_with fail
  obtain ⟨w2, hw2⟩ : ∃ w2, w1.alloc (.cells #[.int .u8 113] 5 (#[Value.int .u8 113].size, #[Value.int .u8 113].size + 1)) = w2 := ⟨_, rfl⟩
  have hw2' : w1.alloc (.cells #[.int .u8 113] 5 (1, 2)) = w2 := hw2
  first | rw [hw2] | rw [hw2']
  rw [hw2'] at k0 b2
  clear kc hw2 hw2'
  refine (HN1.out _ _).mono ?_
  rintro e w3 ⟨rfl, rfl⟩
  go_wp2_with fail
  refine (HN2.out _ _).mono ?_
  rintro e w3 ⟨rfl, rfl⟩
  have ho2 := ownsRow_below ho1 b2
  have tx2 := own_text ho2
  go_wp2_with fail
  refine (HT.out _).mono ?_
  rintro e w4 ⟨rfl, b4⟩
  clear tx2
  go_wp2_with fail
  refine (HC.out _).mono ?_
  rintro e w5 ⟨rfl, b5⟩
  go_wp2_with fail
  refine (HS.out _).mono ?_
  rintro e w6 ⟨v6, rfl, r6, b6⟩
  obtain ⟨p6, cap6, hv6, _⟩ := r6.len
  have k6 := ((k0.later b4).later b5).later b6
  have tx3 := rd_text (l := [113]) (rdV_blk k6 1 1 (by decide)) rfl
  have ho6 := ownsRow_below (ownsRow_below (ownsRow_below ho2 b4) b5) b6
  obtain ⟨p1, cap1, hv1, _, _, _⟩ := RdV.owns ho6
  subst hv1
  subst hv6
  clear r6 ho2 ho1 ho6 g1
  go_wp2_with fail
  refine (wakes_any _).mono ?_
  rintro e w7 ⟨rfl, b7⟩
  go_wp2
  go_ret
  exact ⟨rfl, Below.later' (Below.later' (Below.later' (Below.later' (Below.later' (Below.later' bR b1) b2) b4) b5) b6) b7⟩
end Fr
end Go.Proofs.Ytcmcdpoceeipbaa
