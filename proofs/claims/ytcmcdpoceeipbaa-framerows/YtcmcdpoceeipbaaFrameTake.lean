/-
  The package frame's Take, walked.
-/
import Derived.Test.YtcmcdpoceeipbaaFrame
import Derived.Test.YtcmcdpoceeipbaaCuts
namespace Go.Proofs.Ytcmcdpoceeipbaa
open Go.RowKit
namespace Fr
open Wire Crc
def tkv (x : List UInt8 × Nat × Nat) : Value := .tuple #[.string (bs x.1), .int .i64 (x.2.1 : Int), .int .i64 (x.2.2 : Int)]
theorem bs_eqs (a b : List UInt8) (f : Bool) (hf : f = true ↔ a = b) : ((bs a).toList == (bs b).toList) = f ∧ ((bs a).toList != (bs b).toList) = !f := by
  rw [bs_toList, bs_toList]
  cases f
  · have h : ¬ a = b := fun h => by have := hf.2 h; cases this
    simp [h]
  · have h : a = b := hf.1 rfl
    simp [h]
set_option maxRecDepth 100000 in
set_option maxHeartbeats 2000000 in
theorem take_any (s : List UInt8) (hs : s.length ≤ 1000000000) (w : World) : Calls Try.prog 13 #[.string (bs s)] w fun e w' => e = .returned (tkv (frTake s)) ∧ Below w.heap.size w w' := by
  have zs := bs_size s
  have HN := Lib.hid (fun b w h => num_of b ⟨s, 0⟩ w h (by dsimp only; omega))
  rcases num_cases ⟨s, 0⟩ rfl with ⟨e, h1, h2⟩ | ⟨n, r, h1, h3, h2⟩
  · rw [h1] at HN
    dsimp only at HN
    have HT := Lib.hid (take_bad s e h1 (by omega))
    have t1 : ((e : Int) != 0) = true := by simp; omega
    clear h1 h2
    go_enter Try.func13, Try.ntmps13
    go_wp2_with fail
    refine (of_any s w).mono ?_
    rintro e w1 ⟨br, rfl, hbr, b1, r1⟩
    go_wp2_with fail
    refine (HN.out br w1 r1).mono ?_
    rintro e w2 ⟨rfl, g2, r2⟩
    have b2 := Below.grew b1 g2 b1.size hbr
    clear r1 b1 g2
    go_wp2_with fail
    refine (err_of br _ w2 r2).mono ?_
    rintro e w3 ⟨rfl, rfl⟩
    go_wp2_with fail
    refine bodyPost_ret (v := .tuple #[.string ⟨#[]⟩, .int .i64 0, .int .i64 e]) (by simp [results, Try.results13, go_sem]) rfl ⟨by rw [HT.out]; rfl, b2⟩
  · dsimp only at h1
    rw [h2] at HN
    dsimp only at HN
    have hd0 : ((n : Int) == 0) = decide (n = 0) := by by_cases h : n = 0 <;> simp [h]
    by_cases h0 : n = 0
    · have HT := Lib.hid (take_form s r n h2 (.inl h0))
      subst h0
      have q0 : (((0 : Nat) : Int) == 0) = true := rfl
      clear hd0 h1 h2
      go_enter Try.func13, Try.ntmps13
      go_wp2_with fail
      refine (of_any s w).mono ?_
      rintro e w1 ⟨br, rfl, hbr, b1, r1⟩
      go_wp2_with fail
      refine (HN.out br w1 r1).mono ?_
      rintro e w2 ⟨rfl, g2, r2⟩
      have b2 := Below.grew b1 g2 b1.size hbr
      clear r1 b1 g2
      go_wp2_with fail
      refine (err_of br _ w2 r2).mono ?_
      rintro e w3 ⟨rfl, rfl⟩
      go_wp2_with fail
      refine bodyPost_ret (v := .tuple #[.string ⟨#[]⟩, .int .i64 0, .int .i64 4]) (by simp [results, Try.results13, go_sem]) rfl ⟨by rw [HT.out]; rfl, b2⟩
    · have q0 : ((n : Int) == 0) = false := by rw [hd0]; simp [h0]
      clear hd0
      by_cases hb : 65536 < n
      · have HT := Lib.hid (take_form s r n h2 (.inr hb))
        have d1 : decide (65536 < n) = true := decide_eq_true hb
        have d2 : decide ((65536 : Int) < (n : Int)) = true := decide_eq_true (by omega)
        clear h1 h2
        go_enter Try.func13, Try.ntmps13
        go_wp2_with fail
        refine (of_any s w).mono ?_
        rintro e w1 ⟨br, rfl, hbr, b1, r1⟩
        go_wp2_with fail
        refine (HN.out br w1 r1).mono ?_
        rintro e w2 ⟨rfl, g2, r2⟩
        have b2 := Below.grew b1 g2 b1.size hbr
        clear r1 b1 g2
        go_wp2_with fail
        refine (err_of br _ w2 r2).mono ?_
        rintro e w3 ⟨rfl, rfl⟩
        go_wp2_with fail
        refine bodyPost_ret (v := .tuple #[.string ⟨#[]⟩, .int .i64 0, .int .i64 4]) (by simp [results, Try.results13, go_sem]) rfl ⟨by rw [HT.out]; rfl, b2⟩
      · have d1 : decide (65536 < n) = false := decide_eq_false hb
        have d2 : decide ((65536 : Int) < (n : Int)) = false := decide_eq_false (by omega)
        have hlen : s.length = (numB n).length + r.length := by rw [h1, List.length_append]
        have hle := numB_le n
        obtain ⟨m, hm⟩ : ∃ m, (numB n).length = m := ⟨_, rfl⟩
        rw [hm] at hlen hle
        have hcut := cut_lo s m (by omega)
        have hdr : s.drop m = r := by rw [h1, ← hm, List.drop_left]
        rw [hdr] at hcut
        have hsub : ((s.length : Int) - (r.length : Int)) = (m : Int) := by omega
        have hwn : IntKind.i64.wrap (n : Int) = n := by rw [IntKind.wrap_i64]; omega
        have zr := bs_size r
        by_cases hl : r.length < 8 + n
        · have HT := Lib.hid (take_cut s r n h2 (by omega) hl)
          have e1 : decide (r.length < 8 + n) = true := decide_eq_true hl
          have e2 : decide ((r.length : Int) < 8 + (n : Int)) = true := decide_eq_true (by omega)
          clear h1 h2 hdr
          go_enter Try.func13, Try.ntmps13
          go_wp2_with fail
          refine (of_any s w).mono ?_
          rintro e w1 ⟨br, rfl, hbr, b1, r1⟩
          go_wp2_with fail
          refine (HN.out br w1 r1).mono ?_
          rintro e w2 ⟨rfl, g2, r2⟩
          have b2 := Below.grew b1 g2 b1.size hbr
          clear r1 b1 g2
          go_wp2_with fail
          refine (err_of br _ w2 r2).mono ?_
          rintro e w3 ⟨rfl, rfl⟩
          go_wp2_with fail
          refine (left_of br _ w2 r2).mono ?_
          rintro e w3 ⟨rfl, rfl⟩
          go_wp2_with fail
          refine bodyPost_ret (v := .tuple #[.string ⟨#[]⟩, .int .i64 0, .int .i64 3]) (by simp [results, Try.results13, go_sem]) rfl ⟨by rw [HT.out]; rfl, b2⟩
        · have e1 : decide (r.length < 8 + n) = false := decide_eq_false hl
          have e2 : decide ((r.length : Int) < 8 + (n : Int)) = false := decide_eq_false (by omega)
          have hib := cut_both r 8 (8 + n) (by omega) (by omega)
          have hi8 := cut_hi r 8 (by omega)
          have hie : (r.drop 8).take (8 + n - 8) = inR r n := by rw [Nat.add_sub_cancel_left]; rfl
          rw [hie] at hib
          have hin := inR_len r n hl
          have HSUM := Lib.hid (fun w => fsum_any (inR r n) (by rw [hin]; omega) w)
          have HT1 := Lib.hid (fun h => take_whole s r n h2 (by omega) hl h)
          have HT2 := Lib.hid (fun h => take_sum s r n h2 (by omega) hl h)
          have hcast : ((8 + n : Nat) : Int) = 8 + (n : Int) := by omega
          have c8 : ((8 : Nat) : Int) = 8 := rfl
          rw [hcast, c8] at hib
          rw [c8] at hi8
          obtain ⟨f, hf⟩ : ∃ f : Bool, f = true ↔ sumB (inR r n) = r.take 8 := by
            by_cases h : sumB (inR r n) = r.take 8
            · exact ⟨true, by simp [h]⟩
            · exact ⟨false, by simp [h]⟩
          obtain ⟨q1, q2⟩ := bs_eqs _ _ f hf
          have HF := Lib.hid hf
          have zi := bs_size (inR r n)
          have hsz : s.length - r.length + (8 + n) = m + (8 + n) := by omega
          rw [hsz] at HT1
          generalize inR r n = x at *
          generalize r.take 8 = c at *
          generalize sumB x = d at *
          clear h1 h2 hdr hie hf hsz hcast
          go_enter Try.func13, Try.ntmps13
          go_wp2_with fail
          refine (of_any s w).mono ?_
          rintro e w1 ⟨br, rfl, hbr, b1, r1⟩
          go_wp2_with fail
          refine (HN.out br w1 r1).mono ?_
          rintro e w2 ⟨rfl, g2, r2⟩
          have b2 := Below.grew b1 g2 b1.size hbr
          clear r1 b1 g2
          go_wp2_with fail
          refine (err_of br _ w2 r2).mono ?_
          rintro e w3 ⟨rfl, rfl⟩
          go_wp2_with fail
          refine (left_of br _ w2 r2).mono ?_
          rintro e w3 ⟨rfl, rfl⟩
          go_wp2_with fail
          have B0 : Below w2.heap.size w2 w2.drew := Below.drew (Below.refl _ _)
          refine wp_region_ord (fun w' => Below w2.heap.size w2 w') (0 :: 2 :: 3 :: 1 :: 4 :: []) [1] (by kernel_rfl) (by kernel_rfl) (by intro c d v a w h; cases d <;> exact h) B0 ?_
          repeat (first
            | (refine wpOrd_take (v := ?_) rfl rfl ?_ ?_ ?_; rotate_left; rfl; (· intro w' hSw; (try dsimp only at hSw); go_simp <;> with_reducible rfl); simp only [Act.put, List.setIfInBounds_toArray, List.set_cons_zero, List.set_cons_succ])
            | (refine wpOrd_skip rfl rfl ?_ ?_; rfl; simp only [Act.put, List.setIfInBounds_toArray, List.set_cons_zero, List.set_cons_succ]))
          refine wpOrd_eff rfl rfl (fun K hK => ?_)
          go_wp2_with fail
          refine (HSUM.out _).mono ?_
          rintro e x1 ⟨rfl, c1⟩
          have B1 := B0.trans (c1.mono B0.size)
          go_wp2_with fail
          refine hK.out _ _ B1 ?_
          clear hK K
          repeat (first
            | (refine wpOrd_take (v := ?_) rfl rfl ?_ ?_ ?_; rotate_left; rfl; (· intro w' hSw; (try dsimp only at hSw); go_simp <;> with_reducible rfl); simp only [Act.put, List.setIfInBounds_toArray, List.set_cons_zero, List.set_cons_succ])
            | (refine wpOrd_skip rfl rfl ?_ ?_; rfl; simp only [Act.put, List.setIfInBounds_toArray, List.set_cons_zero, List.set_cons_succ]))
          refine wpOrd_nil ?_
          have B2 := Below.later' b2 B1
          cases f
          · have HT := Lib.hid (HT2.out (fun h => by have := HF.out.2 h; cases this))
            go_wp2_with fail
            refine bodyPost_ret (v := .tuple #[.string ⟨#[]⟩, .int .i64 0, .int .i64 5]) (by simp [results, Try.results13, go_sem]) rfl ⟨by rw [HT.out]; rfl, B2⟩
          · have HT := Lib.hid (HT1.out (HF.out.1 rfl))
            have hsb : ((s.length : Int) - (r.length : Int)) = (m : Int) := by omega
            go_wp2_with fail
            refine bodyPost_ret (v := .tuple #[.string (bs x), .int .i64 ((m + (8 + n) : Nat) : Int), .int .i64 0]) (by simp [results, Try.results13, go_sem]) rfl ⟨by rw [HT.out]; rfl, B2⟩
end Fr
end Go.Proofs.Ytcmcdpoceeipbaa
