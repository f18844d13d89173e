/-
  The document's Frame and Take, walked.
-/
import Derived.Test.YtcmcdpoceeipbaaFrameTake
namespace Go.Proofs.Ytcmcdpoceeipbaa
open Go.RowKit
namespace Fr
open Wire Crc
set_option maxRecDepth 100000 in
set_option maxHeartbeats 1000000 in
theorem rframe_any (s : List UInt8) (hs : s.length ≤ 1000000) (w : World) : Calls Try.prog 10 #[.string (bs s)] w fun e w' => e = .returned (.string (bs (frameB s))) ∧ Below w.heap.size w w' := by
  have zs := bs_size s
  have HS := Lib.hid (fun w => rsum_any s (by omega) w)
  have hlt := sumR_lt s
  have HX := Lib.hid (show sumB s = le8 8 (sumR s) from rfl)
  have hsl := sumB_len s
  obtain ⟨x, hx⟩ : ∃ x, sumR s = x := ⟨_, rfl⟩
  rw [hx] at HS hlt HX
  clear hx
  go_enter Try.func10, Try.ntmps10
  go_wp2_with fail
  refine (HS.out w).mono ?_
  rintro e w' ⟨rfl, rfl⟩
  go_wp2_with fail
  go_loopw [3, 4, 5] (fun s3 s4 s5 wr => ∃ (k : Nat) (sv : Value), k ≤ 8 ∧ s5 = .int .i64 k ∧ s3 = .int .u64 (x / 256 ^ k : Nat) ∧ sv = s4 ∧ wr.ownsRow w.heap.size 5 1 sv k (by8 (le8 k x)) ∧ Below w.heap.size w wr) (fun _ _ s5 _ => 8 - (intOf s5).toNat)
  case atStart => exact ⟨0, _, by omega, rfl, by simp, rfl, own_nil _ _, Below.refl _ _⟩
  case round =>
    obtain ⟨k, sv, hk, rfl, rfl, rfl, ho, BB⟩ := hrel
    by_cases h8 : k < 8
    · have d1 : decide ((k : Int) < 8) = true := decide_eq_true (by omega)
      have d2 : decide (k < 8) = true := decide_eq_true h8
      have HN := Lib.hid (show by8 (le8 (k + 1) x) = by8 (le8 k x) ++ [.int .u8 ((UInt8.ofNat (x / 256 ^ k)).toNat : Int)] by rw [le8_snoc, by8_append]; rfl)
      have HQ := Lib.hid (show x / 256 ^ (k + 1) = x / 256 ^ k / 256 by rw [Nat.div_div_eq_div_mul, Nat.pow_succ])
      have hq : x / 256 ^ k ≤ x := Nat.div_le_self _ _
      obtain ⟨q, hqe⟩ : ∃ q, x / 256 ^ k = q := ⟨_, rfl⟩
      rw [hqe] at HN HQ hq ⊢
      clear hqe
      have hmod : ((q : Int) % 256) = ((UInt8.ofNat q).toNat : Int) := by rw [UInt8.toNat_ofNat']; omega
      have hul := UInt8.toNat_lt (UInt8.ofNat q)
      obtain ⟨u, hu⟩ : ∃ u : Nat, (UInt8.ofNat q).toNat = u := ⟨_, rfl⟩
      rw [hu] at hmod HN hul
      obtain ⟨r, hr⟩ : ∃ r, q / 256 = r := ⟨_, rfl⟩
      have hdiv : (q : Int) / 256 = (r : Int) := by omega
      rw [hr] at HQ
      have hwr : IntKind.u64.wrap (r : Int) = r := by rw [IntKind.wrap_u64]; omega
      have hwu : IntKind.u8.wrap (u : Int) = u := by rw [IntKind.wrap_u8]; omega
      clear hr hu
      go_wp2_with (at_builtin; go_loud (refine app1g rfl _ _ 22 rfl w.heap.size 5 (.int .u8 0) 1 info Try.underlying22 rfl wr (.int .u8 (u : Int)) 5 rfl sv _ _ ho rfl _ rfl rfl (by omega) (by omega) BB.size ?_; intro v3 w3 ho3 g3))
      rw [← HN.out] at ho3
      go_roundw
      case rel => exact ⟨k + 1, _, by omega, by go_num, by rw [HQ.out], rfl, ho3, g3.below BB BB.size (fun b hb => (ho.lt b hb).1)⟩
      case measure => simp [intOf]; omega
    · obtain rfl : k = 8 := by omega
      have d1 : decide ((8 : Int) < 8) = false := rfl
      rw [← HX.out] at ho
      have HT := Lib.hid (fun (w' : World) (hb : Below wr.heap.size wr w') => own_text (ownsRow_below ho hb))
      have hw : IntKind.u64.wrap (s.length : Int) = s.length := by rw [IntKind.wrap_u64]; omega
      have hle := numB_le s.length
      have HE := Lib.hid (show frameB s = (numB s.length ++ sumB s) ++ s by simp [frameB])
      have HNU := Lib.hid (fun w => rnum_any s.length (by omega) w)
      obtain ⟨N, hN⟩ : ∃ N, numB s.length = N := ⟨_, rfl⟩
      rw [hN] at HE HNU hle
      clear hN HX
      generalize sumB s = C at *
      have hc1 := bs_append N C
      have hc2 := bs_append (N ++ C) s
      have z1 := bs_size N
      have z2 := bs_size C
      have z3 := bs_size (N ++ C)
      have hNC : (N ++ C).length = N.length + C.length := List.length_append
      rw [hNC] at z3
      have s1 : ¬ 9223372036854775807 < N.length + C.length := by omega
      have s2 : ¬ 9223372036854775807 < (N.length : Int) + (C.length : Int) := by omega
      have s3 : ¬ 9223372036854775807 < N.length + C.length + s.length := by omega
      have s4 : ¬ 9223372036854775807 < (N.length : Int) + (C.length : Int) + (s.length : Int) := by omega
      clear hNC hsl hle
      go_wp2_with fail
      have B0 : Below wr.heap.size wr wr.drew := Below.drew (Below.refl _ _)
      have HT := HT.out
      refine wp_region_ord (fun w' => Below wr.heap.size wr w') (0 :: 1 :: 2 :: 4 :: 5 :: 7 :: 3 :: 6 :: 8 :: 9 :: []) [3] (by kernel_rfl) (by kernel_rfl) (by intro c d v a w h; cases d <;> exact h) B0 ?_
      repeat (first
        | (refine wpOrd_take (v := ?_) rfl rfl ?_ ?_ ?_; rotate_left; rfl; (· intro w' hSw; (try dsimp only at hSw); go_simp <;> with_reducible rfl); simp only [Act.put, List.setIfInBounds_toArray, List.set_cons_zero, List.set_cons_succ])
        | (refine wpOrd_skip rfl rfl ?_ ?_; rfl; simp only [Act.put, List.setIfInBounds_toArray, List.set_cons_zero, List.set_cons_succ]))
      refine wpOrd_eff rfl rfl (fun K hK => ?_)
      go_wp2_with fail
      refine (HNU.out _).mono ?_
      rintro e x1 ⟨rfl, c1⟩
      have B1 := B0.trans (c1.mono B0.size)
      go_wp2_with fail
      refine hK.out _ _ B1 ?_
      clear hK K
      repeat (first
        | (refine wpOrd_take (v := ?_) rfl rfl ?_ ?_ ?_; rotate_left; rfl; (· intro w' hSw; (try dsimp only at hSw); go_simp <;> with_reducible rfl); simp only [Act.put, List.setIfInBounds_toArray, List.set_cons_zero, List.set_cons_succ])
        | (refine wpOrd_skip rfl rfl ?_ ?_; rfl; simp only [Act.put, List.setIfInBounds_toArray, List.set_cons_zero, List.set_cons_succ]))
      refine wpOrd_nil ?_
      clear HT
      go_wp2_with fail
      go_ret
      exact ⟨by rw [HE.out, List.append_assoc]; rfl, Below.later' BB B1⟩
set_option maxRecDepth 100000 in
set_option maxHeartbeats 2000000 in
theorem rtake_any (s : List UInt8) (hs : s.length ≤ 1000000) (w : World) : Calls Try.prog 14 #[.string (bs s)] w fun e w' => e = .returned (tkv (frTake s)) ∧ Below w.heap.size w w' := by
  have zs := bs_size s
  have HN := Lib.hid (fun w => dnum_any ⟨s, 0⟩ (by dsimp only; omega) w)
  rcases num_cases ⟨s, 0⟩ rfl with ⟨e, h1, h2⟩ | ⟨n, r, h1, h3, h2⟩
  · rw [h1] at HN
    dsimp only at HN
    have HT := Lib.hid (take_bad s e h1 (by omega))
    have t1 : ((e : Int) != 0) = true := by simp; omega
    clear h1 h2
    unfold rv at HN
    go_enter Try.func14, Try.ntmps14
    go_wp2_with fail
    refine (HN.out w).mono ?_
    rintro e w1 ⟨rfl, b1⟩
    have k1 := Blk.new w1 (.cells #[.string (bs []), .int .i64 (e : Int)] 58)
    have b2 := Below.later' b1 (below1 w1 (.cells #[.string (bs []), .int .i64 (e : Int)] 58))
    go_upto_if 17 with (fail)
    generalize w1.alloc (.cells #[.string (bs []), .int .i64 (e : Int)] 58) = W at *
    have c0 := k1.cell 0
    have c1 := k1.cell 1
    have F := k1.held
    go_wp2_with fail
    have B0 : Below W.heap.size W W.drew := Below.drew (Below.refl _ _)
    refine wp_region_ord (fun w' => Below W.heap.size W w') (0 :: 1 :: 2 :: 3 :: 4 :: []) [] (by kernel_rfl) (by kernel_rfl) (by intro c d v a w h; cases d <;> exact h) B0 ?_
    repeat (first
      | (refine wpOrd_take (v := ?_) rfl rfl ?_ ?_ ?_; rotate_left; rfl; (· intro w' hSw; (try dsimp only at hSw); go_simp <;> with_reducible rfl); simp only [Act.put, List.setIfInBounds_toArray, List.set_cons_zero, List.set_cons_succ])
      | (refine wpOrd_skip rfl rfl ?_ ?_; rfl; simp only [Act.put, List.setIfInBounds_toArray, List.set_cons_zero, List.set_cons_succ]))
    refine wpOrd_nil ?_
    go_wp2_with fail
    refine bodyPost_ret (v := .tuple #[.string ⟨#[]⟩, .int .i64 0, .int .i64 e]) (by simp [results, Try.results14, go_sem]) rfl ⟨by rw [HT.out]; rfl, Below.later' b2 B0⟩
  · dsimp only at h1
    rw [h2] at HN
    dsimp only at HN
    by_cases h0 : n < 1
    · have HT := Lib.hid (take_form s r n h2 (.inl (by omega)))
      have d1 : decide (n < 1) = true := decide_eq_true h0
      have d2 : decide ((n : Int) < 1) = true := decide_eq_true (by omega)
      clear h1 h2
      unfold rv at HN
      go_enter Try.func14, Try.ntmps14
      go_wp2_with fail
      refine (HN.out w).mono ?_
      rintro e w1 ⟨rfl, b1⟩
      have k1 := Blk.new w1 (.cells #[.string (bs r), .int .i64 0] 58)
      have b2 := Below.later' b1 (below1 w1 (.cells #[.string (bs r), .int .i64 0] 58))
      go_upto_if 17 with (fail)
      generalize w1.alloc (.cells #[.string (bs r), .int .i64 0] 58) = W at *
      have c0 := k1.cell 0
      have c1 := k1.cell 1
      have F := k1.held
      go_wp2_with fail
      refine bodyPost_ret (v := .tuple #[.string ⟨#[]⟩, .int .i64 0, .int .i64 4]) (by simp [results, Try.results14, go_sem]) rfl ⟨by rw [HT.out]; rfl, b2⟩
    · have d1 : decide (n < 1) = false := decide_eq_false h0
      have d2 : decide ((n : Int) < 1) = false := decide_eq_false (by omega)
      by_cases hb : 65536 < n
      · have HT := Lib.hid (take_form s r n h2 (.inr hb))
        have d3 : decide (65536 < n) = true := decide_eq_true hb
        have d4 : decide ((65536 : Int) < (n : Int)) = true := decide_eq_true (by omega)
        clear h1 h2
        unfold rv at HN
        go_enter Try.func14, Try.ntmps14
        go_wp2_with fail
        refine (HN.out w).mono ?_
        rintro e w1 ⟨rfl, b1⟩
        have k1 := Blk.new w1 (.cells #[.string (bs r), .int .i64 0] 58)
        have b2 := Below.later' b1 (below1 w1 (.cells #[.string (bs r), .int .i64 0] 58))
        go_upto_if 17 with (fail)
        generalize w1.alloc (.cells #[.string (bs r), .int .i64 0] 58) = W at *
        have c0 := k1.cell 0
        have c1 := k1.cell 1
        have F := k1.held
        go_wp2_with fail
        refine bodyPost_ret (v := .tuple #[.string ⟨#[]⟩, .int .i64 0, .int .i64 4]) (by simp [results, Try.results14, go_sem]) rfl ⟨by rw [HT.out]; rfl, b2⟩
      · have d3 : decide (65536 < n) = false := decide_eq_false hb
        have d4 : decide ((65536 : Int) < (n : Int)) = false := decide_eq_false (by omega)
        have hlen : s.length = (numB n).length + r.length := by rw [h1, List.length_append]
        have hwn : IntKind.i64.wrap (n : Int) = n := by rw [IntKind.wrap_i64]; omega
        have zr := bs_size r
        by_cases hl : r.length < 8 + n
        · have HT := Lib.hid (take_cut s r n h2 (by omega) hl)
          have e1 : decide (r.length < 8 + n) = true := decide_eq_true hl
          have e2 : decide ((r.length : Int) < 8 + (n : Int)) = true := decide_eq_true (by omega)
          clear h1 h2
          unfold rv at HN
          go_enter Try.func14, Try.ntmps14
          go_wp2_with fail
          refine (HN.out w).mono ?_
          rintro e w1 ⟨rfl, b1⟩
          have k1 := Blk.new w1 (.cells #[.string (bs r), .int .i64 0] 58)
          have b2 := Below.later' b1 (below1 w1 (.cells #[.string (bs r), .int .i64 0] 58))
          go_upto_if 17 with (fail)
          generalize w1.alloc (.cells #[.string (bs r), .int .i64 0] 58) = W at *
          have c0 := k1.cell 0
          have c1 := k1.cell 1
          have F := k1.held
          go_wp2_with fail
          refine bodyPost_ret (v := .tuple #[.string ⟨#[]⟩, .int .i64 0, .int .i64 3]) (by simp [results, Try.results14, go_sem]) rfl ⟨by rw [HT.out]; rfl, b2⟩
        · have e1 : decide (r.length < 8 + n) = false := decide_eq_false hl
          have e2 : decide ((r.length : Int) < 8 + (n : Int)) = false := decide_eq_false (by omega)
          have hib := cut_both r 8 (8 + n) (by omega) (by omega)
          have hie : (r.drop 8).take (8 + n - 8) = inR r n := by rw [Nat.add_sub_cancel_left]; rfl
          have hcast : ((8 + n : Nat) : Int) = 8 + (n : Int) := by omega
          have c8 : ((8 : Nat) : Int) = 8 := rfl
          rw [hie, hcast, c8] at hib
          have hin := inR_len r n hl
          have HT1 := Lib.hid (fun h => take_whole s r n h2 (by omega) hl h)
          have HT2 := Lib.hid (fun h => take_sum s r n h2 (by omega) hl h)
          have hlf : (frameB (inR r n)).length = (numB n).length + (8 + n) := by rw [frame_len, hin]
          have HFR := Lib.hid (fun w => rframe_any (inR r n) (by omega) w)
          have zf := bs_size (frameB (inR r n))
          have hcf := cut_hi s (frameB (inR r n)).length (by omega)
          obtain ⟨f, hf⟩ : ∃ f : Bool, f = true ↔ sumB (inR r n) = r.take 8 := by
            by_cases h : sumB (inR r n) = r.take 8
            · exact ⟨true, by simp [h]⟩
            · exact ⟨false, by simp [h]⟩
          have hfe : f = true ↔ s.take (frameB (inR r n)).length = frameB (inR r n) := by
            rw [hf, ← in_frame r n hl, ← h1]
            constructor
            · intro h
              have h3 := congrArg (List.take (frameB (inR r n)).length) h
              rw [List.take_left] at h3
              exact h3
            · intro h
              have h4 : s = s.take (frameB (inR r n)).length ++ s.drop (frameB (inR r n)).length := (List.take_append_drop _ _).symm
              have h5 : s.drop (frameB (inR r n)).length = r.drop (8 + n) := by
                rw [hlf, h1, List.drop_append, List.drop_of_length_le (by omega), List.nil_append]; congr 1; omega
              rw [h, h5] at h4
              exact h4
          obtain ⟨q1, q2⟩ := bs_eqs _ _ f hfe
          have HF := Lib.hid hf
          have zi := bs_size (inR r n)
          have hsz : s.length - r.length + (8 + n) = (frameB (inR r n)).length := by omega
          rw [hsz] at HT1
          have hFle : (frameB (inR r n)).length ≤ 100000 := by have := numB_le n; omega
          generalize r.take 8 = cc at *
          generalize hFR : frameB (inR r n) = fb at *
          generalize inR r n = x at *
          generalize s.take fb.length = sf at *
          clear h1 h2 hie hf hsz hcast hfe hlf hFR hlen
          unfold rv at HN
          go_enter Try.func14, Try.ntmps14
          go_wp2_with fail
          refine (HN.out w).mono ?_
          rintro e w1 ⟨rfl, b1⟩
          have k1 := Blk.new w1 (.cells #[.string (bs r), .int .i64 0] 58)
          have b2 := Below.later' b1 (below1 w1 (.cells #[.string (bs r), .int .i64 0] 58))
          go_upto_if 17 with (fail)
          generalize w1.alloc (.cells #[.string (bs r), .int .i64 0] 58) = W at *
          have c0 := k1.cell 0
          have c1 := k1.cell 1
          have F := k1.held
          go_wp2_with fail
          refine (HFR.out _).mono ?_
          rintro e x1 ⟨rfl, b3⟩
          have B3 := Below.later' b2 b3
          cases f
          · have HT := Lib.hid (HT2.out (fun h => by have := HF.out.2 h; cases this))
            clear HT1 HT2
            go_wp2_with fail
            refine bodyPost_ret (v := .tuple #[.string ⟨#[]⟩, .int .i64 0, .int .i64 5]) (by simp [results, Try.results14, go_sem]) rfl ⟨by rw [HT.out]; rfl, B3⟩
          · have HT := Lib.hid (HT1.out (HF.out.1 rfl))
            clear HT1 HT2
            go_wp2_with fail
            refine bodyPost_ret (v := .tuple #[.string (bs x), .int .i64 (fb.length : Int), .int .i64 0]) (by simp [results, Try.results14, go_sem]) rfl ⟨by rw [HT.out]; rfl, B3⟩
end Fr
end Go.Proofs.Ytcmcdpoceeipbaa
