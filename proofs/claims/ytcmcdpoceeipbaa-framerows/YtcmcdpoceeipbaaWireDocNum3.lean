/-
  Seat 01: the document's own Num where it reads a great number, walked.
-/
import Derived.Test.YtcmcdpoceeipbaaWireDocNum2
namespace Go.Proofs.Ytcmcdpoceeipbaa
open Go.RowKit
namespace Wire
set_option maxRecDepth 100000 in
set_option maxHeartbeats 2000000 in
theorem dnum_great (c : UInt8) (l : List UInt8) (k : Nat) (h : ¬ c.toNat < 248) (hck : c.toNat = k + 247) (hlk : k ≤ l.length) (hl : l.length < 1000000000) (x : Nat × R) (hx : x = if (l.take k).headD 0 = 0 ∨ beN (l.take k) < 248 then (0, ⟨[], 4⟩) else (beN (l.take k), ⟨l.drop k, 0⟩)) (w : World) :
    Calls Try.prog 26 #[rv ⟨c :: l, 0⟩] w fun r w' => r = .returned (.tuple #[.int .u64 x.1, rv x.2]) ∧ Below w.heap.size w w' := by
  have hcl := c.toNat_lt
  have hk8 : k ≤ 8 := by omega
  have hk1 : 1 ≤ k := by omega
  have hz : (bs (c :: l)).size = l.length + 1 := bs_size _
  have hg := bs_get0 c l
  have ht : ((l.length : Int) + 1 == 0) = false := by simp; omega
  have hd : decide ((248 : Int) ≤ (c.toNat : Int)) = true := by simp; omega
  have hd' : decide (248 ≤ c.toNat) = true := by simp; omega
  have hs : ((c.toNat : Int) - 247) = (k : Int) := by omega
  have hq : decide ((l.length : Int) + 1 < 1 + (k : Int)) = false := by simp; omega
  have hq' : decide ((l.length : Int) + 1 < (k : Int) + 1) = false := by simp; omega
  have hp : decide ((0 : Int) < (k : Int)) = true := by simp; omega
  have hp' : decide (0 < k) = true := by simp; omega
  have h1k : (1 : Int) ≤ (k : Int) := by omega
  have HX := Lib.hid hx
  clear hx hck
  rw [show rv ⟨c :: l, 0⟩ = .agg #[.string (bs (c :: l)), .int .i64 0] from rfl]
  go_enter Try.func26, Try.ntmps26
  go_wp2_with fail
  go_loopw [5, 6] (fun n i wr => wr = ((w.alloc (.cells #[.string (bs (c :: l)), .int .i64 0] 58)).alloc (.cells #[.string ⟨#[]⟩, .int .i64 0] 58)) ∧ ∃ j : Nat, j ≤ k ∧ i = .int .i64 ((j : Int) + 1) ∧ n = .int .u64 (beN (l.take j))) (fun _ i _ => (k + 1 - (intOf i).toNat))
  case atStart => exact ⟨rfl, 0, Nat.zero_le _, rfl, rfl⟩
  case round =>
    obtain ⟨rfl, j, hj, rfl, rfl⟩ := hrel
    by_cases hlt : j < k
    · have hle : decide ((j : Int) + 1 ≤ (k : Int)) = true := by simp; omega
      have hjl : (j : Int) + 1 < (l.length : Int) + 1 := by omega
      have hor : IntKind.u64.wrap (IntKind.u64.wrap ((beN (l.take j) : Nat) * 256) + IntKind.u64.wrap ((bs (c :: l))[j + 1]'(by rw [hz]; omega)).toNat) = (beN (l.take (j + 1)) : Nat) := by
        have hb1 := beN_lt (l.take j)
        have hb2 : 256 ^ (l.take j).length ≤ 256 ^ 7 := Nat.pow_le_pow_right (by decide) (by simp; omega)
        have hjl' : j < l.length := by omega
        have hx : ((bs (c :: l))[j + 1]'(by rw [hz]; omega)) = l[j] := by simp [bs, ByteArray.getElem_eq_getElem_data]
        have hx2 := UInt8.toNat_lt l[j]
        rw [hx, List.take_succ_eq_append_getElem hjl', beN_snoc, IntKind.wrap_u64, IntKind.wrap_u64, IntKind.wrap_u64]
        omega
      go_wp2_with fail
      go_roundw
      case rel => exact ⟨trivial, j + 1, by omega, by go_num, rfl⟩
      case measure => simp [intOf]; omega
    · obtain rfl : j = k := by omega
      have hle : decide ((j : Int) + 1 ≤ (j : Int)) = false := decide_eq_false (by omega)
      have hw1 : IntKind.i64.wrap (1 + (j : Int)) = 1 + (j : Int) := by rw [IntKind.wrap_i64]; omega
      have htl : (l.take j).length = j := by simp; omega
      have h0 : l.take j ≠ [] := fun e => by rw [e] at htl; simp at htl; omega
      have hx1 : (bs (c :: l)).extract 0 (1 + j) = bs (c :: l.take j) := by rw [bs_extract, Nat.add_comm]; simp
      have hx2 : (bs (c :: l)).extract (1 + j) (l.length + 1) = bs (l.drop j) := by rw [bs_extract, Nat.add_comm 1 j]; simp only [List.drop_succ_cons]; rw [List.take_of_length_le (by simp)]
      have hj1 : (0 : Int) ≤ 1 + (j : Int) := by omega
      have hj2 : 1 + (j : Int) ≤ (l.length : Int) + 1 := by omega
      have htn : (1 + (j : Int)).toNat = 1 + j := by omega
      have hb8 := pow8 _ (show (l.take j).length ≤ 8 by omega)
      have hbl := beN_lt (l.take j)
      have HN := Lib.hid (fun w => rnum_any (beN (l.take j)) (by omega) w)
      have HO := Lib.hid (fun hh => numB_own (l.take j) h0 (by omega) hh)
      have HB := Lib.hid (fun hh => numB_not (l.take j) c h0 (by omega) hh)
      have HC := Lib.hid (show UInt8.ofNat (247 + (l.take j).length) = c by rw [htl]; apply UInt8.toNat_inj.1; rw [UInt8.toNat_ofNat']; omega)
      obtain ⟨n, hn⟩ : ∃ n, beN (l.take j) = n := ⟨_, rfl⟩
      rw [hn] at HX HN HO HB hbl ⊢
      clear hn hs hlt hq hq' hb8 hbl htl h0
      go_wp2_with fail
      have kA : Blk ((w.alloc (.cells #[.string (bs (c :: l)), .int .i64 0] 58)).alloc (.cells #[.string ⟨#[]⟩, .int .i64 0] 58)) w.heap.size (.cells #[.string (bs (c :: l)), .int .i64 0] 58) := Blk.alloc (Blk.new _ _) _
      have kB : Blk ((w.alloc (.cells #[.string (bs (c :: l)), .int .i64 0] 58)).alloc (.cells #[.string ⟨#[]⟩, .int .i64 0] 58)) (w.heap.size + 1) (.cells #[.string ⟨#[]⟩, .int .i64 0] 58) := Blk.newAt _ (by simp)
      have bW : Below w.heap.size w ((w.alloc (.cells #[.string (bs (c :: l)), .int .i64 0] 58)).alloc (.cells #[.string ⟨#[]⟩, .int .i64 0] 58)) := below2 w _ _
      generalize ((w.alloc (.cells #[.string (bs (c :: l)), .int .i64 0] 58)).alloc (.cells #[.string ⟨#[]⟩, .int .i64 0] 58)) = W at *
      have g0 : ∀ w', Below W.heap.size W w' → w'.cell? ⟨w.heap.size, 0, none⟩ = some (.string (bs (c :: l))) := fun w' hb => Blk.held kA w' 0 hb
      obtain ⟨T, hT⟩ : ∃ T, c :: l.take j = T := ⟨_, rfl⟩
      obtain ⟨N, hN⟩ : ∃ N, numB n = N := ⟨_, rfl⟩
      obtain ⟨b, hb⟩ : ∃ b, ((bs N).toList != (bs T).toList) = b := ⟨_, rfl⟩
      have HBV := Lib.hid (show b = (N != T) by rw [← hb, bs_toList, bs_toList])
      rw [hT] at hx1
      rw [hN] at HN
      rw [hT] at HB
      have HT := Lib.hid hT
      have HNN := Lib.hid hN
      clear hT hN
      have hb' : (!((bs N).toList == (bs T).toList)) = b := hb
      refine wp_region_ord (fun w' => Below W.heap.size W w') (0 :: 2 :: 3 :: 4 :: 5 :: 6 :: 1 :: 7 :: []) [1] (by kernel_rfl) (by kernel_rfl) (by intro c d v a w h; cases d <;> exact h) (Below.drew (Below.refl _ _)) ?_
      repeat (first
        | (refine wpOrd_take (v := ?_) rfl rfl ?_ ?_ ?_; rotate_left; rfl; (· intro w' hSw; (try dsimp only at hSw); go_simp <;> with_reducible rfl); simp only [Act.put, List.setIfInBounds_toArray, List.set_cons_zero, List.set_cons_succ])
        | (refine wpOrd_skip rfl rfl ?_ ?_; rfl; simp only [Act.put, List.setIfInBounds_toArray, List.set_cons_zero, List.set_cons_succ]))
      refine wpOrd_eff rfl rfl (fun K hK => ?_)
      go_wp2_with fail
      refine (HN.out _).mono ?_
      rintro e w1 ⟨rfl, b1⟩
      go_wp2_with fail
      have b1' : Below W.heap.size W w1 := undrew b1
      refine hK.out _ _ b1' ?_
      clear hK K
      repeat (first
        | (refine wpOrd_take (v := ?_) rfl rfl ?_ ?_ ?_; rotate_left; rfl; (· intro w' hSw; (try dsimp only at hSw); go_simp <;> with_reducible rfl); simp only [Act.put, List.setIfInBounds_toArray, List.set_cons_zero, List.set_cons_succ])
        | (refine wpOrd_skip rfl rfl ?_ ?_; rfl; simp only [Act.put, List.setIfInBounds_toArray, List.set_cons_zero, List.set_cons_succ]))
      refine wpOrd_nil ?_
      have kA1 := Blk.later kA b1'
      have kB1 := Blk.later kB b1'
      have hlt := kB1.lt
      have bw1 : Below w.heap.size w w1 := bW.trans (b1'.mono bW.size)
      clear kA kB bW b1 b1' g0
      have cA : w1.cell? ⟨w.heap.size, 0, none⟩ = some (.string (bs (c :: l))) := kA1.cell 0
      have c0 : w1.cell? ⟨w.heap.size + 1, 0, none⟩ = some (.string ⟨#[]⟩) := kB1.cell 0
      have c1 : w1.cell? ⟨w.heap.size + 1, 1, none⟩ = some (.int .i64 0) := kB1.cell 1
      have f0 := kB1.frozen 0
      have f1 := kB1.frozen 1
      cases b
      · have hNT : N = T := by
          have := HBV.out
          rcases (inferInstance : Decidable (N = T)) with h | h
          · rw [bne_iff_ne.2 h] at this; cases this
          · exact h
        have HX2 := Lib.hid (show x = (n, ⟨l.drop j, 0⟩) by
          rw [HX.out, if_neg]
          intro hh
          exact HB.out hh (HNN.out.trans hNT))
        clear HX HB HO HBV hb hb' hNT
        go_wp2_with fail
        go_region
        all_goals go_wp2
        all_goals refine bodyPost_ret (v := .tuple #[.int .u64 n, rv ⟨l.drop j, 0⟩]) (by simp [results, Try.results26, go_sem, rv, c0, c1]) rfl ⟨by rw [HX2.out], ?_⟩
        all_goals repeat (first | (with_reducible refine Below.drew ?_) | (with_reducible refine Below.setCell ?_ (by dsimp only; omega) _))
        all_goals exact bw1
      · have hNT : N ≠ T := by
          have := HBV.out
          intro h; rw [h] at this; simp at this
        have HX2 := Lib.hid (show x = (0, ⟨[], 4⟩) by
          rw [HX.out, if_pos]
          rcases Classical.em ((l.take j).headD 0 = 0 ∨ n < 248) with h | h
          · exact h
          · exact absurd (by rw [← HNN.out, ← HT.out, HO.out h, HC.out]) hNT)
        clear HX HB HO HBV hb hb' hNT
        go_wp2_with fail
        refine (none_any 4 _).mono ?_
        rintro e w2 ⟨rfl, b2⟩
        have b2' : Below w1.heap.size w1 w2 := b2
        have kB2 := Blk.later kB1 b2'
        have hlt2 := kB2.lt
        have bw2 : Below w.heap.size w w2 := bw1.trans (b2'.mono bw1.size)
        clear c0 c1 f0 f1 cA kA1 kB1 hlt b2 b2'
        have c0 : w2.cell? ⟨w.heap.size + 1, 0, none⟩ = some (.string ⟨#[]⟩) := kB2.cell 0
        have c1 : w2.cell? ⟨w.heap.size + 1, 1, none⟩ = some (.int .i64 0) := kB2.cell 1
        have f0 := kB2.frozen 0
        have f1 := kB2.frozen 1
        unfold rv
        go_wp2
        refine bodyPost_ret (v := .tuple #[.int .u64 0, rv ⟨[], 4⟩]) (by simp [results, Try.results26, go_sem, rv, bs, c0, c1]) rfl ⟨by rw [HX2.out]; rfl, ?_⟩
        repeat (first | (with_reducible refine Below.setCell ?_ (by dsimp only; omega) _))
        exact bw2
/-- The document's Num. -/
theorem dnum_any (s : R) (hl : s.rest.length ≤ 1000000000) (w : World) :
    Calls Try.prog 26 #[rv s] w fun r w' => r = .returned (.tuple #[.int .u64 (numR s).1, rv (numR s).2]) ∧ Below w.heap.size w w' := by
  obtain ⟨l, e⟩ := s
  by_cases he : e = 0
  · subst he
    cases l with
    | nil => rw [num_none]; exact dnum_none w
    | cons c l =>
      simp only [List.length_cons] at hl
      by_cases h : c.toNat < 248
      · rw [num_small c l h]; exact dnum_small c l h (by omega) w
      · by_cases hl2 : l.length < c.toNat - 247
        · rw [num_short c l h hl2]; exact dnum_short c l h hl2 w
        · refine dnum_great c l (c.toNat - 247) h (by omega) (by omega) (by omega) _ ?_ w
          by_cases hf : (l.take (c.toNat - 247)).headD 0 = 0 ∨ beN (l.take (c.toNat - 247)) < 248
          · rw [num_form c l h hl2 hf, if_pos hf]
          · rw [num_great c l h hl2 hf, if_neg hf]
  · exact dnum_err _ w he
end Wire
end Go.Proofs.Ytcmcdpoceeipbaa
