/-
  The package frame's walks through frames (two ranges over functions, one in the other): which list they tell.
-/
import Derived.Test.YtcmcdpoceeipbaaFrameTake
import Derived.Test.YtcmcdpoceeipbaaSeq
namespace Go.Proofs.Ytcmcdpoceeipbaa
open Go.RowKit Go.Shelf
attribute [local go_sem] Oper.semAt_some
namespace Fr
open Wire Crc
def yv (y : Y) : Array Value := #[.agg #[.int .i64 (y.p : Int), .int .i64 (y.q : Int), .string (bs y.x)], .int .i64 (y.e : Int)]
theorem frTake_le (s : List UInt8) : (frTake s).1.length ≤ s.length ∧ (frTake s).2.1 ≤ s.length := by
  by_cases h : (frTake s).2.2 = 0
  · have hg := good s h
    have h1 := congrArg List.length hg.1
    rw [List.length_append, List.length_drop] at h1
    have h2 := frame_len (frTake s).1
    have h3 := frame_pos (frTake s).1
    omega
  · have hg := take_err s h
    rw [hg.1, hg.2.1]; simp
set_option maxRecDepth 100000 in
set_option maxHeartbeats 1000000 in
theorem frames_seq (n : Nat) (hn : 2 ≤ n) (Bn : Nat) (s : List UInt8) (hs : s.length ≤ 1000000) (w0 : World) (hB : Blk w0 Bn (.cells #[.string (bs s)] 9)) :
    Seq Fence.wide n Try.prog 31 #[.pointer (some ⟨Bn, 0, none⟩)] yv (fun b => b = Bn) (frY s 0) w0 := by
  intro l J Jx W hsz hdat hJ hJx hY h0
  have kW : Blk W Bn (.cells #[.string (bs s)] 9) := (hdat Bn rfl).trans hB
  have zs := bs_size s
  have hBZ : Bn < W.heap.size := kW.lt
  have hn1 : 1 ≤ n := by omega
  refine callsIn_of_wp Try.func31 rfl trivial ?_ rfl
  simp only [Try.ntmps31, List.size_toArray, List.length_cons, List.length_nil, Nat.reduceAdd, Nat.reduceSub, Array.replicate_succ, Array.replicate_zero, List.push_toArray, List.append_toArray, List.nil_append, List.cons_append]
  gi_wp2
  gi_loopw [3] (fun s3 wr => ∃ (pre : List Y) (p : Nat) (fp : Nat → Prop), s3 = .int .i64 p ∧ p ≤ s.length ∧ frY s 0 = pre ++ frY (s.drop p) p ∧ J pre fp wr ∧ (∀ b, fp b → W.heap.size ≤ b ∧ b < wr.heap.size) ∧ W.heap.size ≤ wr.heap.size ∧ Blk wr Bn (.cells #[.string (bs s)] 9)) (fun s3 _ => s.length - (intOf s3).toNat)
  case atStart => exact ⟨[], 0, fun _ => False, rfl, Nat.zero_le _, rfl, h0, fun b hb => hb.elim, Nat.le_refl _, kW⟩
  case round =>
    obtain ⟨pre, p, fp, rfl, hp, hL, hj, hfp, hzr, kr⟩ := hrel
    have cr := kr.cell 0
    by_cases hlt : p < s.length
    · have hd : decide ((p : Int) < (s.length : Int)) = true := decide_eq_true (by omega)
      have hd' : decide (p < s.length) = true := decide_eq_true hlt
      have hcut := cut_lo s p (by omega)
      have hne : s.drop p ≠ [] := fun e => by have := congrArg List.length e; rw [List.length_drop] at this; simp at this; omega
      have hdl : (s.drop p).length ≤ 1000000 := by rw [List.length_drop]; omega
      have HT := Lib.hid (fun w => take_any (s.drop p) (by omega) w)
      have hle := frTake_le (s.drop p)
      have HL := Lib.hid hL
      have HGO := Lib.hid (fun h => frY_go (s.drop p) p h hne)
      have HST := Lib.hid (fun h => frY_stop (s.drop p) p h hne)
      have HGD := Lib.hid (fun h => good (s.drop p) h)
      have HER := Lib.hid (fun h => take_err (s.drop p) h)
      obtain ⟨x, m, e, hx⟩ : ∃ x m e, frTake (s.drop p) = (x, m, e) := ⟨_, _, _, rfl⟩
      rw [hx] at HT hle HGO HST HGD HER
      dsimp only at HT hle HGO HST HGD HER
      unfold tkv at HT
      dsimp only at HT
      rw [List.length_drop] at hle
      obtain ⟨t, ht⟩ : ∃ t, s.drop p = t := ⟨_, rfl⟩
      rw [ht] at hcut HT HL HGO HST HGD
      have HTS := Lib.hid ht
      clear ht
      clear hL hx hne hdl
      gi_wp2_with fail
      refine ⟨trivial, (callsIn_wide.2 (HT.out wr)).mono ?_⟩
      rintro ee w2 ⟨rfl, b2⟩
      have hj2 := hJ _ _ _ _ hj (Sits.of_below b2)
      have k2 := kr.later b2
      have hfp2 : ∀ b, fp b → W.heap.size ≤ b ∧ b < w2.heap.size := fun b hb => ⟨(hfp b hb).1, Nat.lt_of_lt_of_le (hfp b hb).2 b2.size⟩
      have hz2 := Nat.le_trans hzr b2.size
      have hcp : ((p + m : Nat) : Int) = (p : Int) + (m : Int) := by omega
      have hwp : IntKind.i64.wrap ((p : Int) + (m : Int)) = (p : Int) + (m : Int) := by rw [IntKind.wrap_i64]; omega
      clear cr kr hj hfp hzr b2
      by_cases he : e = 0
      · subst he
        have hg := HGO.out rfl
        have hLy : frY s 0 = pre ++ ⟨p, p + m, x, 0⟩ :: frY (t.drop m) (p + m) := by rw [HL.out, hg]
        obtain ⟨fn, tmps, assign, body, hy, hR⟩ := hY pre ⟨p, p + m, x, 0⟩ _ fp w2 hLy hj2 hfp2 hz2
        unfold yv at hy
        dsimp only at hy
        rw [hcp] at hy
        have c0 : ((0 : Nat) : Int) = 0 := rfl
        rw [c0] at hy
        have HLy := Lib.hid hLy
        have hmp : 0 < m := by have h1 := (HGD.out rfl).2.1; have h2 := frame_pos x; omega
        have HDR := Lib.hid (show t.drop m = s.drop (p + m) from by rw [← HTS.out, List.drop_drop])
        clear hg hLy HGO HST HGD HER HL
        gi_wp2
        refine hR.mono ?_
        rintro e3 W3 ⟨fp3, hM, (⟨rfl, hJ3⟩ | ⟨rfl, hJ3⟩)⟩
        · have k3 : Blk W3 Bn (.cells #[.string (bs s)] 9) := (hM.block Bn k2.lt (.inl rfl) (fun h => by have := (hfp2 Bn h).1; omega)).trans k2
          gi_wp2
          go_roundw
          case rel => exact ⟨pre ++ [⟨p, p + m, x, 0⟩], p + m, fp3, by rw [hcp], by omega, by rw [HLy.out, ← HDR.out]; simp, hJ3, fun b hb => ⟨by
              rcases (hM.own b hb).2 with h | h
              · exact (hfp2 b h).1
              · omega, (hM.own b hb).1⟩, Nat.le_trans hz2 hM.size, k3⟩
          case measure => simp [intOf]; omega
        · gi_wp2
          refine bodyPost_ret (results_none rfl _ _ _) rfl ?_
          exact ⟨⟨_, rfl⟩, fp3, fun b hb => ⟨by
              rcases (hM.own b hb).2 with h | h
              · exact (hfp2 b h).1
              · omega, (hM.own b hb).1⟩, .inr ⟨_, ⟨frY (t.drop m) (p + m), by rw [HLy.out]; simp⟩, hJ3⟩⟩
      · have hg := HST.out he
        obtain ⟨hx0, hm0, he3⟩ := HER.out he
        subst hx0
        subst hm0
        have hLy : frY s 0 = pre ++ ⟨p, p, [], e⟩ :: [] := by rw [HL.out, hg]
        obtain ⟨fn, tmps, assign, body, hy, hR⟩ := hY pre ⟨p, p, [], e⟩ _ fp w2 hLy hj2 hfp2 hz2
        unfold yv at hy
        dsimp only at hy
        have HLy := Lib.hid hLy
        have t1 : ((e : Int) != 0) = true := by simp; omega
        have c0 : ((0 : Nat) : Int) = 0 := rfl
        rw [c0, Int.add_zero] at hwp
        clear hg hLy HGO HST HGD HER HL hcp
        gi_wp2
        refine hR.mono ?_
        rintro e4 W3 ⟨fp3, hM, (⟨rfl, hJ3⟩ | ⟨rfl, hJ3⟩)⟩
        · gi_wp2
          refine bodyPost_ret (results_none rfl _ _ _) rfl ?_
          exact ⟨⟨_, rfl⟩, fp3, fun b hb => ⟨by
              rcases (hM.own b hb).2 with h | h
              · exact (hfp2 b h).1
              · omega, (hM.own b hb).1⟩, .inl (by rw [HLy.out]; exact hJ3)⟩
        · gi_wp2
          refine bodyPost_ret (results_none rfl _ _ _) rfl ?_
          exact ⟨⟨_, rfl⟩, fp3, fun b hb => ⟨by
              rcases (hM.own b hb).2 with h | h
              · exact (hfp2 b h).1
              · omega, (hM.own b hb).1⟩, .inr ⟨_, ⟨[], by rw [HLy.out]; simp⟩, hJ3⟩⟩
    · have hd : decide ((p : Int) < (s.length : Int)) = false := decide_eq_false (by omega)
      have hd' : decide (p < s.length) = false := decide_eq_false hlt
      have hE : frY s 0 = pre := by
        have : s.drop p = [] := List.drop_of_length_le (by omega)
        rw [hL, this, frY_nil, List.append_nil]
      clear hL
      gi_wp2
      go_end0
      exact ⟨⟨_, rfl⟩, fp, hfp, .inl (by rw [hE]; exact hj)⟩
end Fr
end Go.Proofs.Ytcmcdpoceeipbaa
