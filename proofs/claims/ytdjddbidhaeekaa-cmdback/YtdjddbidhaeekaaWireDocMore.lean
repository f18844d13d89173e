/-
  Seat 01: the document's own Below and Str, walked.
-/
import Derived.Test.YtdjddbidhaeekaaWireDocNum3
namespace Go.Proofs.Ytdjddbidhaeekaa
open Go.RowKit
namespace Wire
theorem numR_zero (s : R) (h : (numR s).2.e ≠ 0) : (numR s).1 = 0 := by
  by_cases he : s.e = 0
  · rcases num_cases s he with ⟨e, h1, _⟩ | ⟨n, r, _, _, h3⟩
    · rw [h1]
    · rw [h3] at h; exact absurd rfl h
  · rw [num_err s he]
set_option maxRecDepth 100000 in
set_option maxHeartbeats 2000000 in
theorem dbelow_any (s : R) (n : Nat) (hl : s.rest.length ≤ 1000000000) (w : World) :
    Calls Try.prog 36 #[rv s, .int .u64 n] w fun r w' => r = .returned (.tuple #[.int .u64 (belowR s n).1, rv (belowR s n).2]) ∧ Below w.heap.size w w' := by
  have HN := Lib.hid (fun w => dnum_any s hl w)
  have hz0 := numR_zero s
  have HX := Lib.hid (show belowR s n = if (numR s).2.e ≠ 0 then (0, (numR s).2) else if (numR s).1 < n then numR s else (0, ⟨[], 4⟩) from rfl)
  obtain ⟨x, s1, hns⟩ : ∃ x s1, numR s = (x, s1) := ⟨_, _, rfl⟩
  rw [hns] at HN HX hz0
  simp only [] at hz0
  clear hns
  by_cases he : s1.e = 0
  · have ht : ((s1.e : Int) == 0) = true := by simp [he]
    by_cases hn : x < n
    · have hd : decide ((n : Int) ≤ (x : Int)) = false := decide_eq_false (by omega)
      have hd' : decide (n ≤ x) = false := decide_eq_false (by omega)
      have HX2 := Lib.hid (show belowR s n = (x, s1) by rw [HX.out, if_neg (by simp [he]), if_pos hn])
      clear hz0 HX he
      unfold rv
      go_enter Try.func36, Try.ntmps36
      go_wp2_with fail
      refine (HN.out _).mono ?_
      rintro e w1 ⟨rfl, b1⟩
      have kB := (Blk.later (Blk.newAt (w := w.alloc (.cells #[.string (bs s.rest), .int .i64 s.e] 44)) (b := w.heap.size + 1) (.cells #[.string ⟨#[]⟩, .int .i64 0] 44) (by simp)) b1).alloc (.cells #[.string (bs s1.rest), .int .i64 s1.e] 44)
      have kC := Blk.new w1 (.cells #[.string (bs s1.rest), .int .i64 s1.e] 44)
      have hlt : w.heap.size + 1 < w1.heap.size := by have := b1.size; simp at this; omega
      have bw1 : Below w.heap.size w (w1.alloc (.cells #[.string (bs s1.rest), .int .i64 s1.e] 44)) := ((below2 w _ _).trans (b1.mono (by simp; omega))).alloc (by omega) _
      clear b1
      unfold rv
      have d0 := kC.cell 0
      have d1 := kC.cell 1
      go_wp2_with fail
      generalize w1.alloc (.cells #[.string (bs s1.rest), .int .i64 s1.e] 44) = W at *
      have hltW := kB.lt
      have c0 : W.cell? ⟨w.heap.size + 1, 0, none⟩ = some (.string ⟨#[]⟩) := kB.cell 0
      have c1 : W.cell? ⟨w.heap.size + 1, 1, none⟩ = some (.int .i64 0) := kB.cell 1
      have f0 := kB.frozen 0
      have f1 := kB.frozen 1
      clear kB kC
      go_region
      all_goals go_wp2
      all_goals refine bodyPost_ret (v := .tuple #[.int .u64 x, rv s1]) (by simp [results, Try.results36, go_sem, rv, c0, c1]) rfl ⟨by rw [HX2.out]; rfl, ?_⟩
      all_goals repeat (first | (with_reducible refine Below.drew ?_) | (with_reducible refine Below.setCell ?_ (by dsimp only; omega) _))
      all_goals exact bw1
    · have hd : decide ((n : Int) ≤ (x : Int)) = true := decide_eq_true (by omega)
      have hd' : decide (n ≤ x) = true := decide_eq_true (by omega)
      have HX2 := Lib.hid (show belowR s n = (0, ⟨[], 4⟩) by rw [HX.out, if_neg (by simp [he]), if_neg hn])
      clear hz0 HX he
      unfold rv
      go_enter Try.func36, Try.ntmps36
      go_wp2_with fail
      refine (HN.out _).mono ?_
      rintro e w1 ⟨rfl, b1⟩
      have kB := (Blk.later (Blk.newAt (w := w.alloc (.cells #[.string (bs s.rest), .int .i64 s.e] 44)) (b := w.heap.size + 1) (.cells #[.string ⟨#[]⟩, .int .i64 0] 44) (by simp)) b1).alloc (.cells #[.string (bs s1.rest), .int .i64 s1.e] 44)
      have kC := Blk.new w1 (.cells #[.string (bs s1.rest), .int .i64 s1.e] 44)
      have hlt : w.heap.size + 1 < w1.heap.size := by have := b1.size; simp at this; omega
      have bw1 : Below w.heap.size w (w1.alloc (.cells #[.string (bs s1.rest), .int .i64 s1.e] 44)) := ((below2 w _ _).trans (b1.mono (by simp; omega))).alloc (by omega) _
      clear b1
      unfold rv
      have d0 := kC.cell 0
      have d1 := kC.cell 1
      go_wp2_with fail
      refine (none_any 4 _).mono ?_
      rintro e w2 ⟨rfl, b2⟩
      have kB2 := Blk.later kB b2
      have bw2 : Below w.heap.size w w2 := bw1.trans (b2.mono bw1.size)
      clear d0 d1 kB kC b2
      have hlt2 := kB2.lt
      have c0 : w2.cell? ⟨w.heap.size + 1, 0, none⟩ = some (.string ⟨#[]⟩) := kB2.cell 0
      have c1 : w2.cell? ⟨w.heap.size + 1, 1, none⟩ = some (.int .i64 0) := kB2.cell 1
      have f0 := kB2.frozen 0
      have f1 := kB2.frozen 1
      unfold rv
      go_wp2
      refine bodyPost_ret (v := .tuple #[.int .u64 0, rv ⟨[], 4⟩]) (by simp [results, Try.results36, go_sem, rv, bs, c0, c1]) rfl ⟨by rw [HX2.out]; rfl, ?_⟩
      repeat (first | (with_reducible refine Below.setCell ?_ (by dsimp only; omega) _))
      exact bw2
  · have ht : ((s1.e : Int) == 0) = false := by simp; omega
    obtain rfl : x = 0 := hz0 he
    have HX2 := Lib.hid (show belowR s n = (0, s1) by rw [HX.out, if_pos he])
    clear hz0 HX he
    unfold rv
    go_enter Try.func36, Try.ntmps36
    go_wp2_with fail
    refine (HN.out _).mono ?_
    rintro e w1 ⟨rfl, b1⟩
    have kB := (Blk.later (Blk.newAt (w := w.alloc (.cells #[.string (bs s.rest), .int .i64 s.e] 44)) (b := w.heap.size + 1) (.cells #[.string ⟨#[]⟩, .int .i64 0] 44) (by simp)) b1).alloc (.cells #[.string (bs s1.rest), .int .i64 s1.e] 44)
    have kC := Blk.new w1 (.cells #[.string (bs s1.rest), .int .i64 s1.e] 44)
    have hlt : w.heap.size + 1 < w1.heap.size := by have := b1.size; simp at this; omega
    have bw1 : Below w.heap.size w (w1.alloc (.cells #[.string (bs s1.rest), .int .i64 s1.e] 44)) := ((below2 w _ _).trans (b1.mono (by simp; omega))).alloc (by omega) _
    clear b1
    unfold rv
    have d0 := kC.cell 0
    have d1 := kC.cell 1
    go_wp2_with fail
    generalize w1.alloc (.cells #[.string (bs s1.rest), .int .i64 s1.e] 44) = W at *
    have hltW := kB.lt
    have c0 : W.cell? ⟨w.heap.size + 1, 0, none⟩ = some (.string ⟨#[]⟩) := kB.cell 0
    have c1 : W.cell? ⟨w.heap.size + 1, 1, none⟩ = some (.int .i64 0) := kB.cell 1
    have f0 := kB.frozen 0
    have f1 := kB.frozen 1
    clear kB kC
    go_region
    all_goals go_wp2
    all_goals refine bodyPost_ret (v := .tuple #[.int .u64 0, rv s1]) (by simp [results, Try.results36, go_sem, rv, c0, c1]) rfl ⟨by rw [HX2.out]; rfl, ?_⟩
    all_goals repeat (first | (with_reducible refine Below.drew ?_) | (with_reducible refine Below.setCell ?_ (by dsimp only; omega) _))
    all_goals exact bw1
set_option maxRecDepth 100000 in
set_option maxHeartbeats 2000000 in
theorem dstr_any (s : R) (m : Int) (hm : m < 9223372036854775808) (hl : s.rest.length ≤ 1000000000) (w : World) :
    Calls Try.prog 37 #[rv s, .int .i64 m] w fun r w' => r = .returned (.tuple #[.string (bs (strR s m.toNat).1), rv (strR s m.toNat).2]) ∧ Below w.heap.size w w' := by
  have HN := Lib.hid (fun w => dnum_any s hl w)
  have hz0 := numR_zero s
  have hln := numR_len s
  obtain ⟨k, hk⟩ : ∃ k, m.toNat = k := ⟨_, rfl⟩
  rw [hk]
  have HX := Lib.hid (show strR s k = takeR (belR (numR s).2 (numR s).1 k).2 (belR (numR s).2 (numR s).1 k).1 from rfl)
  obtain ⟨x, s1, hns⟩ : ∃ x s1, numR s = (x, s1) := ⟨_, _, rfl⟩
  rw [hns] at HN HX hz0 hln
  simp only [] at hz0 hln HX
  clear hns
  have hz1 := bs_size s1.rest
  have hwl : IntKind.u64.wrap (s1.rest.length : Int) = s1.rest.length := by rw [IntKind.wrap_u64]; omega
  by_cases he : s1.e = 0
  · have ht : ((s1.e : Int) == 0) = true := by simp [he]
    have ht' : ((s1.e : Int) != 0) = false := by simp [he]
    by_cases hn : k < x
    · have HX2 := Lib.hid (show strR s k = ([], ⟨[], 4⟩) by rw [HX.out]; unfold belR; rw [if_neg (by simp [he]), if_pos hn]; rfl)
      clear HX hz0
      by_cases hneg : m < 0
      · have g1 : decide (m < 0) = true := decide_eq_true hneg
        obtain rfl : k = 0 := by omega
        have hwk : IntKind.u64.wrap 0 = 0 := by kernel_rfl
        have hd : decide ((0 : Int) < (x : Int)) = true := decide_eq_true (by omega)
        have hd' : decide (0 < x) = true := decide_eq_true (by omega)
        clear he hk
        unfold rv
        go_enter Try.func37, Try.ntmps37
        go_wp2_with fail
        refine (HN.out _).mono ?_
        rintro e w1 ⟨rfl, b1⟩
        have kB := (Blk.later (Blk.newAt (w := w.alloc (.cells #[.string (bs s.rest), .int .i64 s.e] 44)) (b := w.heap.size + 1) (.cells #[.string ⟨#[]⟩, .int .i64 0] 44) (by simp)) b1).alloc (.cells #[.string (bs s1.rest), .int .i64 s1.e] 44)
        have kC := Blk.new w1 (.cells #[.string (bs s1.rest), .int .i64 s1.e] 44)
        have hlt : w.heap.size + 1 < w1.heap.size := by have := b1.size; simp at this; omega
        have bw1 : Below w.heap.size w (w1.alloc (.cells #[.string (bs s1.rest), .int .i64 s1.e] 44)) := ((below2 w _ _).trans (b1.mono (by simp; omega))).alloc (by omega) _
        clear b1
        unfold rv
        have d0 := kC.cell 0
        have d1 := kC.cell 1
        go_wp2_with fail
        refine (none_any 4 _).mono ?_
        rintro e w2 ⟨rfl, b2⟩
        have kB2 := Blk.later kB b2
        have bw2 : Below w.heap.size w w2 := bw1.trans (b2.mono bw1.size)
        clear d0 d1 kB kC b2
        have hlt2 := kB2.lt
        have c0 : w2.cell? ⟨w.heap.size + 1, 0, none⟩ = some (.string ⟨#[]⟩) := kB2.cell 0
        have c1 : w2.cell? ⟨w.heap.size + 1, 1, none⟩ = some (.int .i64 0) := kB2.cell 1
        have f0 := kB2.frozen 0
        have f1 := kB2.frozen 1
        unfold rv
        go_wp2
        refine bodyPost_ret (v := .tuple #[.string (bs []), rv ⟨[], 4⟩]) (by simp [results, Try.results37, go_sem, rv, bs, c0, c1]) rfl ⟨by rw [HX2.out]; rfl, ?_⟩
        repeat (first | (with_reducible refine Below.setCell ?_ (by dsimp only; omega) _))
        exact bw2
      · have g1 : decide (m < 0) = false := decide_eq_false hneg
        obtain rfl : m = (k : Int) := by omega
        have hwk : IntKind.u64.wrap (k : Int) = k := by rw [IntKind.wrap_u64]; omega
        have hd : decide ((k : Int) < (x : Int)) = true := decide_eq_true (by omega)
        have hd' : decide (k < x) = true := decide_eq_true (by omega)
        clear he hk
        unfold rv
        go_enter Try.func37, Try.ntmps37
        go_wp2_with fail
        refine (HN.out _).mono ?_
        rintro e w1 ⟨rfl, b1⟩
        have kB := (Blk.later (Blk.newAt (w := w.alloc (.cells #[.string (bs s.rest), .int .i64 s.e] 44)) (b := w.heap.size + 1) (.cells #[.string ⟨#[]⟩, .int .i64 0] 44) (by simp)) b1).alloc (.cells #[.string (bs s1.rest), .int .i64 s1.e] 44)
        have kC := Blk.new w1 (.cells #[.string (bs s1.rest), .int .i64 s1.e] 44)
        have hlt : w.heap.size + 1 < w1.heap.size := by have := b1.size; simp at this; omega
        have bw1 : Below w.heap.size w (w1.alloc (.cells #[.string (bs s1.rest), .int .i64 s1.e] 44)) := ((below2 w _ _).trans (b1.mono (by simp; omega))).alloc (by omega) _
        clear b1
        unfold rv
        have d0 := kC.cell 0
        have d1 := kC.cell 1
        go_wp2_with fail
        refine (none_any 4 _).mono ?_
        rintro e w2 ⟨rfl, b2⟩
        have kB2 := Blk.later kB b2
        have bw2 : Below w.heap.size w w2 := bw1.trans (b2.mono bw1.size)
        clear d0 d1 kB kC b2
        have hlt2 := kB2.lt
        have c0 : w2.cell? ⟨w.heap.size + 1, 0, none⟩ = some (.string ⟨#[]⟩) := kB2.cell 0
        have c1 : w2.cell? ⟨w.heap.size + 1, 1, none⟩ = some (.int .i64 0) := kB2.cell 1
        have f0 := kB2.frozen 0
        have f1 := kB2.frozen 1
        unfold rv
        go_wp2
        refine bodyPost_ret (v := .tuple #[.string (bs []), rv ⟨[], 4⟩]) (by simp [results, Try.results37, go_sem, rv, bs, c0, c1]) rfl ⟨by rw [HX2.out]; rfl, ?_⟩
        repeat (first | (with_reducible refine Below.setCell ?_ (by dsimp only; omega) _))
        exact bw2
    · by_cases hs : s1.rest.length < x
      · have HX2 := Lib.hid (show strR s k = ([], ⟨[], 3⟩) by rw [HX.out]; unfold belR; rw [if_neg (by simp [he]), if_neg hn]; unfold takeR; rw [if_neg (by simp [he]), if_pos hs])
        clear HX hz0
        have hs1 : decide ((s1.rest.length : Int) < (x : Int)) = true := decide_eq_true (by omega)
        have hs2 : decide (s1.rest.length < x) = true := decide_eq_true (by omega)
        have g1 : decide (m < 0) = false := decide_eq_false (by omega)
        obtain rfl : m = (k : Int) := by omega
        have hwk : IntKind.u64.wrap (k : Int) = k := by rw [IntKind.wrap_u64]; omega
        have hd : decide ((k : Int) < (x : Int)) = false := decide_eq_false (by omega)
        have hd' : decide (k < x) = false := decide_eq_false (by omega)
        clear he hk
        unfold rv
        go_enter Try.func37, Try.ntmps37
        go_wp2_with fail
        refine (HN.out _).mono ?_
        rintro e w1 ⟨rfl, b1⟩
        have kB := (Blk.later (Blk.newAt (w := w.alloc (.cells #[.string (bs s.rest), .int .i64 s.e] 44)) (b := w.heap.size + 1) (.cells #[.string ⟨#[]⟩, .int .i64 0] 44) (by simp)) b1).alloc (.cells #[.string (bs s1.rest), .int .i64 s1.e] 44)
        have kC := Blk.new w1 (.cells #[.string (bs s1.rest), .int .i64 s1.e] 44)
        have hlt : w.heap.size + 1 < w1.heap.size := by have := b1.size; simp at this; omega
        have bw1 : Below w.heap.size w (w1.alloc (.cells #[.string (bs s1.rest), .int .i64 s1.e] 44)) := ((below2 w _ _).trans (b1.mono (by simp; omega))).alloc (by omega) _
        clear b1
        unfold rv
        have d0 := kC.cell 0
        have d1 := kC.cell 1
        go_wp2_with fail
        refine (none_any 3 _).mono ?_
        rintro e w2 ⟨rfl, b2⟩
        have kB2 := Blk.later kB b2
        have bw2 : Below w.heap.size w w2 := bw1.trans (b2.mono bw1.size)
        clear d0 d1 kB kC b2
        have hlt2 := kB2.lt
        have c0 : w2.cell? ⟨w.heap.size + 1, 0, none⟩ = some (.string ⟨#[]⟩) := kB2.cell 0
        have c1 : w2.cell? ⟨w.heap.size + 1, 1, none⟩ = some (.int .i64 0) := kB2.cell 1
        have f0 := kB2.frozen 0
        have f1 := kB2.frozen 1
        unfold rv
        go_wp2
        refine bodyPost_ret (v := .tuple #[.string (bs []), rv ⟨[], 3⟩]) (by simp [results, Try.results37, go_sem, rv, bs, c0, c1]) rfl ⟨by rw [HX2.out]; rfl, ?_⟩
        repeat (first | (with_reducible refine Below.setCell ?_ (by dsimp only; omega) _))
        exact bw2
      · have HX2 := Lib.hid (show strR s k = (s1.rest.take x, ⟨s1.rest.drop x, 0⟩) by rw [HX.out]; unfold belR; rw [if_neg (by simp [he]), if_neg hn]; unfold takeR; rw [if_neg (by simp [he]), if_neg hs])
        clear HX hz0
        have hs1 : decide ((s1.rest.length : Int) < (x : Int)) = false := decide_eq_false (by omega)
        have hs2 : decide (s1.rest.length < x) = false := decide_eq_false (by omega)
        have hs3 : (x : Int) ≤ (s1.rest.length : Int) := by omega
        have hx1 : (bs s1.rest).extract 0 x = bs (s1.rest.take x) := by rw [bs_extract]; simp
        have hx2 : (bs s1.rest).extract x s1.rest.length = bs (s1.rest.drop x) := by rw [bs_extract]; congr 1; apply List.take_of_length_le; simp
        by_cases hneg : m < 0
        · have g1 : decide (m < 0) = true := decide_eq_true hneg
          obtain rfl : k = 0 := by omega
          have hwk : IntKind.u64.wrap 0 = 0 := by kernel_rfl
          have hd : decide ((0 : Int) < (x : Int)) = false := decide_eq_false (by omega)
          have hd' : decide (0 < x) = false := decide_eq_false (by omega)
          clear he hk
          unfold rv
          go_enter Try.func37, Try.ntmps37
          go_wp2_with fail
          refine (HN.out _).mono ?_
          rintro e w1 ⟨rfl, b1⟩
          have kB := (Blk.later (Blk.newAt (w := w.alloc (.cells #[.string (bs s.rest), .int .i64 s.e] 44)) (b := w.heap.size + 1) (.cells #[.string ⟨#[]⟩, .int .i64 0] 44) (by simp)) b1).alloc (.cells #[.string (bs s1.rest), .int .i64 s1.e] 44)
          have kC := Blk.new w1 (.cells #[.string (bs s1.rest), .int .i64 s1.e] 44)
          have hlt : w.heap.size + 1 < w1.heap.size := by have := b1.size; simp at this; omega
          have bw1 : Below w.heap.size w (w1.alloc (.cells #[.string (bs s1.rest), .int .i64 s1.e] 44)) := ((below2 w _ _).trans (b1.mono (by simp; omega))).alloc (by omega) _
          clear b1
          unfold rv
          have d0 := kC.cell 0
          have d1 := kC.cell 1
          go_wp2_with fail
          generalize w1.alloc (.cells #[.string (bs s1.rest), .int .i64 s1.e] 44) = W at *
          have hltW := kB.lt
          have c0 : W.cell? ⟨w.heap.size + 1, 0, none⟩ = some (.string ⟨#[]⟩) := kB.cell 0
          have c1 : W.cell? ⟨w.heap.size + 1, 1, none⟩ = some (.int .i64 0) := kB.cell 1
          have f0 := kB.frozen 0
          have f1 := kB.frozen 1
          clear kB kC
          go_region
          all_goals go_wp2
          all_goals refine bodyPost_ret (v := .tuple #[.string (bs (s1.rest.take x)), rv ⟨s1.rest.drop x, 0⟩]) (by simp [results, Try.results37, go_sem, rv, c0, c1]) rfl ⟨by rw [HX2.out]; rfl, ?_⟩
          all_goals repeat (first | (with_reducible refine Below.drew ?_) | (with_reducible refine Below.setCell ?_ (by dsimp only; omega) _))
          all_goals exact bw1
        · have g1 : decide (m < 0) = false := decide_eq_false hneg
          obtain rfl : m = (k : Int) := by omega
          have hwk : IntKind.u64.wrap (k : Int) = k := by rw [IntKind.wrap_u64]; omega
          have hd : decide ((k : Int) < (x : Int)) = false := decide_eq_false (by omega)
          have hd' : decide (k < x) = false := decide_eq_false (by omega)
          clear he hk
          unfold rv
          go_enter Try.func37, Try.ntmps37
          go_wp2_with fail
          refine (HN.out _).mono ?_
          rintro e w1 ⟨rfl, b1⟩
          have kB := (Blk.later (Blk.newAt (w := w.alloc (.cells #[.string (bs s.rest), .int .i64 s.e] 44)) (b := w.heap.size + 1) (.cells #[.string ⟨#[]⟩, .int .i64 0] 44) (by simp)) b1).alloc (.cells #[.string (bs s1.rest), .int .i64 s1.e] 44)
          have kC := Blk.new w1 (.cells #[.string (bs s1.rest), .int .i64 s1.e] 44)
          have hlt : w.heap.size + 1 < w1.heap.size := by have := b1.size; simp at this; omega
          have bw1 : Below w.heap.size w (w1.alloc (.cells #[.string (bs s1.rest), .int .i64 s1.e] 44)) := ((below2 w _ _).trans (b1.mono (by simp; omega))).alloc (by omega) _
          clear b1
          unfold rv
          have d0 := kC.cell 0
          have d1 := kC.cell 1
          go_wp2_with fail
          generalize w1.alloc (.cells #[.string (bs s1.rest), .int .i64 s1.e] 44) = W at *
          have hltW := kB.lt
          have c0 : W.cell? ⟨w.heap.size + 1, 0, none⟩ = some (.string ⟨#[]⟩) := kB.cell 0
          have c1 : W.cell? ⟨w.heap.size + 1, 1, none⟩ = some (.int .i64 0) := kB.cell 1
          have f0 := kB.frozen 0
          have f1 := kB.frozen 1
          clear kB kC
          go_region
          all_goals go_wp2
          all_goals refine bodyPost_ret (v := .tuple #[.string (bs (s1.rest.take x)), rv ⟨s1.rest.drop x, 0⟩]) (by simp [results, Try.results37, go_sem, rv, c0, c1]) rfl ⟨by rw [HX2.out]; rfl, ?_⟩
          all_goals repeat (first | (with_reducible refine Below.drew ?_) | (with_reducible refine Below.setCell ?_ (by dsimp only; omega) _))
          all_goals exact bw1
  · have ht : ((s1.e : Int) == 0) = false := by simp; omega
    have ht' : ((s1.e : Int) != 0) = true := by simp; omega
    obtain rfl : x = 0 := hz0 he
    have HX2 := Lib.hid (show strR s k = ([], s1) by rw [HX.out]; unfold belR; rw [if_pos he]; unfold takeR; rw [if_pos he])
    clear hz0 HX he
    unfold rv
    go_enter Try.func37, Try.ntmps37
    go_wp2_with fail
    refine (HN.out _).mono ?_
    rintro e w1 ⟨rfl, b1⟩
    have kB := (Blk.later (Blk.newAt (w := w.alloc (.cells #[.string (bs s.rest), .int .i64 s.e] 44)) (b := w.heap.size + 1) (.cells #[.string ⟨#[]⟩, .int .i64 0] 44) (by simp)) b1).alloc (.cells #[.string (bs s1.rest), .int .i64 s1.e] 44)
    have kC := Blk.new w1 (.cells #[.string (bs s1.rest), .int .i64 s1.e] 44)
    have hlt : w.heap.size + 1 < w1.heap.size := by have := b1.size; simp at this; omega
    have bw1 : Below w.heap.size w (w1.alloc (.cells #[.string (bs s1.rest), .int .i64 s1.e] 44)) := ((below2 w _ _).trans (b1.mono (by simp; omega))).alloc (by omega) _
    clear b1
    unfold rv
    have d0 := kC.cell 0
    have d1 := kC.cell 1
    go_wp2_with fail
    generalize w1.alloc (.cells #[.string (bs s1.rest), .int .i64 s1.e] 44) = W at *
    have hltW := kB.lt
    have c0 : W.cell? ⟨w.heap.size + 1, 0, none⟩ = some (.string ⟨#[]⟩) := kB.cell 0
    have c1 : W.cell? ⟨w.heap.size + 1, 1, none⟩ = some (.int .i64 0) := kB.cell 1
    have f0 := kB.frozen 0
    have f1 := kB.frozen 1
    clear kB kC
    go_region
    all_goals go_wp2
    all_goals refine bodyPost_ret (v := .tuple #[.string (bs []), rv s1]) (by simp [results, Try.results37, go_sem, rv, bs, c0, c1]) rfl ⟨by rw [HX2.out]; rfl, ?_⟩
    all_goals repeat (first | (with_reducible refine Below.drew ?_) | (with_reducible refine Below.setCell ?_ (by dsimp only; omega) _))
    all_goals exact bw1
end Wire
end Go.Proofs.Ytdjddbidhaeekaa
