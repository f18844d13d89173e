/-
  The document's ballots, walked: May, Below, Turn, Top.
-/
import Derived.BigRegion
import Derived.Test.YteaegdigkdghpaaBalOrder
namespace Go.Proofs.Yteaegdigkdghpaa
open Go.RowKit Go.WideShapes
namespace Bal
theorem rmay_any (b : B) (w : World) : Calls Try.prog 11 #[bv b] w fun e w' => e = .returned (.bool (mayB b)) ∧ Below w.heap.size w w' := by
  by_cases h1 : b.n = 0
  · have t1 : ((b.n : Int) == 0) = true := beq_iff_eq.2 (by omega)
    have t3 : decide ((0 : Int) < (b.n : Int)) = false := decide_eq_false (by omega)
    have t3n : decide (0 < b.n) = false := decide_eq_false (by omega)
    by_cases h2 : b.r = 0
    · have t2 : ((b.r : Int) == 0) = true := beq_iff_eq.2 (by omega)
      have H := Lib.hid (show mayB b = true by rw [may_iff]; omega)
      clear h1 h2
      go_enter Try.func11, Try.ntmps11
      go_wp2
      go_ret
      exact ⟨by rw [H.out]; rfl, below1 _ _⟩
    · have t2 : ((b.r : Int) == 0) = false := beq_eq_false_iff_ne.2 (by omega)
      have H := Lib.hid (show mayB b = false by rw [may_no]; omega)
      clear h1 h2
      go_enter Try.func11, Try.ntmps11
      go_wp2
      go_ret
      exact ⟨by rw [H.out]; rfl, below1 _ _⟩
  · have t1 : ((b.n : Int) == 0) = false := beq_eq_false_iff_ne.2 (by omega)
    have t3 : decide ((0 : Int) < (b.n : Int)) = true := decide_eq_true (by omega)
    have t3n : decide (0 < b.n) = true := decide_eq_true (by omega)
    by_cases h2 : b.r ≤ 6
    · have t2 : decide ((b.r : Int) ≤ 6) = true := decide_eq_true (by omega)
      have t2n : decide (b.r ≤ 6) = true := decide_eq_true (by omega)
      have H := Lib.hid (show mayB b = true by rw [may_iff]; omega)
      clear h1 h2
      go_enter Try.func11, Try.ntmps11
      go_wp2
      go_ret
      exact ⟨by rw [H.out]; rfl, below1 _ _⟩
    · have t2 : decide ((b.r : Int) ≤ 6) = false := decide_eq_false (by omega)
      have t2n : decide (b.r ≤ 6) = false := decide_eq_false (by omega)
      have H := Lib.hid (show mayB b = false by rw [may_no]; omega)
      clear h1 h2
      go_enter Try.func11, Try.ntmps11
      go_wp2
      go_ret
      exact ⟨by rw [H.out]; rfl, below1 _ _⟩
theorem rbelow_any (a b : B) (w : World) : Calls Try.prog 14 #[bv a, bv b] w fun e w' => e = .returned (.bool (lt a b)) ∧ Below w.heap.size w w' := by
  by_cases h1 : a.n < b.n
  · have t1 : decide ((a.n : Int) < (b.n : Int)) = true := decide_eq_true (by omega)
    have t1n : decide (a.n < b.n) = true := decide_eq_true (by omega)
    have H := Lib.hid (show lt a b = true by rw [lt_iff]; omega)
    clear h1
    go_enter Try.func14, Try.ntmps14
    go_wp2
    go_ret
    exact ⟨by rw [H.out]; rfl, below2 _ _ _⟩
  · have t1 : decide ((a.n : Int) < (b.n : Int)) = false := decide_eq_false (by omega)
    have t1n : decide (a.n < b.n) = false := decide_eq_false (by omega)
    by_cases h2 : a.n = b.n
    · have t2 : ((a.n : Int) == (b.n : Int)) = true := beq_iff_eq.2 (by omega)
      by_cases h3 : a.r < b.r
      · have t3 : decide ((a.r : Int) < (b.r : Int)) = true := decide_eq_true (by omega)
        have t3n : decide (a.r < b.r) = true := decide_eq_true (by omega)
        have H := Lib.hid (show lt a b = true by rw [lt_iff]; omega)
        clear h1 h2 h3
        go_enter Try.func14, Try.ntmps14
        go_wp2
        go_ret
        exact ⟨by rw [H.out]; rfl, below2 _ _ _⟩
      · have t3 : decide ((a.r : Int) < (b.r : Int)) = false := decide_eq_false (by omega)
        have t3n : decide (a.r < b.r) = false := decide_eq_false (by omega)
        have H := Lib.hid (show lt a b = false by rw [lt_no]; omega)
        clear h1 h2 h3
        go_enter Try.func14, Try.ntmps14
        go_wp2
        go_ret
        exact ⟨by rw [H.out]; rfl, below2 _ _ _⟩
    · have t2 : ((a.n : Int) == (b.n : Int)) = false := beq_eq_false_iff_ne.2 (by omega)
      have H := Lib.hid (show lt a b = false by rw [lt_no]; omega)
      clear h1 h2
      go_enter Try.func14, Try.ntmps14
      go_wp2
      go_ret
      exact ⟨by rw [H.out]; rfl, below2 _ _ _⟩
set_option maxHeartbeats 2000000 in
theorem rturn_any (b : B) (hb : b.ok) (node : Nat) (w : World) : Calls Try.prog 10 #[bv b, .int .u8 node] w fun e w' => e = .returned (.tuple #[bv (turnB b node).1, .int .i64 (turnB b node).2]) ∧ Below w.heap.size w w' := by
  have hok := hb.1
  by_cases hm : mayB b = false
  · have HC := Lib.hid hm
    have HX := Lib.hid (turn_arg b node (.inl hm))
    clear hm
    go_enter Try.func10, Try.ntmps10
    go_wp2_with fail
    refine (rmay_any b _).mono ?_
    rintro e w1 ⟨rfl, b1⟩
    have k2 := Blk.later (b := w.heap.size) (Blk.alloc (Blk.new _ _) _) b1
    have k4 := Blk.later (b := w.heap.size + 1) (Blk.newAt _ (by simp)) b1
    have bw1 : Below w.heap.size w w1 := (below2 _ _ _).trans (b1.mono (by simp; omega))
    rw [HC.out]
    clear b1
    have a0 := k2.cell 0
    have a1 := k2.cell 1
    have r0 := k4.cell 0
    have r1 := k4.cell 1
    have f0 := k4.frozen 0
    have f1 := k4.frozen 1
    have l4 := k4.lt
    go_wp2
    refine bodyPost_ret (v := .tuple #[.agg #[.int .u64 0, .int .u8 0], .int .i64 2]) (by simp [results, Try.results10, go_sem, r0, r1]) rfl ⟨by rw [HX.out]; rfl, ?_⟩
    repeat (first | (with_reducible refine Below.setCell ?_ (by dsimp only; omega) _))
    exact bw1
  · have HC := Lib.hid (show mayB b = true by simpa using hm)
    by_cases hn : 6 < node
    · have t1 : decide ((6 : Int) < (node : Int)) = true := decide_eq_true (by omega)
      have t1n : decide (6 < node) = true := decide_eq_true (by omega)
      have HX := Lib.hid (turn_arg b node (.inr hn))
      clear hm
      go_enter Try.func10, Try.ntmps10
      go_wp2_with fail
      refine (rmay_any b _).mono ?_
      rintro e w1 ⟨rfl, b1⟩
      have k2 := Blk.later (b := w.heap.size) (Blk.alloc (Blk.new _ _) _) b1
      have k4 := Blk.later (b := w.heap.size + 1) (Blk.newAt _ (by simp)) b1
      have bw1 : Below w.heap.size w w1 := (below2 _ _ _).trans (b1.mono (by simp; omega))
      rw [HC.out]
      clear b1
      have a0 := k2.cell 0
      have a1 := k2.cell 1
      have r0 := k4.cell 0
      have r1 := k4.cell 1
      have f0 := k4.frozen 0
      have f1 := k4.frozen 1
      have l4 := k4.lt
      go_wp2
      refine bodyPost_ret (v := .tuple #[.agg #[.int .u64 0, .int .u8 0], .int .i64 2]) (by simp [results, Try.results10, go_sem, r0, r1]) rfl ⟨by rw [HX.out]; rfl, ?_⟩
      repeat (first | (with_reducible refine Below.setCell ?_ (by dsimp only; omega) _))
      exact bw1
    · have hne : ¬ (mayB b = false ∨ 6 < node) := fun e => e.elim hm hn
      have t1 : decide ((6 : Int) < (node : Int)) = false := decide_eq_false (by omega)
      have t1n : decide (6 < node) = false := decide_eq_false (by omega)
      clear hm
      by_cases h0 : 0 < b.n ∧ b.r < node
      · obtain ⟨h1, h2⟩ := h0
        have t0 : decide ((0 : Int) < (b.n : Int)) = true := decide_eq_true (by omega)
        have t0n : decide (0 < b.n) = true := decide_eq_true (by omega)
        have t2 : decide ((b.r : Int) < (node : Int)) = true := decide_eq_true (by omega)
        have t2n : decide (b.r < node) = true := decide_eq_true (by omega)
        have HX := Lib.hid (turn_same b node hne ⟨h1, h2⟩)
        clear hne
        go_enter Try.func10, Try.ntmps10
        go_wp2_with fail
        refine (rmay_any b _).mono ?_
        rintro e w1 ⟨rfl, b1⟩
        have k2 := Blk.later (b := w.heap.size) (Blk.alloc (Blk.new _ _) _) b1
        have k4 := Blk.later (b := w.heap.size + 1) (Blk.newAt _ (by simp)) b1
        have bw1 : Below w.heap.size w w1 := (below2 _ _ _).trans (b1.mono (by simp; omega))
        rw [HC.out]
        clear b1
        have a0 := k2.cell 0
        have a1 := k2.cell 1
        have r0 := k4.cell 0
        have r1 := k4.cell 1
        have f0 := k4.frozen 0
        have f1 := k4.frozen 1
        have l4 := k4.lt
        go_wp2
        refine bodyPost_ret (v := .tuple #[bv ⟨b.n, node⟩, .int .i64 0]) (by simp [results, Try.results10, go_sem, r0, r1]) rfl ⟨by rw [HX.out]; rfl, ?_⟩
        repeat (first | (with_reducible refine Below.setCell ?_ (by dsimp only; omega) _))
        exact bw1
      · by_cases hf : b.n = 18446744073709551615
        · have t0 : decide ((0 : Int) < (b.n : Int)) = true := decide_eq_true (by omega)
          have t0n : decide (0 < b.n) = true := decide_eq_true (by omega)
          have t2 : decide ((b.r : Int) < (node : Int)) = false := decide_eq_false (by omega)
          have t2n : decide (b.r < node) = false := decide_eq_false (by omega)
          have t3 : ((b.n : Int) == 18446744073709551615) = true := beq_iff_eq.2 (by omega)
          have HX := Lib.hid (turn_full b node hne h0 hf)
          clear hne hf h0
          go_enter Try.func10, Try.ntmps10
          go_wp2_with fail
          refine (rmay_any b _).mono ?_
          rintro e w1 ⟨rfl, b1⟩
          have k2 := Blk.later (b := w.heap.size) (Blk.alloc (Blk.new _ _) _) b1
          have k4 := Blk.later (b := w.heap.size + 1) (Blk.newAt _ (by simp)) b1
          have bw1 : Below w.heap.size w w1 := (below2 _ _ _).trans (b1.mono (by simp; omega))
          rw [HC.out]
          clear b1
          have a0 := k2.cell 0
          have a1 := k2.cell 1
          have r0 := k4.cell 0
          have r1 := k4.cell 1
          have f0 := k4.frozen 0
          have f1 := k4.frozen 1
          have l4 := k4.lt
          go_wp2
          refine bodyPost_ret (v := .tuple #[.agg #[.int .u64 0, .int .u8 0], .int .i64 7]) (by simp [results, Try.results10, go_sem, r0, r1]) rfl ⟨by rw [HX.out]; rfl, ?_⟩
          repeat (first | (with_reducible refine Below.setCell ?_ (by dsimp only; omega) _))
          exact bw1
        · have t3 : ((b.n : Int) == 18446744073709551615) = false := beq_eq_false_iff_ne.2 (by omega)
          have hw : IntKind.u64.wrap ((b.n : Int) + 1) = (b.n : Int) + 1 := by rw [IntKind.wrap_u64]; omega
          have HX := Lib.hid (turn_next b node hne h0 hf)
          by_cases h1 : 0 < b.n
          · have t0 : decide ((0 : Int) < (b.n : Int)) = true := decide_eq_true (by omega)
            have t0n : decide (0 < b.n) = true := decide_eq_true (by omega)
            have t2 : decide ((b.r : Int) < (node : Int)) = false := decide_eq_false (by omega)
            have t2n : decide (b.r < node) = false := decide_eq_false (by omega)
            clear hne hf h0
            go_enter Try.func10, Try.ntmps10
            go_wp2_with fail
            refine (rmay_any b _).mono ?_
            rintro e w1 ⟨rfl, b1⟩
            have k2 := Blk.later (b := w.heap.size) (Blk.alloc (Blk.new _ _) _) b1
            have k4 := Blk.later (b := w.heap.size + 1) (Blk.newAt _ (by simp)) b1
            have bw1 : Below w.heap.size w w1 := (below2 _ _ _).trans (b1.mono (by simp; omega))
            rw [HC.out]
            clear b1
            have a0 := k2.cell 0
            have a1 := k2.cell 1
            have r0 := k4.cell 0
            have r1 := k4.cell 1
            have f0 := k4.frozen 0
            have f1 := k4.frozen 1
            have l4 := k4.lt
            go_wp2
            refine bodyPost_ret (v := .tuple #[.agg #[.int .u64 (b.n + 1), .int .u8 node], .int .i64 0]) (by simp [results, Try.results10, go_sem, r0, r1]) rfl ⟨by rw [HX.out]; rfl, ?_⟩
            repeat (first | (with_reducible refine Below.setCell ?_ (by dsimp only; omega) _))
            exact bw1
          · have t0 : decide ((0 : Int) < (b.n : Int)) = false := decide_eq_false (by omega)
            have t0n : decide (0 < b.n) = false := decide_eq_false (by omega)
            clear hne hf h0
            go_enter Try.func10, Try.ntmps10
            go_wp2_with fail
            refine (rmay_any b _).mono ?_
            rintro e w1 ⟨rfl, b1⟩
            have k2 := Blk.later (b := w.heap.size) (Blk.alloc (Blk.new _ _) _) b1
            have k4 := Blk.later (b := w.heap.size + 1) (Blk.newAt _ (by simp)) b1
            have bw1 : Below w.heap.size w w1 := (below2 _ _ _).trans (b1.mono (by simp; omega))
            rw [HC.out]
            clear b1
            have a0 := k2.cell 0
            have a1 := k2.cell 1
            have r0 := k4.cell 0
            have r1 := k4.cell 1
            have f0 := k4.frozen 0
            have f1 := k4.frozen 1
            have l4 := k4.lt
            go_wp2
            refine bodyPost_ret (v := .tuple #[.agg #[.int .u64 (b.n + 1), .int .u8 node], .int .i64 0]) (by simp [results, Try.results10, go_sem, r0, r1]) rfl ⟨by rw [HX.out]; rfl, ?_⟩
            repeat (first | (with_reducible refine Below.setCell ?_ (by dsimp only; omega) _))
            exact bw1
end Bal
end Go.Proofs.Yteaegdigkdghpaa
