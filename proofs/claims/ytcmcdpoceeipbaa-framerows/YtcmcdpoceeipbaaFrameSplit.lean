/-
  The package frame's Split.
-/
import Derived.Test.YtcmcdpoceeipbaaFrameWalk
import Derived.Test.YtcmcdpoceeipbaaSeqRow
import Derived.Test.YtcmcdpoceeipbaaAnyIn
namespace Go.Proofs.Ytcmcdpoceeipbaa
open Go.RowKit Go.Shelf
attribute [local go_sem] Oper.semAt_some
namespace Fr
open Wire Crc
def sv (x : List UInt8) : List Value := [.string (bs x)]
theorem infoS : (Try.prog.info? 9).map (fun i => (i.zero, i.size, i.bytes)) = some (some (.string ⟨#[]⟩), 1, 16) := by kernel_rfl
/-- Where the parts told end. -/
def endY (ys : List (Nat × List UInt8)) : Nat := (ys.map fun a => (frameB a.2).length).sum
theorem endY_snoc (ys : List (Nat × List UInt8)) (a : Nat × List UInt8) : endY (ys ++ [a]) = endY ys + (frameB a.2).length := by simp [endY]
theorem frP_at (t : List UInt8) (p : Nat) : ∀ pre a post, (frP t p).1 = pre ++ a :: post → a.1 = p + endY pre := by
  by_cases h0 : t = []
  · intro pre a post h; rw [h0, frP_nil] at h; simp at h
  · by_cases h : (frTake t).2.2 = 0
    · have hg := good t h
      have h2 := frame_pos (frTake t).1
      have h3 := List.length_pos_iff.2 h0
      have ih := frP_at (t.drop (frTake t).2.1) (p + (frTake t).2.1)
      intro pre a post he
      rw [frP_go t p h h0] at he
      cases pre with
      | nil =>
        simp only [List.nil_append, List.cons.injEq] at he
        rw [← he.1]; simp [endY]
      | cons b pre =>
        simp only [List.cons_append, List.cons.injEq] at he
        rw [ih pre a post he.2, ← he.1, hg.2.1]
        simp [endY]; omega
    · intro pre a post he; rw [frP_stop t p h h0] at he; simp at he
termination_by t.length
decreasing_by
  rw [List.length_drop]; omega
theorem frP_end (t : List UInt8) (p : Nat) : (frP t p).2.1 = p + endY (frP t p).1 := by
  by_cases h0 : t = []
  · rw [h0, frP_nil]; simp [endY]
  · by_cases h : (frTake t).2.2 = 0
    · have hg := good t h
      have h2 := frame_pos (frTake t).1
      have h3 := List.length_pos_iff.2 h0
      have ih := frP_end (t.drop (frTake t).2.1) (p + (frTake t).2.1)
      rw [frP_go t p h h0]
      dsimp only
      rw [ih]
      rw [hg.2.1]
      simp [endY]; omega
    · rw [frP_stop t p h h0]; simp [endY]
termination_by t.length
decreasing_by
  rw [List.length_drop]; omega
theorem toY_last2 {P : List (Nat × List UInt8)} {z : Y} {pre : List (Nat × List UInt8)} {y : Y} {post : List Y} (h : P.map toY ++ [z] = pre.map toY ++ y :: post) (hy : y.e ≠ 0) : y = z := by
  have hP := toY_last (by simp) h hy
  subst hP
  have := List.append_cancel_left h
  injection this with h1 _
  exact h1.symm
theorem frP_le2 (t : List UInt8) (p : Nat) : (frP t p).1.length ≤ t.length ∧ ∀ a ∈ (frP t p).1, a.2.length ≤ t.length := by
  by_cases h0 : t = []
  · rw [h0, frP_nil]; simp
  · by_cases h : (frTake t).2.2 = 0
    · have hg := good t h
      have h2 := frame_pos (frTake t).1
      have h3 := List.length_pos_iff.2 h0
      have h4 := congrArg List.length hg.1
      have h5 := frTake_le t
      rw [List.length_append, List.length_drop] at h4
      have ih := frP_le2 (t.drop (frTake t).2.1) (p + (frTake t).2.1)
      rw [List.length_drop] at ih
      rw [frP_go t p h h0]
      refine ⟨by simp only [List.length_cons]; omega, fun a ha => ?_⟩
      rcases List.mem_cons.1 ha with e | e
      · rw [e]; exact h5.1
      · exact Nat.le_trans (ih.2 a e) (by omega)
    · rw [frP_stop t p h h0]; simp
termination_by t.length
decreasing_by
  rw [List.length_drop]; omega
def spv (s : List UInt8) (v : Value) : Value := .tuple #[v, .int .i64 ((frP s 0).2.1 : Int), .int .i64 ((frP s 0).2.2 : Int)]
set_option maxRecDepth 100000 in
set_option maxHeartbeats 1000000 in
theorem split_any (s : List UInt8) (hs : s.length ≤ 1000000) (w : World) :
    Calls Try.prog 11 #[.string (bs s)] w fun e w' => ∃ v, e = .returned (spv s v) ∧ RdT sv w' v ((frP s 0).1.map (·.2)) ∧ Below w.heap.size w w' := by
  have hyq := frY_eq s
  have hat := frP_at s 0
  have hend := frP_end s 0
  have hle2 := frP_le2 s 0
  have hee := frP_le s 0
  unfold spv
  have htl1 : ∀ z ∈ (if (frP s 0).2.2 = 0 then [] else [(⟨(frP s 0).2.1, (frP s 0).2.1, [], (frP s 0).2.2⟩ : Y)]), z.e ≠ 0 := by
    intro z hz
    by_cases h : (frP s 0).2.2 = 0
    · rw [if_pos h] at hz; simp at hz
    · rw [if_neg h, List.mem_singleton] at hz; rw [hz]; exact h
  have htl3 : ∀ pre y post, frY s 0 = pre ++ y :: post → y.e ≠ 0 → (∃ pre' : List (Nat × List UInt8), pre = pre'.map toY) → y = ⟨(frP s 0).2.1, (frP s 0).2.1, [], (frP s 0).2.2⟩ := by
    intro pre y post h hy ⟨pre', hp⟩
    by_cases he : (frP s 0).2.2 = 0
    · exfalso
      rw [hyq, if_pos he, List.append_nil] at h
      have hm : y ∈ (frP s 0).1.map toY := by rw [h]; simp
      obtain ⟨a, _, ha⟩ := List.mem_map.1 hm
      exact hy (by rw [← ha]; rfl)
    · rw [hyq, if_neg he, hp] at h
      exact toY_last2 h hy
  have htl0 : (frP s 0).2.2 ≠ 0 → ∀ pre : List (Nat × List UInt8), frY s 0 ≠ pre.map toY := by
    intro he pre h
    rw [hyq, if_neg he] at h
    have hm : (⟨(frP s 0).2.1, (frP s 0).2.1, [], (frP s 0).2.2⟩ : Y) ∈ pre.map toY := by rw [← h]; simp
    obtain ⟨a, _, ha⟩ := List.mem_map.1 hm
    have := congrArg Y.e ha
    exact he this.symm
  have htl2 : (if (frP s 0).2.2 = 0 then [] else [(⟨(frP s 0).2.1, (frP s 0).2.1, [], (frP s 0).2.2⟩ : Y)]).length ≤ 1 := by split <;> simp
  generalize (if (frP s 0).2.2 = 0 then [] else [(⟨(frP s 0).2.1, (frP s 0).2.1, [], (frP s 0).2.2⟩ : Y)]) = tl at *
  generalize (frP s 0).2.1 = En at *
  generalize (frP s 0).2.2 = Er at *
  generalize (frP s 0).1 = P at *
  refine (callsIn_wide (n := 12)).1 ?_
  refine callsIn_of_wp_marks Try.func11 rfl trivial ?_ rfl
  simp only [Try.ntmps11, List.size_toArray, List.length_cons, List.length_nil, Nat.reduceAdd, Nat.reduceSub, Array.replicate_succ, Array.replicate_zero, List.push_toArray, List.append_toArray, List.nil_append, List.cons_append]
  gi_wp2_with fail
  refine ⟨trivial, (frames_mk _ s _).mono ?_⟩
  rintro e w' ⟨rfl, rfl⟩
  gi_wp2_with fail
  have k2 : Blk (((((w.alloc (.cells #[.slice none 0 0] 29)).alloc (.cells #[.int .i64 0] 3)).alloc (.cells #[.int .i64 0] 24)).alloc (.cells #[.slice none 0 0] 29)).alloc (.cells #[.int .i64 0] 3)) w.heap.size (.cells #[.slice none 0 0] 29) := ((((Blk.new w _).alloc _).alloc _).alloc _).alloc _
  have k3 : Blk (((((w.alloc (.cells #[.slice none 0 0] 29)).alloc (.cells #[.int .i64 0] 3)).alloc (.cells #[.int .i64 0] 24)).alloc (.cells #[.slice none 0 0] 29)).alloc (.cells #[.int .i64 0] 3)) (w.heap.size + 1) (.cells #[.int .i64 0] 3) := (((Blk.newAt _ (by simp)).alloc _).alloc _).alloc _
  have k4 : Blk (((((w.alloc (.cells #[.slice none 0 0] 29)).alloc (.cells #[.int .i64 0] 3)).alloc (.cells #[.int .i64 0] 24)).alloc (.cells #[.slice none 0 0] 29)).alloc (.cells #[.int .i64 0] 3)) (w.heap.size + 1 + 1) (.cells #[.int .i64 0] 24) := ((Blk.newAt _ (by simp)).alloc _).alloc _
  have k5 : Blk (((((w.alloc (.cells #[.slice none 0 0] 29)).alloc (.cells #[.int .i64 0] 3)).alloc (.cells #[.int .i64 0] 24)).alloc (.cells #[.slice none 0 0] 29)).alloc (.cells #[.int .i64 0] 3)) (w.heap.size + 1 + 1 + 1) (.cells #[.slice none 0 0] 29) := (Blk.newAt _ (by simp)).alloc _
  have k6 : Blk (((((w.alloc (.cells #[.slice none 0 0] 29)).alloc (.cells #[.int .i64 0] 3)).alloc (.cells #[.int .i64 0] 24)).alloc (.cells #[.slice none 0 0] 29)).alloc (.cells #[.int .i64 0] 3)) (w.heap.size + 1 + 1 + 1 + 1) (.cells #[.int .i64 0] 3) := Blk.newAt _ (by simp)
  have bU : Below w.heap.size w (((((w.alloc (.cells #[.slice none 0 0] 29)).alloc (.cells #[.int .i64 0] 3)).alloc (.cells #[.int .i64 0] 24)).alloc (.cells #[.slice none 0 0] 29)).alloc (.cells #[.int .i64 0] 3)) := ((((below1 w _).alloc (by simp) _).alloc (by simp; omega) _).alloc (by simp; omega) _).alloc (by simp; omega) _
  have hUs : (((((w.alloc (.cells #[.slice none 0 0] 29)).alloc (.cells #[.int .i64 0] 3)).alloc (.cells #[.int .i64 0] 24)).alloc (.cells #[.slice none 0 0] 29)).alloc (.cells #[.int .i64 0] 3)).heap.size = w.heap.size + 1 + 1 + 1 + 1 + 1 := by simp
  obtain ⟨U, hU⟩ : ∃ U, ((((w.alloc (.cells #[.slice none 0 0] 29)).alloc (.cells #[.int .i64 0] 3)).alloc (.cells #[.int .i64 0] 24)).alloc (.cells #[.slice none 0 0] 29)).alloc (.cells #[.int .i64 0] 3) = U := ⟨_, rfl⟩
  rw [hU] at k2 k3 k4 k5 k6 bU hUs ⊢
  clear hU
  have kS : Blk (U.alloc (.cells #[.string (bs s)] 9)) (w.heap.size + 1 + 1 + 1 + 1 + 1) (.cells #[.string (bs s)] 9) := Blk.newAt _ hUs.symm
  have bV := Below.later' bU (below1 U (.cells #[.string (bs s)] 9))
  have hVs : (U.alloc (.cells #[.string (bs s)] 9)).heap.size = w.heap.size + 1 + 1 + 1 + 1 + 1 + 1 := by rw [World.size_alloc, hUs]
  have k2 := k2.alloc (.cells #[.string (bs s)] 9)
  have k3 := k3.alloc (.cells #[.string (bs s)] 9)
  have k4 := k4.alloc (.cells #[.string (bs s)] 9)
  have k5 := k5.alloc (.cells #[.string (bs s)] 9)
  have k6 := k6.alloc (.cells #[.string (bs s)] 9)
  obtain ⟨V, hV⟩ : ∃ V, U.alloc (.cells #[.string (bs s)] 9) = V := ⟨_, rfl⟩
  rw [hV] at k2 k3 k4 k5 k6 kS bV hVs ⊢
  clear hV bU
  refine wpIn_range rfl (by decide) (gf := 31) (lb := #[.pointer (some ⟨w.heap.size + 1 + 1 + 1 + 1 + 1, 0, none⟩)]) rfl trivial (enters_of Try.func31 (by kernel_rfl) rfl)
    (frames_seq _ (by decide) _ s hs V kS) (fun b e => by subst e; exact kS.lt) (fun _ => rfl)
    (fun ys fp W' => ∃ (pre : List (Nat × List UInt8)) (v : Value), ys = pre.map toY ∧ Blk W' w.heap.size (.cells #[.slice none 0 0] 29) ∧ Blk W' (w.heap.size + 1) (.cells #[.int .i64 0] 3) ∧ Blk W' (w.heap.size + 1 + 1) (.cells #[.int .i64 0] 24) ∧
      Blk W' (w.heap.size + 1 + 1 + 1) (.cells #[v] 29) ∧ Blk W' (w.heap.size + 1 + 1 + 1 + 1) (.cells #[.int .i64 (endY pre : Int)] 3) ∧ W'.ownsRow w.heap.size 9 1 v pre.length ((pre.map (·.2)).flatMap sv) ∧ (∀ b, v.ownBlock = some b → fp b) ∧ Below w.heap.size w W')
    (fun c ys fp W' => ∃ v : Value, c = .ret ∧ Blk W' w.heap.size (.cells #[v] 29) ∧ Blk W' (w.heap.size + 1) (.cells #[.int .i64 (En : Int)] 3) ∧ Blk W' (w.heap.size + 1 + 1) (.cells #[.int .i64 (Er : Int)] 24) ∧
      W'.ownsRow w.heap.size 9 1 v P.length ((P.map (·.2)).flatMap sv) ∧ (∀ b, v.ownBlock = some b → fp b) ∧ Below w.heap.size w W')
    (fun ys fp A B h hs => by
      obtain ⟨pre, v, e, h2, h3, h4, h5, h6, ho, hf, hb⟩ := h
      exact ⟨pre, v, e, hs.blk h2 (.inl (by omega)), hs.blk h3 (.inl (by omega)), hs.blk h4 (.inl (by omega)), hs.blk h5 (.inl (by omega)), hs.blk h6 (.inl (by omega)), ownsRow_sits ho hs hf, hf, hs.below hb (by omega) (Nat.le_refl _)⟩)
    (fun c ys fp A B h hs => by
      obtain ⟨v, e, h2, h3, h4, ho, hf, hb⟩ := h
      exact ⟨v, e, hs.blk h2 (.inl (by omega)), hs.blk h3 (.inl (by omega)), hs.blk h4 (.inl (by omega)), ownsRow_sits ho hs hf, hf, hs.below hb (by omega) (Nat.le_refl _)⟩)
    ⟨[], .slice none 0 0, rfl, k2, k3, k4, k5, k6, ⟨rfl, .inl ⟨rfl, rfl⟩⟩, (fun b hb => by cases hb), bV⟩ ?round ?done ?stop
  case round =>
    clear k2 k3 k4 k5 k6
    rintro l ys x post fp W2 hL hl hl2 ⟨pre, v, rfl, h2, h3, h4, h5, h6, ho, hf, hb⟩ hfp
    unfold yv
    gi_wp2
    refine ⟨below1 W2 _, ?_⟩
    rintro W3 hg ⟨r, hr⟩ ⟨pre2, v3, e2, q2, q3, q4, q5, q6, qo, qf, qb⟩
    have hpp := toY_inj e2
    subst hpp
    clear e2 h2 h3 h4 h5 h6 ho hf hb
    have hz3 := hg.size
    have hlW3 : ∀ b, fp b → b < W3.heap.size := fun b hb => by have := (hfp b hb).2; simp at hz3; omega
    have kp : Blk W3 W2.heap.size (.cells #[.int .i64 (x.p : Int), .int .i64 (x.q : Int), .string (bs x.x)] 51) := Blk.grown (Blk.new W2 _) hg (fun e => by cases e; omega)
    clear hg hr
    have cp0 := kp.cell 0
    have cp1 := kp.cell 1
    have cp2 := kp.cell 2
    have c2 := q2.cell 0
    have c3 := q3.cell 0
    have c4 := q4.cell 0
    have c5 := q5.cell 0
    have c6 := q6.cell 0
    have f2 := q2.frozen 0
    have f3 := q3.frozen 0
    have f4 := q4.frozen 0
    have f5 := q5.frozen 0
    have f6 := q6.frozen 0
    by_cases he : x.e = 0
    · obtain ⟨a, post', hxa, hP⟩ := toY_split htl1 (hyq.symm.trans hL) he
      have hxq : x.q = a.1 + (frameB a.2).length := by rw [hxa]; rfl
      have hxx : x.x = a.2 := by rw [hxa]; rfl
      have ha1 := hat pre a post' hP
      have hlen := congrArg List.length hP
      rw [List.length_append, List.length_cons] at hlen
      have HSN := Lib.hid (show (pre ++ [a]).map toY = pre.map toY ++ [x] by rw [hxa]; simp)
      have HF := Lib.hid (show ((pre ++ [a]).map (·.2)).flatMap sv = (pre.map (·.2)).flatMap sv ++ [.string (bs x.x)] by rw [hxx]; simp [sv])
      have HQ := Lib.hid (show endY (pre ++ [a]) = x.q by rw [endY_snoc, hxq, ha1]; omega)
      have t1 : ((x.e : Int) != 0) = false := by simp [he]
      have hpl : pre.length ≤ 1000000 := by have := hle2.1; omega
      have HP := Lib.hid hP
      clear hL hP hxa hyq hat htl3 htl0 htl1 hxq hxx ha1 hlen hle2 hend hee
      gi_wp2_with (gi_at_builtin; go_loud (refine app1gIn rfl _ _ 29 rfl w.heap.size 9 (.string ⟨#[]⟩) 16 infoS Try.underlying29 rfl W3 (.string (bs x.x)) 9 rfl v3 _ _ qo rfl _ rfl rfl (by omega) (by omega) qb.size ?_; intro v4 w4 ho4 g4; have kp4 := kp.grown g4.1 (fun e => by have h1 := (hfp _ (qf _ e.symm)).2; omega); have cq1 := kp4.cell 1; have q54 := q5.grown g4.1 (fun e => by have h1 := (hfp _ (qf _ e.symm)).1; omega); have q64 := q6.grown g4.1 (fun e => by have h1 := (hfp _ (qf _ e.symm)).1; omega); have q24 := q2.grown g4.1 (fun e => by have h1 := (hfp _ (qf _ e.symm)).1; omega); have q34 := q3.grown g4.1 (fun e => by have h1 := (hfp _ (qf _ e.symm)).1; omega); have q44 := q4.grown g4.1 (fun e => by have h1 := (hfp _ (qf _ e.symm)).1; omega); have cq5 := q54.cell 0; have fq5 := q54.frozen 0; have cq6 := q64.cell 0; have fq6 := q64.frozen 0; obtain ⟨pq, cq, hv4, _, _⟩ := RdV.owns ho4))
      have hl4 := fun b h => (ho4.lt b h).2
      have hv4b : ∀ b, v4.ownBlock = some b → V.heap.size ≤ b := fun b h => by
        rcases g4.2 with g | g
        · have := (hfp b (qf b (by rw [← g]; exact h))).1; omega
        · have := g b h; simp at hz3; omega
      have M4 := Grew.moves (keep := fun b => b = w.heap.size + 1 + 1 + 1 + 1 + 1 ∨ w.heap.size + 1 + 1 + 1 + 1 + 1 + 1 ≤ b) g4 hlW3 qf hl4
      have hb4 : ∀ b, (v4.ownBlock = some b ∨ fp b) → b < w4.heap.size := fun b h => (M4.own b h).1
      have M5 := M4.trans (Moves.set (W := w4) ⟨w.heap.size + 1 + 1 + 1, 0, none⟩ v4 hb4 (fun h => by dsimp only at h; omega))
      have M6 := M5.trans (Moves.set (W := w4.setCell ⟨w.heap.size + 1 + 1 + 1, 0, none⟩ v4) ⟨w.heap.size + 1 + 1 + 1 + 1, 0, none⟩ (.int .i64 (x.q : Int)) (fun b h => by have := hb4 b h; simpa using this) (fun h => by dsimp only at h; omega))
      have e5 : v4.ownBlock ≠ some (w.heap.size + 1 + 1 + 1) := fun h => by have := hv4b _ h; omega
      have e6 : v4.ownBlock ≠ some (w.heap.size + 1 + 1 + 1 + 1) := fun h => by have := hv4b _ h; omega
      have o5 := ownsRow_blkset ho4 (a := ⟨w.heap.size + 1 + 1 + 1, 0, none⟩) e5.symm v4
      have o6 := ownsRow_blkset o5 (a := ⟨w.heap.size + 1 + 1 + 1 + 1, 0, none⟩) e6.symm (.int .i64 (x.q : Int))
      have s5 := (q54.set 0 v4).other (a := ⟨w.heap.size + 1 + 1 + 1 + 1, 0, none⟩) (by dsimp only; omega) (.int .i64 (x.q : Int))
      have s6 := (q64.other (a := ⟨w.heap.size + 1 + 1 + 1, 0, none⟩) (by dsimp only; omega) v4).set 0 (.int .i64 (x.q : Int))
      have s2 := (q24.other (a := ⟨w.heap.size + 1 + 1 + 1, 0, none⟩) (by dsimp only; omega) v4).other (a := ⟨w.heap.size + 1 + 1 + 1 + 1, 0, none⟩) (by dsimp only; omega) (.int .i64 (x.q : Int))
      have s3 := (q34.other (a := ⟨w.heap.size + 1 + 1 + 1, 0, none⟩) (by dsimp only; omega) v4).other (a := ⟨w.heap.size + 1 + 1 + 1 + 1, 0, none⟩) (by dsimp only; omega) (.int .i64 (x.q : Int))
      have s4 := (q44.other (a := ⟨w.heap.size + 1 + 1 + 1, 0, none⟩) (by dsimp only; omega) v4).other (a := ⟨w.heap.size + 1 + 1 + 1 + 1, 0, none⟩) (by dsimp only; omega) (.int .i64 (x.q : Int))
      have B4 := (((g4.below qb qb.size (fun b h => by have := (hfp b (qf b h)).1; omega)).setCell (p := ⟨w.heap.size + 1 + 1 + 1, 0, none⟩) (by dsimp only; omega) v4).setCell (p := ⟨w.heap.size + 1 + 1 + 1 + 1, 0, none⟩) (by dsimp only; omega) (.int .i64 (x.q : Int)))
      subst hv4
      refine ⟨_, M6, pre ++ [a], by rw [HSN.out], s2, s3, s4, _, s5, ?_, ?_, fun b h => .inl h, B4⟩
      · rw [HQ.out]; exact s6
      · rw [HF.out, List.length_append]; exact o6
    · have hyy := htl3 _ x post hL he ⟨pre, rfl⟩
      have hP := toY_last htl2 (hyq.symm.trans hL) he
      have t1 : ((x.e : Int) != 0) = true := by simp; omega
      have HX := Lib.hid (show x.p = En ∧ x.e = Er by rw [hyy]; exact ⟨rfl, rfl⟩)
      have HP := Lib.hid hP
      clear hL hP hyq hat htl3 htl0 htl1 hle2 hend hee hyy
      gi_wp2
      have hS7 : (∃ u, Blk W3.drew w.heap.size (.cells #[u] 29)) ∧ (∃ u, Blk W3.drew (w.heap.size + 1) (.cells #[u] 3)) ∧ (∃ u, Blk W3.drew (w.heap.size + 1 + 1) (.cells #[u] 24)) ∧ Blk W3.drew (w.heap.size + 1 + 1 + 1) (.cells #[v3] 29) ∧
          Blk W3.drew W2.heap.size (.cells #[.int .i64 (x.p : Int), .int .i64 (x.q : Int), .string (bs x.x)] 51) ∧ W3.drew.ownsRow w.heap.size 9 1 v3 pre.length ((pre.map (·.2)).flatMap sv) ∧ Below w.heap.size w W3.drew ∧
          Moves (fun b => b = w.heap.size + 1 + 1 + 1 + 1 + 1 ∨ w.heap.size + 1 + 1 + 1 + 1 + 1 + 1 ≤ b) fp W3 fp W3.drew :=
        ⟨⟨_, q2.drew⟩, ⟨_, q3.drew⟩, ⟨_, q4.drew⟩, q5.drew, kp.drew, ownsRow_below qo (Below.drew (Below.refl _ _)), Below.drew qb, Moves.of_below (Below.drew (Below.refl _ _)) hlW3⟩
      clear c2 c3 c4 c5 c6 f2 f3 f4 f5 f6 cp0 cp1 cp2 q2 q3 q4 q5 q6 kp qo qb
      refine wpIn_region_vals (fun w' => (∃ u, Blk w' w.heap.size (.cells #[u] 29)) ∧ (∃ u, Blk w' (w.heap.size + 1) (.cells #[u] 3)) ∧ (∃ u, Blk w' (w.heap.size + 1 + 1) (.cells #[u] 24)) ∧ Blk w' (w.heap.size + 1 + 1 + 1) (.cells #[v3] 29) ∧
          Blk w' W2.heap.size (.cells #[.int .i64 (x.p : Int), .int .i64 (x.q : Int), .string (bs x.x)] 51) ∧ w'.ownsRow w.heap.size 9 1 v3 pre.length ((pre.map (·.2)).flatMap sv) ∧ Below w.heap.size w w' ∧
          Moves (fun b => b = w.heap.size + 1 + 1 + 1 + 1 + 1 ∨ w.heap.size + 1 + 1 + 1 + 1 + 1 + 1 ≤ b) fp W3 fp w')
        (fun i w1 w2 => match i with
          | 4 => w2 = w1.setCell ⟨w.heap.size, 0, none⟩ v3
          | 5 => w2 = w1.setCell ⟨w.heap.size + 1, 0, none⟩ (.int .i64 (x.p : Int))
          | 6 => w2 = w1.setCell ⟨w.heap.size + 1 + 1, 0, none⟩ (.int .i64 (x.e : Int))
          | _ => w2 = w1)
        (fun i u w1 => match i with
          | 0 => u = v3
          | 1 => u = .pointer (some ⟨W2.heap.size, 0, none⟩)
          | 2 => u = .int .i64 (x.p : Int)
          | 3 => u = .int .i64 (x.e : Int)
          | 4 => Blk w1 w.heap.size (.cells #[v3] 29)
          | 5 => Blk w1 (w.heap.size + 1) (.cells #[.int .i64 (x.p : Int)] 3)
          | 6 => Blk w1 (w.heap.size + 1 + 1) (.cells #[.int .i64 (x.e : Int)] 24)
          | _ => True)
        [(0, some 15), (1, some 16), (2, some 17), (3, some 18), (4, none), (5, none), (6, none)] (by kernel_rfl) (by kernel_rfl) hS7 ?_ ?_ ?_
      · intro i hi j hj hne u w1 w2 hR hV
        simp only [List.map_cons, List.map_nil, List.mem_cons, List.not_mem_nil, or_false] at hi hj
        rcases hi with rfl | rfl | rfl | rfl | rfl | rfl | rfl <;> rcases hj with rfl | rfl | rfl | rfl | rfl | rfl | rfl
        all_goals first
          | exact absurd rfl hne
          | exact hV
          | (have e : w2 = w1 := hR; subst e; exact hV)
          | (have e : w2 = w1.setCell _ _ := hR; subst e; exact Blk.other hV (by first | omega | (dsimp only; omega)) _)
      · refine steps_cons (stepIn_list rfl (fun y w1 hS hd K hK => ?_)) ?_
        · obtain ⟨⟨u2, s2⟩, ⟨u3, s3⟩, ⟨u4, s4⟩, s5, sp, so, sb, sm⟩ := hS
          have g := s5.cell 0
          simp only [putD, Act.put, List.setIfInBounds_toArray, List.set_cons_zero, List.set_cons_succ] at hK ⊢
          gi_wp2
          exact hK.out _ _ ⟨⟨u2, s2⟩, ⟨u3, s3⟩, ⟨u4, s4⟩, s5, sp, so, sb, sm⟩ rfl rfl
        refine steps_cons (stepIn_list rfl (fun y w1 hS hd K hK => ?_)) ?_
        · obtain ⟨⟨u2, s2⟩, ⟨u3, s3⟩, ⟨u4, s4⟩, s5, sp, so, sb, sm⟩ := hS
          simp only [putD, Act.put, List.setIfInBounds_toArray, List.set_cons_zero, List.set_cons_succ] at hK ⊢
          gi_wp2
          exact hK.out _ _ ⟨⟨u2, s2⟩, ⟨u3, s3⟩, ⟨u4, s4⟩, s5, sp, so, sb, sm⟩ rfl rfl
        refine steps_cons (stepIn_list rfl (fun y w1 hS hd K hK => ?_)) ?_
        · obtain ⟨⟨u2, s2⟩, ⟨u3, s3⟩, ⟨u4, s4⟩, s5, sp, so, sb, sm⟩ := hS
          have g := sp.cell 0
          have e1 : y 1 = .pointer (some ⟨W2.heap.size, 0, none⟩) := hd 1 (by kernel_rfl)
          simp only [putD, Act.put, List.setIfInBounds_toArray, List.set_cons_zero, List.set_cons_succ, e1] at hK ⊢
          gi_wp2
          exact hK.out _ _ ⟨⟨u2, s2⟩, ⟨u3, s3⟩, ⟨u4, s4⟩, s5, sp, so, sb, sm⟩ rfl rfl
        refine steps_cons (stepIn_list rfl (fun y w1 hS hd K hK => ?_)) ?_
        · obtain ⟨⟨u2, s2⟩, ⟨u3, s3⟩, ⟨u4, s4⟩, s5, sp, so, sb, sm⟩ := hS
          simp only [putD, Act.put, List.setIfInBounds_toArray, List.set_cons_zero, List.set_cons_succ] at hK ⊢
          gi_wp2
          exact hK.out _ _ ⟨⟨u2, s2⟩, ⟨u3, s3⟩, ⟨u4, s4⟩, s5, sp, so, sb, sm⟩ rfl rfl
        refine steps_cons (stepIn_list rfl (fun y w1 hS hd K hK => ?_)) ?_
        · obtain ⟨⟨u2, s2⟩, ⟨u3, s3⟩, ⟨u4, s4⟩, s5, sp, so, sb, sm⟩ := hS
          have g := s2.cell 0
          have gf := s2.frozen 0
          have e0 : y 0 = v3 := hd 0 (by kernel_rfl)
          simp only [putD, Act.put, List.setIfInBounds_toArray, List.set_cons_zero, List.set_cons_succ, e0] at hK ⊢
          obtain ⟨pq, cq, hv3, _, _⟩ := RdV.owns so
          gi_wp2
          subst hv3
          exact hK.out undef _ ⟨⟨_, (s2.set 0 _)⟩, ⟨_, (s3.other (a := ⟨w.heap.size, 0, none⟩) (by dsimp only; omega) _)⟩, ⟨_, (s4.other (a := ⟨w.heap.size, 0, none⟩) (by dsimp only; omega) _)⟩, (s5.other (a := ⟨w.heap.size, 0, none⟩) (by dsimp only; omega) _), (sp.other (a := ⟨w.heap.size, 0, none⟩) (by dsimp only; omega) _), ownsRow_blkset so (a := ⟨w.heap.size, 0, none⟩) (fun e => by have h1 := (hfp _ (qf _ e.symm)).1; first | omega | (dsimp only at h1; omega)) _, sb.setCell (p := ⟨w.heap.size, 0, none⟩) (by first | omega | (dsimp only; omega)) _, sm.trans (Moves.set ⟨w.heap.size, 0, none⟩ _ (fun b h => (sm.own b h).1) (fun h => by first | omega | (dsimp only at h; omega)))⟩ rfl (s2.set 0 _)
        refine steps_cons (stepIn_list rfl (fun y w1 hS hd K hK => ?_)) ?_
        · obtain ⟨⟨u2, s2⟩, ⟨u3, s3⟩, ⟨u4, s4⟩, s5, sp, so, sb, sm⟩ := hS
          have g := s3.cell 0
          have gf := s3.frozen 0
          have e2 : y 2 = .int .i64 (x.p : Int) := hd 2 (by kernel_rfl)
          simp only [putD, Act.put, List.setIfInBounds_toArray, List.set_cons_zero, List.set_cons_succ, e2] at hK ⊢
          gi_wp2
          exact hK.out undef _ ⟨⟨_, (s2.other (a := ⟨w.heap.size + 1, 0, none⟩) (by dsimp only; omega) _)⟩, ⟨_, (s3.set 0 _)⟩, ⟨_, (s4.other (a := ⟨w.heap.size + 1, 0, none⟩) (by dsimp only; omega) _)⟩, (s5.other (a := ⟨w.heap.size + 1, 0, none⟩) (by dsimp only; omega) _), (sp.other (a := ⟨w.heap.size + 1, 0, none⟩) (by dsimp only; omega) _), ownsRow_blkset so (a := ⟨w.heap.size + 1, 0, none⟩) (fun e => by have h1 := (hfp _ (qf _ e.symm)).1; first | omega | (dsimp only at h1; omega)) _, sb.setCell (p := ⟨w.heap.size + 1, 0, none⟩) (by first | omega | (dsimp only; omega)) _, sm.trans (Moves.set ⟨w.heap.size + 1, 0, none⟩ _ (fun b h => (sm.own b h).1) (fun h => by first | omega | (dsimp only at h; omega)))⟩ rfl (s3.set 0 _)
        refine steps_cons (stepIn_list rfl (fun y w1 hS hd K hK => ?_)) ?_
        · obtain ⟨⟨u2, s2⟩, ⟨u3, s3⟩, ⟨u4, s4⟩, s5, sp, so, sb, sm⟩ := hS
          have g := s4.cell 0
          have gf := s4.frozen 0
          have e3 : y 3 = .int .i64 (x.e : Int) := hd 3 (by kernel_rfl)
          simp only [putD, Act.put, List.setIfInBounds_toArray, List.set_cons_zero, List.set_cons_succ, e3] at hK ⊢
          gi_wp2
          exact hK.out undef _ ⟨⟨_, (s2.other (a := ⟨w.heap.size + 1 + 1, 0, none⟩) (by dsimp only; omega) _)⟩, ⟨_, (s3.other (a := ⟨w.heap.size + 1 + 1, 0, none⟩) (by dsimp only; omega) _)⟩, ⟨_, (s4.set 0 _)⟩, (s5.other (a := ⟨w.heap.size + 1 + 1, 0, none⟩) (by dsimp only; omega) _), (sp.other (a := ⟨w.heap.size + 1 + 1, 0, none⟩) (by dsimp only; omega) _), ownsRow_blkset so (a := ⟨w.heap.size + 1 + 1, 0, none⟩) (fun e => by have h1 := (hfp _ (qf _ e.symm)).1; first | omega | (dsimp only at h1; omega)) _, sb.setCell (p := ⟨w.heap.size + 1 + 1, 0, none⟩) (by first | omega | (dsimp only; omega)) _, sm.trans (Moves.set ⟨w.heap.size + 1 + 1, 0, none⟩ _ (fun b h => (sm.own b h).1) (fun h => by first | omega | (dsimp only at h; omega)))⟩ rfl (s4.set 0 _)
        exact steps_nil
      · intro y w1 hS hv
        obtain ⟨_, _, _, _, _, so, sb, sm⟩ := hS
        have n2 : Blk w1 w.heap.size (.cells #[v3] 29) := hv 4 (by decide)
        have n3 : Blk w1 (w.heap.size + 1) (.cells #[.int .i64 (x.p : Int)] 3) := hv 5 (by decide)
        have n4 : Blk w1 (w.heap.size + 1 + 1) (.cells #[.int .i64 (x.e : Int)] 24) := hv 6 (by decide)
        clear hv
        simp only [putD, Act.put, List.setIfInBounds_toArray, List.set_cons_zero, List.set_cons_succ]
        gi_wp2
        refine ⟨fp, by rw [hVs]; exact sm, v3, rfl, n2, by rw [← HX.out.1]; exact n3, by rw [← HX.out.2]; exact n4, by rw [HP.out]; exact so, qf, sb⟩
  case done =>
    rintro D fp W2 hD hDl hfp ⟨pre, v3, hpre, q2, q3, q4, q5, q6, qo, qf, qb⟩ hK
    have hP := toY_whole htl1 (hyq.symm.trans hpre)
    have hE0 : Er = 0 := by
      by_cases h : Er = 0
      · exact h
      · exact absurd hpre (htl0 h pre)
    have HEN := Lib.hid (show endY pre = En by rw [hend, ← hP]; omega)
    subst hE0
    have HP := Lib.hid hP
    clear hP hpre htl0 htl1 htl2 htl3 hat hyq hend hle2 hee k2 k3 k4 k5 k6
    have c5 := q5.cell 0
    have c6 := q6.cell 0
    gi_wp2
    have hSd : (∃ u, Blk W2.drew w.heap.size (.cells #[u] 29)) ∧ (∃ u, Blk W2.drew (w.heap.size + 1) (.cells #[u] 3)) ∧ (∃ u, Blk W2.drew (w.heap.size + 1 + 1) (.cells #[u] 24)) ∧ Blk W2.drew (w.heap.size + 1 + 1 + 1) (.cells #[v3] 29) ∧
        Blk W2.drew (w.heap.size + 1 + 1 + 1 + 1) (.cells #[.int .i64 (endY pre : Int)] 3) ∧ W2.drew.ownsRow w.heap.size 9 1 v3 pre.length ((pre.map (·.2)).flatMap sv) ∧ Below w.heap.size w W2.drew ∧ W2.drew.heap[D]? = some (.deferred (some [])) :=
      ⟨⟨_, q2.drew⟩, ⟨_, q3.drew⟩, ⟨_, q4.drew⟩, q5.drew, q6.drew, ownsRow_below qo (Below.drew (Below.refl _ _)), Below.drew qb, hK⟩
    clear c5 c6 q2 q3 q4 q5 q6 qo qb hK
    refine wpIn_region_vals (fun w' => (∃ u, Blk w' w.heap.size (.cells #[u] 29)) ∧ (∃ u, Blk w' (w.heap.size + 1) (.cells #[u] 3)) ∧ (∃ u, Blk w' (w.heap.size + 1 + 1) (.cells #[u] 24)) ∧ Blk w' (w.heap.size + 1 + 1 + 1) (.cells #[v3] 29) ∧
        Blk w' (w.heap.size + 1 + 1 + 1 + 1) (.cells #[.int .i64 (endY pre : Int)] 3) ∧ w'.ownsRow w.heap.size 9 1 v3 pre.length ((pre.map (·.2)).flatMap sv) ∧ Below w.heap.size w w' ∧ w'.heap[D]? = some (.deferred (some [])))
      (fun i w1 w2 => match i with
        | 2 => w2 = w1.setCell ⟨w.heap.size, 0, none⟩ v3
        | 3 => w2 = w1.setCell ⟨w.heap.size + 1, 0, none⟩ (.int .i64 (endY pre : Int))
        | 4 => w2 = w1.setCell ⟨w.heap.size + 1 + 1, 0, none⟩ (.int .i64 0)
        | _ => w2 = w1)
      (fun i u w1 => match i with
        | 0 => u = v3
        | 1 => u = .int .i64 (endY pre : Int)
        | 2 => Blk w1 w.heap.size (.cells #[v3] 29)
        | 3 => Blk w1 (w.heap.size + 1) (.cells #[.int .i64 (endY pre : Int)] 3)
        | 4 => Blk w1 (w.heap.size + 1 + 1) (.cells #[.int .i64 0] 24)
        | _ => True)
      [(0, some 26), (1, some 27), (2, none), (3, none), (4, none)] (by kernel_rfl) (by kernel_rfl) hSd ?_ ?_ ?_
    · intro i hi j hj hne u w1 w2 hR hV
      simp only [List.map_cons, List.map_nil, List.mem_cons, List.not_mem_nil, or_false] at hi hj
      rcases hi with rfl | rfl | rfl | rfl | rfl <;> rcases hj with rfl | rfl | rfl | rfl | rfl
      all_goals first
        | exact absurd rfl hne
        | exact hV
        | (have e : w2 = w1 := hR; subst e; exact hV)
        | (have e : w2 = w1.setCell _ _ := hR; subst e; exact Blk.other hV (by first | omega | (dsimp only; omega)) _)
    · refine steps_cons (stepIn_list rfl (fun y w1 hS hd K hK => ?_)) ?_
      · obtain ⟨⟨u2, s2⟩, ⟨u3, s3⟩, ⟨u4, s4⟩, s5, s6, so, sb, sk⟩ := hS
        have g := s5.cell 0
        simp only [putD, Act.put, List.setIfInBounds_toArray, List.set_cons_zero, List.set_cons_succ] at hK ⊢
        gi_wp2
        exact hK.out _ _ ⟨⟨u2, s2⟩, ⟨u3, s3⟩, ⟨u4, s4⟩, s5, s6, so, sb, sk⟩ rfl rfl
      refine steps_cons (stepIn_list rfl (fun y w1 hS hd K hK => ?_)) ?_
      · obtain ⟨⟨u2, s2⟩, ⟨u3, s3⟩, ⟨u4, s4⟩, s5, s6, so, sb, sk⟩ := hS
        have g := s6.cell 0
        simp only [putD, Act.put, List.setIfInBounds_toArray, List.set_cons_zero, List.set_cons_succ] at hK ⊢
        gi_wp2
        exact hK.out _ _ ⟨⟨u2, s2⟩, ⟨u3, s3⟩, ⟨u4, s4⟩, s5, s6, so, sb, sk⟩ rfl rfl
      refine steps_cons (stepIn_list rfl (fun y w1 hS hd K hK => ?_)) ?_
      · obtain ⟨⟨u2, s2⟩, ⟨u3, s3⟩, ⟨u4, s4⟩, s5, s6, so, sb, sk⟩ := hS
        have g := s2.cell 0
        have gf := s2.frozen 0
        have e0 : y 0 = v3 := hd 0 (by kernel_rfl)
        simp only [putD, Act.put, List.setIfInBounds_toArray, List.set_cons_zero, List.set_cons_succ, e0] at hK ⊢
        obtain ⟨pq, cq, hv3, _, _⟩ := RdV.owns so
        gi_wp2
        subst hv3
        exact hK.out undef _ ⟨⟨_, (s2.set 0 _)⟩, ⟨_, (s3.other (a := ⟨w.heap.size, 0, none⟩) (by first | omega | (dsimp only; omega)) _)⟩, ⟨_, (s4.other (a := ⟨w.heap.size, 0, none⟩) (by first | omega | (dsimp only; omega)) _)⟩, (s5.other (a := ⟨w.heap.size, 0, none⟩) (by first | omega | (dsimp only; omega)) _), (s6.other (a := ⟨w.heap.size, 0, none⟩) (by first | omega | (dsimp only; omega)) _), ownsRow_blkset so (a := ⟨w.heap.size, 0, none⟩) (fun e => by have h1 := (hfp _ (qf _ e.symm)).1; first | omega | (dsimp only at h1; omega)) _, sb.setCell (p := ⟨w.heap.size, 0, none⟩) (by first | omega | (dsimp only; omega)) _, (Below.heap_setCell _ _ _ _ (by first | omega | (dsimp only; omega))).trans sk⟩ rfl (s2.set 0 _)
      refine steps_cons (stepIn_list rfl (fun y w1 hS hd K hK => ?_)) ?_
      · obtain ⟨⟨u2, s2⟩, ⟨u3, s3⟩, ⟨u4, s4⟩, s5, s6, so, sb, sk⟩ := hS
        have g := s3.cell 0
        have gf := s3.frozen 0
        have e1 : y 1 = .int .i64 (endY pre : Int) := hd 1 (by kernel_rfl)
        simp only [putD, Act.put, List.setIfInBounds_toArray, List.set_cons_zero, List.set_cons_succ, e1] at hK ⊢
        gi_wp2
        exact hK.out undef _ ⟨⟨_, (s2.other (a := ⟨w.heap.size + 1, 0, none⟩) (by first | omega | (dsimp only; omega)) _)⟩, ⟨_, (s3.set 0 _)⟩, ⟨_, (s4.other (a := ⟨w.heap.size + 1, 0, none⟩) (by first | omega | (dsimp only; omega)) _)⟩, (s5.other (a := ⟨w.heap.size + 1, 0, none⟩) (by first | omega | (dsimp only; omega)) _), (s6.other (a := ⟨w.heap.size + 1, 0, none⟩) (by first | omega | (dsimp only; omega)) _), ownsRow_blkset so (a := ⟨w.heap.size + 1, 0, none⟩) (fun e => by have h1 := (hfp _ (qf _ e.symm)).1; first | omega | (dsimp only at h1; omega)) _, sb.setCell (p := ⟨w.heap.size + 1, 0, none⟩) (by first | omega | (dsimp only; omega)) _, (Below.heap_setCell _ _ _ _ (by first | omega | (dsimp only; omega))).trans sk⟩ rfl (s3.set 0 _)
      refine steps_cons (stepIn_list rfl (fun y w1 hS hd K hK => ?_)) ?_
      · obtain ⟨⟨u2, s2⟩, ⟨u3, s3⟩, ⟨u4, s4⟩, s5, s6, so, sb, sk⟩ := hS
        have g := s4.cell 0
        have gf := s4.frozen 0
        simp only [putD, Act.put, List.setIfInBounds_toArray, List.set_cons_zero, List.set_cons_succ] at hK ⊢
        gi_wp2
        exact hK.out undef _ ⟨⟨_, (s2.other (a := ⟨w.heap.size + 1 + 1, 0, none⟩) (by first | omega | (dsimp only; omega)) _)⟩, ⟨_, (s3.other (a := ⟨w.heap.size + 1 + 1, 0, none⟩) (by first | omega | (dsimp only; omega)) _)⟩, ⟨_, (s4.set 0 _)⟩, (s5.other (a := ⟨w.heap.size + 1 + 1, 0, none⟩) (by first | omega | (dsimp only; omega)) _), (s6.other (a := ⟨w.heap.size + 1 + 1, 0, none⟩) (by first | omega | (dsimp only; omega)) _), ownsRow_blkset so (a := ⟨w.heap.size + 1 + 1, 0, none⟩) (fun e => by have h1 := (hfp _ (qf _ e.symm)).1; first | omega | (dsimp only at h1; omega)) _, sb.setCell (p := ⟨w.heap.size + 1 + 1, 0, none⟩) (by first | omega | (dsimp only; omega)) _, (Below.heap_setCell _ _ _ _ (by first | omega | (dsimp only; omega))).trans sk⟩ rfl (s4.set 0 _)
      exact steps_nil
    · intro y w1 hS hv
      obtain ⟨_, _, _, _, _, so, sb, sk⟩ := hS
      have n2 : Blk w1 w.heap.size (.cells #[v3] 29) := hv 2 (by decide)
      have n3 : Blk w1 (w.heap.size + 1) (.cells #[.int .i64 (endY pre : Int)] 3) := hv 3 (by decide)
      have n4 : Blk w1 (w.heap.size + 1 + 1) (.cells #[.int .i64 0] 24) := hv 4 (by decide)
      clear hv
      simp only [putD, Act.put, List.setIfInBounds_toArray, List.set_cons_zero, List.set_cons_succ]
      gi_wp2
      refine ⟨by simp, .inl ⟨_, _, rfl, run_takeDeferred sk, ?_⟩⟩
      have m2 : Blk (w1.putObj D (.deferred none)) w.heap.size (.cells #[v3] 29) := (putObj_heap_off (by omega)).trans n2
      have m3 : Blk (w1.putObj D (.deferred none)) (w.heap.size + 1) (.cells #[.int .i64 (endY pre : Int)] 3) := (putObj_heap_off (by omega)).trans n3
      have m4 : Blk (w1.putObj D (.deferred none)) (w.heap.size + 1 + 1) (.cells #[.int .i64 0] 24) := (putObj_heap_off (by omega)).trans n4
      have d2 := m2.cell 0
      have d3 := m3.cell 0
      have d4 := m4.cell 0
      refine ⟨.tuple #[v3, .int .i64 (endY pre : Int), .int .i64 0], by simp [results, Try.f11, go_sem, d2, d3, d4], v3, ?_, ?_, ?_⟩
      · rw [HEN.out]; rfl
      · have ho := ownsRow_putObj so (.deferred none) sk rfl
        rw [HP.out]
        exact RdT.owns (by rw [List.length_map]; exact ho)
      · exact Sits.below (Z := w.heap.size) (fp := fun _ => False) (Sits.of_grown (grownBy_putObj' w1 D (.deferred none)) (by omega) (fun h => h)) sb (Nat.le_refl _) (Nat.le_refl _)
  case stop =>
    rintro D c ys fp W2 hD hDl hfp hpre ⟨v3, rfl, n2, n3, n4, so, qf, sb⟩ hK
    clear htl0 htl1 htl2 htl3 hat hyq hend hle2 hee k2 k3 k4 k5 k6
    gi_wp2
    refine ⟨by simp, .inl ⟨_, _, rfl, run_takeDeferred hK, ?_⟩⟩
    have m2 : Blk (W2.putObj D (.deferred none)) w.heap.size (.cells #[v3] 29) := (putObj_heap_off (by omega)).trans n2
    have m3 : Blk (W2.putObj D (.deferred none)) (w.heap.size + 1) (.cells #[.int .i64 (En : Int)] 3) := (putObj_heap_off (by omega)).trans n3
    have m4 : Blk (W2.putObj D (.deferred none)) (w.heap.size + 1 + 1) (.cells #[.int .i64 (Er : Int)] 24) := (putObj_heap_off (by omega)).trans n4
    have d2 := m2.cell 0
    have d3 := m3.cell 0
    have d4 := m4.cell 0
    refine ⟨.tuple #[v3, .int .i64 (En : Int), .int .i64 (Er : Int)], by simp [results, Try.f11, go_sem, d2, d3, d4], v3, rfl, ?_, ?_⟩
    · have ho := ownsRow_putObj so (.deferred none) hK rfl
      exact RdT.owns (by rw [List.length_map]; exact ho)
    · exact Sits.below (Z := w.heap.size) (fp := fun _ => False) (Sits.of_grown (grownBy_putObj' W2 D (.deferred none)) (by omega) (fun h => h)) sb (Nat.le_refl _) (Nat.le_refl _)
end Fr
end Go.Proofs.Ytcmcdpoceeipbaa
