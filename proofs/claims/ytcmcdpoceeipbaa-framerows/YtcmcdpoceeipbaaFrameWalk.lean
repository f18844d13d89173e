/-
  The package frame's Walk: what it tells.
-/
import Derived.Test.YtcmcdpoceeipbaaFrameSeq
namespace Go.Proofs.Ytcmcdpoceeipbaa
open Go.RowKit Go.Shelf
attribute [local go_sem] Oper.semAt_some
theorem yieldAt_any {m m' l' : Nat} {P : Program} {l : Nat} {args : Array Value} {W : World} {R : Ending → World → Prop} (h : YieldAt Fence.wide m P l args W R) : YieldAt (Fence.wide.inRound l') m' P l args W R := by
  obtain ⟨fn, tmps, assign, body, hy, hF, hR⟩ := h
  exact ⟨fn, tmps, assign, body, hy, hF, fun c cs _ => hR c cs (fun d hd => by cases hd)⟩
namespace Fr
open Wire Crc
theorem frames_mk (n : Nat) (s : List UInt8) (w : World) :
    CallsIn Fence.wide n Try.prog 21 #[.string (bs s)] w fun e w' => e = .returned (.func (.func 31) #[] #[.pointer (some ⟨w.heap.size, 0, none⟩)]) ∧ w.alloc (.cells #[.string (bs s)] 9) = w' := by
  refine callsIn_of_wp Try.func21 rfl trivial ?_ rfl
  simp only [Try.ntmps21, List.size_toArray, List.length_cons, List.length_nil, Nat.reduceAdd, Nat.reduceSub, Array.replicate_succ, Array.replicate_zero, List.push_toArray, List.append_toArray, List.nil_append, List.cons_append]
  gi_wp2
  go_ret
  exact ⟨rfl, rfl⟩
theorem walk_mk (n : Nat) (s : List UInt8) (w : World) :
    CallsIn Fence.wide n Try.prog 16 #[.string (bs s)] w fun e w' => e = .returned (.func (.func 27) #[] #[.pointer (some ⟨w.heap.size, 0, none⟩)]) ∧ w.alloc (.cells #[.string (bs s)] 9) = w' := by
  refine callsIn_of_wp Try.func16 rfl trivial ?_ rfl
  simp only [Try.ntmps16, List.size_toArray, List.length_cons, List.length_nil, Nat.reduceAdd, Nat.reduceSub, Array.replicate_succ, Array.replicate_zero, List.push_toArray, List.append_toArray, List.nil_append, List.cons_append]
  gi_wp2
  go_ret
  exact ⟨rfl, rfl⟩
def toY (a : Nat × List UInt8) : Y := ⟨a.1, a.1 + (frameB a.2).length, a.2, 0⟩
def wv (a : Nat × List UInt8) : Array Value := #[.int .i64 (a.1 : Int), .string (bs a.2)]
theorem frY_eq (s : List UInt8) : frY s 0 = (frP s 0).1.map toY ++ if (frP s 0).2.2 = 0 then [] else [⟨(frP s 0).2.1, (frP s 0).2.1, [], (frP s 0).2.2⟩] := rfl
theorem toY_split {P : List (Nat × List UInt8)} {tl : List Y} {pre : List (Nat × List UInt8)} {y : Y} {post : List Y} (htl : ∀ z ∈ tl, z.e ≠ 0) (h : P.map toY ++ tl = pre.map toY ++ y :: post) (hy : y.e = 0) : ∃ a post', y = toY a ∧ P = pre ++ a :: post' := by
  induction pre generalizing P with
  | nil =>
    cases P with
    | nil =>
      simp only [List.map_nil, List.nil_append] at h
      exact absurd hy (htl y (by rw [h]; simp))
    | cons a P =>
      simp only [List.map_cons, List.map_nil, List.nil_append, List.cons_append, List.cons.injEq] at h
      exact ⟨a, P, h.1.symm, by simp⟩
  | cons b pre ih =>
    cases P with
    | nil =>
      simp only [List.map_nil, List.nil_append, List.map_cons, List.cons_append] at h
      exact absurd (show (toY b).e = 0 from rfl) (htl _ (by rw [h]; simp))
    | cons a P =>
      simp only [List.map_cons, List.cons_append, List.cons.injEq] at h
      obtain ⟨c, post', h1, h2⟩ := ih h.2
      have hab : a = b := by
        have h3 := h.1
        obtain ⟨a1, a2⟩ := a
        obtain ⟨b1, b2⟩ := b
        injection h3 with e1 e2 e3 e4
        dsimp only at e1 e3
        rw [e1, e3]
      exact ⟨c, post', h1, by rw [hab, h2]; simp⟩
theorem toY_inj {P Q : List (Nat × List UInt8)} (h : P.map toY = Q.map toY) : P = Q := by
  induction P generalizing Q with
  | nil => cases Q with
    | nil => rfl
    | cons b Q => simp at h
  | cons a P ih =>
    cases Q with
    | nil => simp at h
    | cons b Q =>
      rw [List.map_cons, List.map_cons, List.cons.injEq] at h
      have h3 := h.1
      obtain ⟨a1, a2⟩ := a
      obtain ⟨b1, b2⟩ := b
      injection h3 with e1 e2 e3 e4
      dsimp only at e1 e3
      rw [e1, e3, ih h.2]
theorem toY_whole {P : List (Nat × List UInt8)} {tl : List Y} {pre : List (Nat × List UInt8)} (htl : ∀ z ∈ tl, z.e ≠ 0) (h : P.map toY ++ tl = pre.map toY) : P = pre := by
  have ht : tl = [] := by
    cases tl with
    | nil => rfl
    | cons z tl =>
      exfalso
      have hz : z ∈ pre.map toY := by rw [← h]; simp
      obtain ⟨a, _, ha⟩ := List.mem_map.1 hz
      exact htl z (by simp) (by rw [← ha]; rfl)
  rw [ht, List.append_nil] at h
  exact toY_inj h
theorem toY_last {P : List (Nat × List UInt8)} {tl : List Y} {pre : List (Nat × List UInt8)} {y : Y} {post : List Y} (htl : tl.length ≤ 1) (h : P.map toY ++ tl = pre.map toY ++ y :: post) (hy : y.e ≠ 0) : P = pre := by
  induction pre generalizing P with
  | nil =>
    cases P with
    | nil => rfl
    | cons a P =>
      simp only [List.map_cons, List.map_nil, List.nil_append, List.cons_append, List.cons.injEq] at h
      exact absurd (by rw [← h.1]; rfl) hy
  | cons b pre ih =>
    cases P with
    | nil =>
      simp only [List.map_nil, List.nil_append, List.map_cons, List.cons_append] at h
      rw [h] at htl
      simp at htl
    | cons a P =>
      simp only [List.map_cons, List.cons_append, List.cons.injEq] at h
      have h3 := h.1
      obtain ⟨a1, a2⟩ := a
      obtain ⟨b1, b2⟩ := b
      injection h3 with e1 e2 e3 e4
      dsimp only at e1 e3
      rw [e1, e3, ih h.2]
set_option maxRecDepth 100000 in
set_option maxHeartbeats 1000000 in
theorem walk_seq (n : Nat) (hn : 6 ≤ n) (Bn : Nat) (s : List UInt8) (hs : s.length ≤ 1000000) (w0 : World) (hB : Blk w0 Bn (.cells #[.string (bs s)] 9)) :
    Seq Fence.wide n Try.prog 27 #[.pointer (some ⟨Bn, 0, none⟩)] wv (fun b => b = Bn) (frP s 0).1 w0 := by
  intro l J Jx W hsz hdat hJ hJx hY h0
  have kW : Blk W Bn (.cells #[.string (bs s)] 9) := (hdat Bn rfl).trans hB
  have cW := kW.cell 0
  have hBZ : Bn < W.heap.size := kW.lt
  have hn1 : 1 ≤ n := by omega
  have hn2 : 1 ≤ n - 1 - 1 := by omega
  have hyq := frY_eq s
  have htl1 : ∀ z ∈ (if (frP s 0).2.2 = 0 then [] else [(⟨(frP s 0).2.1, (frP s 0).2.1, [], (frP s 0).2.2⟩ : Y)]), z.e ≠ 0 := by
    intro z hz
    by_cases h : (frP s 0).2.2 = 0
    · rw [if_pos h] at hz; simp at hz
    · rw [if_neg h, List.mem_singleton] at hz; rw [hz]; exact h
  have htl2 : (if (frP s 0).2.2 = 0 then [] else [(⟨(frP s 0).2.1, (frP s 0).2.1, [], (frP s 0).2.2⟩ : Y)]).length ≤ 1 := by split <;> simp
  generalize (if (frP s 0).2.2 = 0 then [] else [(⟨(frP s 0).2.1, (frP s 0).2.1, [], (frP s 0).2.2⟩ : Y)]) = tl at *
  generalize (frP s 0).1 = P at *
  refine callsIn_of_wp_marks Try.func27 rfl trivial ?_ rfl
  simp only [Try.ntmps27, List.size_toArray, List.length_cons, List.length_nil, Nat.reduceAdd, Nat.reduceSub, Array.replicate_succ, Array.replicate_zero, List.push_toArray, List.append_toArray, List.nil_append, List.cons_append]
  gi_wp2_with fail
  refine ⟨trivial, (frames_mk _ s _).mono ?_⟩
  rintro e w' ⟨rfl, rfl⟩
  gi_wp2_with fail
  have kY : Blk ((W.alloc (.cells #[.func (.yield l) #[] #[]] 61)).alloc (.cells #[.string (bs s)] 9)) W.heap.size (.cells #[.func (.yield l) #[] #[]] 61) := Blk.alloc (Blk.new W _) _
  have kS : Blk ((W.alloc (.cells #[.func (.yield l) #[] #[]] 61)).alloc (.cells #[.string (bs s)] 9)) (W.heap.size + 1) (.cells #[.string (bs s)] 9) := Blk.newAt _ (by simp)
  have bW := below2 W (.cells #[.func (.yield l) #[] #[]] 61) (.cells #[.string (bs s)] 9)
  obtain ⟨V, hV⟩ : ∃ V, (W.alloc (.cells #[.func (.yield l) #[] #[]] 61)).alloc (.cells #[.string (bs s)] 9) = V := ⟨_, rfl⟩
  rw [hV] at kY kS bW ⊢
  clear hV
  have hVs : W.heap.size + 1 < V.heap.size := kS.lt
  refine wpIn_range rfl (by omega) (gf := 31) (lb := #[.pointer (some ⟨W.heap.size + 1, 0, none⟩)]) rfl trivial (enters_of Try.func31 (by kernel_rfl) rfl)
    (frames_seq (n - 1) (by omega) (W.heap.size + 1) s hs V kS) (fun b e => by subst e; exact kS.lt) (fun _ => rfl)
    (fun ys fp W' => ∃ pre, ys = pre.map toY ∧ J pre fp W' ∧ Blk W' W.heap.size (.cells #[.func (.yield l) #[] #[]] 61))
    (fun c ys fp W' => c = .ret ∧ (J P fp W' ∨ ∃ pre, pre <+: P ∧ Jx pre fp W'))
    (fun ys fp A B h hs => by obtain ⟨pre, e, hj, kb⟩ := h; exact ⟨pre, e, hJ.mono bW.size _ _ _ _ hj hs, hs.blk kb (.inl (by omega))⟩)
    (fun c ys fp A B h hs => by obtain ⟨e, hj⟩ := h; exact ⟨e, hj.imp (fun h => hJ.mono bW.size _ _ _ _ h hs) (fun ⟨pre, hp, h⟩ => ⟨pre, hp, hJx.mono bW.size _ _ _ _ h hs⟩)⟩)
    ⟨[], rfl, hJ _ _ _ _ h0 (Sits.of_below bW), kY⟩ ?round ?done ?stop
  case round =>
    rintro l' ys x post fp W2 hL hl' hl2 ⟨pre, rfl, hj, kb⟩ hfp
    unfold yv
    gi_wp2
    refine ⟨below1 W2 _, ?_⟩
    rintro W3 hg ⟨r, hr⟩ ⟨pre2, e2, hj3, kb3⟩
    have hpp := toY_inj e2
    subst hpp
    clear e2
    have hz3 := hg.size
    have hlW3 : ∀ b, fp b → W.heap.size ≤ b ∧ b < W3.heap.size := fun b hb => ⟨by have := (hfp b hb).1; omega, by have := (hfp b hb).2; simp at hz3; omega⟩
    have k3 : Blk W3 W2.heap.size (.cells #[.int .i64 (x.p : Int), .int .i64 (x.q : Int), .string (bs x.x)] 51) := Blk.grown (Blk.new W2 _) hg (fun e => by cases e; omega)
    have cy := kb3.cell 0
    have c0 := k3.cell 0
    have c1 := k3.cell 1
    have c2 := k3.cell 2
    by_cases he : x.e = 0
    · obtain ⟨a, post', hxa, hP⟩ := toY_split htl1 (hyq.symm.trans hL) he
      have hxp : x.p = a.1 := by rw [hxa]; rfl
      have hxx : x.x = a.2 := by rw [hxa]; rfl
      obtain ⟨fn, tmps, assign, body, hy, hR⟩ := yieldAt_any (l' := l') (m' := n - 1 - 1 - 1) (hY pre a post' fp W3 hP hj3 hlW3 (by have := bW.size; simp at hz3; omega))
      unfold wv at hy
      have t1 : ((x.e : Int) != 0) = false := by simp [he]
      have HP := Lib.hid hP
      have HXA := Lib.hid hxa
      clear hL hP hxa hyq he
      gi_wp2
      refine hR.mono ?_
      rintro e4 W4 ⟨fp4, hM, hc⟩
      have hM2 : Moves (fun b => b = W.heap.size + 1 ∨ V.heap.size ≤ b) fp W3 fp4 W4 := hM.mono (fun b hb => .inr (by omega))
      rcases hc with ⟨rfl, hJ4⟩ | ⟨rfl, hJ4⟩
      · have kb4 : Blk W4 W.heap.size (.cells #[.func (.yield l) #[] #[]] 61) := (hM.block _ kb3.lt (.inr (Nat.le_refl _)) (fun h => by have := (hfp _ h).1; omega)).trans kb3
        gi_wp2
        exact ⟨fp4, hM2, pre ++ [a], by rw [HXA.out]; simp, hJ4, kb4⟩
      · gi_wp2
        exact ⟨fp4, hM2, rfl, .inr ⟨pre ++ [a], ⟨post', by rw [HP.out]; simp⟩, hJ4⟩⟩
    · have hP := toY_last htl2 (hyq.symm.trans hL) he
      have t1 : ((x.e : Int) != 0) = true := by simp; omega
      have HP := Lib.hid hP
      clear hL hP hyq he
      gi_wp2
      refine ⟨fun _ h => (by cases h), ?_⟩
      gi_wp2
      exact ⟨fp, Moves.refl _ (fun b hb => (hlW3 b hb).2), rfl, .inl (by rw [HP.out]; exact hj3)⟩
  case done =>
    rintro D fp W2 hD hDl hfp ⟨pre, hpre, hj, kb⟩ hK
    have hP := toY_whole htl1 (hyq.symm.trans hpre)
    gi_wp2
    refine ⟨by simp, .inl ⟨_, _, rfl, run_takeDeferred hK, ?_⟩⟩
    have hg := grownBy_putObj' W2 D (.deferred none)
    refine ⟨_, results_none rfl _ _ _, ⟨_, rfl⟩, fp, fun b hb => ⟨by have := (hfp b hb).1; omega, Nat.lt_of_lt_of_le (hfp b hb).2 hg.size⟩, .inl ?_⟩
    rw [hP]
    exact hJ _ _ _ _ hj (Sits.of_grown hg (by omega) (fun h => by have := (hfp _ h).1; omega))
  case stop =>
    rintro D c ys fp W2 hD hDl hfp hpre ⟨rfl, hj⟩ hK
    gi_wp2
    refine ⟨by simp, .inl ⟨_, _, rfl, run_takeDeferred hK, ?_⟩⟩
    have hg := grownBy_putObj' W2 D (.deferred none)
    have hS : Sits W.heap.size fp W2 (W2.putObj D (.deferred none)) := Sits.of_grown hg (by omega) (fun h => by have := (hfp _ h).1; omega)
    exact ⟨_, results_none rfl _ _ _, ⟨_, rfl⟩, fp, fun b hb => ⟨by have := (hfp b hb).1; omega, Nat.lt_of_lt_of_le (hfp b hb).2 hg.size⟩, hj.imp (fun h => hJ _ _ _ _ h hS) (fun ⟨pre, hp, h⟩ => ⟨pre, hp, hJx _ _ _ _ h hS⟩)⟩
end Fr
end Go.Proofs.Ytcmcdpoceeipbaa
