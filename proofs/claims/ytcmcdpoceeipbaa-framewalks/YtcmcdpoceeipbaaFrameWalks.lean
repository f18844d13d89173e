/-
  FrameWalks, and the long cases of it and of FrameTakes.
-/
import Derived.Test.YtcmcdpoceeipbaaFrameTakes
namespace Go.Proofs.Ytcmcdpoceeipbaa
open Go.RowKit Go.Shelf
attribute [local go_sem] Oper.semAt_some
namespace Fr
open Wire Crc
def lastY (pre : List (Nat × List UInt8)) : Int := if pre = [] then -1 else (endY pre.dropLast : Int)
theorem lastY_snoc (pre : List (Nat × List UInt8)) (a : Nat × List UInt8) : lastY (pre ++ [a]) = (endY pre : Int) := by
  rw [lastY, if_neg (by simp), List.dropLast_concat]
theorem lastY_lt (pre : List (Nat × List UInt8)) : lastY pre < (endY pre : Int) := by
  rcases List.eq_nil_or_concat pre with rfl | ⟨l, a, h⟩
  · simp [lastY, endY]
  · rw [List.concat_eq_append] at h
    subst h
    have h2 := frame_pos a.2
    rw [lastY_snoc, endY_snoc]; omega
set_option maxRecDepth 100000 in
set_option maxHeartbeats 2000000 in
theorem walks_walk (s : List UInt8) (hs : s.length ≤ 6000) (most : Nat) (hm : most < 256) (w : World) :
    Calls Try.prog 7 #[.string (bs s), .int .u8 (most : Int)] w fun e w' => e = .returned (.bool true) ∧ Below w.heap.size w w' := by
  have zs := bs_size s
  have d1 : decide (6000 < s.length) = false := decide_eq_false (by omega)
  have d2 : decide ((6000 : Int) < (s.length : Int)) = false := decide_eq_false (by omega)
  have HS := Lib.hid (fun w => split_any s (by omega) w)
  unfold spv at HS
  have hat := frP_at s 0
  have hle2 := frP_le2 s 0
  have hel := frP_end s 0
  have hPL : (frP s 0).1.length ≤ 6000 := by have := hle2.1; omega
  obtain ⟨P, hP⟩ : ∃ P, (frP s 0).1 = P := ⟨_, rfl⟩
  rw [hP] at HS hat hle2 hPL hel
  have HPE := Lib.hid hP
  obtain ⟨En, Er, hEn⟩ : ∃ En Er, (frP s 0).2 = (En, Er) := ⟨_, _, rfl⟩
  rw [hEn] at HS hel
  dsimp only at HS hel
  have HEL := Lib.hid hel
  have hEE := frP_le s 0
  rw [hEn] at hEE
  dsimp only at hEE
  clear hP hEn hel
  obtain ⟨E, hE, hE1, hE2⟩ : ∃ E : Nat, max (most : Int) 1 = (E : Int) ∧ 1 ≤ E ∧ E < 256 := ⟨max most 1, by omega, by omega, by omega⟩
  refine (callsIn_wide (n := 12)).1 ?_
  refine callsIn_of_wp_marks Try.func7 rfl trivial ?_ rfl
  simp only [Try.ntmps7, List.size_toArray, List.length_cons, List.length_nil, Nat.reduceAdd, Nat.reduceSub, Array.replicate_succ, Array.replicate_zero, List.push_toArray, List.append_toArray, List.nil_append, List.cons_append]
  gi_wp2_with fail
  refine ⟨trivial, (callsIn_wide.2 (HS.out _)).mono ?_⟩
  rintro e w1 ⟨v1, rfl, r1, b1⟩
  have k4 := (Blk.new w (.cells #[.bool false] 4)).later b1
  have B1 := Below.later' (below1 w (.cells #[.bool false] 4)) b1
  have h41 : w.heap.size < w1.heap.size := k4.lt
  clear b1
  obtain ⟨p1, cap1, hv1, _⟩ := r1.len
  rw [List.length_map] at hv1
  subst hv1
  gi_wp2_with fail
  refine ⟨trivial, (walk_mk _ s _).mono ?_⟩
  rintro e w' ⟨rfl, rfl⟩
  have hnf := fun w c => run_eql_func_nil (P := Try.prog) w 39 _ _ _ (.func 27) #[] c Try.underlying39
  gi_wp2_with fail
  have k5 : Blk ((((((w1.alloc (.cells #[.slice p1 P.length cap1] 29)).alloc (.cells #[.int .i64 (En : Int)] 3)).alloc (.cells #[.int .i64 (E : Int)] 3)).alloc (.cells #[.int .i64 0] 3)).alloc (.cells #[.int .i64 (-1)] 3)).alloc (.cells #[.string (bs s)] 9)) (w1.heap.size) (.cells #[.slice p1 P.length cap1] 29) := ((((((Blk.new w1 _).alloc _).alloc _).alloc _).alloc _).alloc _)
  have k6 : Blk ((((((w1.alloc (.cells #[.slice p1 P.length cap1] 29)).alloc (.cells #[.int .i64 (En : Int)] 3)).alloc (.cells #[.int .i64 (E : Int)] 3)).alloc (.cells #[.int .i64 0] 3)).alloc (.cells #[.int .i64 (-1)] 3)).alloc (.cells #[.string (bs s)] 9)) (w1.heap.size + 1) (.cells #[.int .i64 (En : Int)] 3) := (((((Blk.newAt _ (by simp)).alloc _).alloc _).alloc _).alloc _)
  have k8 : Blk ((((((w1.alloc (.cells #[.slice p1 P.length cap1] 29)).alloc (.cells #[.int .i64 (En : Int)] 3)).alloc (.cells #[.int .i64 (E : Int)] 3)).alloc (.cells #[.int .i64 0] 3)).alloc (.cells #[.int .i64 (-1)] 3)).alloc (.cells #[.string (bs s)] 9)) (w1.heap.size + 1 + 1) (.cells #[.int .i64 (E : Int)] 3) := ((((Blk.newAt _ (by simp)).alloc _).alloc _).alloc _)
  have k9 : Blk ((((((w1.alloc (.cells #[.slice p1 P.length cap1] 29)).alloc (.cells #[.int .i64 (En : Int)] 3)).alloc (.cells #[.int .i64 (E : Int)] 3)).alloc (.cells #[.int .i64 0] 3)).alloc (.cells #[.int .i64 (-1)] 3)).alloc (.cells #[.string (bs s)] 9)) (w1.heap.size + 1 + 1 + 1) (.cells #[.int .i64 0] 3) := (((Blk.newAt _ (by simp)).alloc _).alloc _)
  have k10 : Blk ((((((w1.alloc (.cells #[.slice p1 P.length cap1] 29)).alloc (.cells #[.int .i64 (En : Int)] 3)).alloc (.cells #[.int .i64 (E : Int)] 3)).alloc (.cells #[.int .i64 0] 3)).alloc (.cells #[.int .i64 (-1)] 3)).alloc (.cells #[.string (bs s)] 9)) (w1.heap.size + 1 + 1 + 1 + 1) (.cells #[.int .i64 (-1)] 3) := ((Blk.newAt _ (by simp)).alloc _)
  have kS : Blk ((((((w1.alloc (.cells #[.slice p1 P.length cap1] 29)).alloc (.cells #[.int .i64 (En : Int)] 3)).alloc (.cells #[.int .i64 (E : Int)] 3)).alloc (.cells #[.int .i64 0] 3)).alloc (.cells #[.int .i64 (-1)] 3)).alloc (.cells #[.string (bs s)] 9)) (w1.heap.size + 1 + 1 + 1 + 1 + 1) (.cells #[.string (bs s)] 9) := (Blk.newAt _ (by simp))
  have bV : Below w1.heap.size w1 ((((((w1.alloc (.cells #[.slice p1 P.length cap1] 29)).alloc (.cells #[.int .i64 (En : Int)] 3)).alloc (.cells #[.int .i64 (E : Int)] 3)).alloc (.cells #[.int .i64 0] 3)).alloc (.cells #[.int .i64 (-1)] 3)).alloc (.cells #[.string (bs s)] 9)) := ((((((below1 w1 _).alloc (by simp) _).alloc (by simp; omega) _).alloc (by simp; omega) _).alloc (by simp; omega) _).alloc (by simp; omega) _)
  have hVs : ((((((w1.alloc (.cells #[.slice p1 P.length cap1] 29)).alloc (.cells #[.int .i64 (En : Int)] 3)).alloc (.cells #[.int .i64 (E : Int)] 3)).alloc (.cells #[.int .i64 0] 3)).alloc (.cells #[.int .i64 (-1)] 3)).alloc (.cells #[.string (bs s)] 9)).heap.size = w1.heap.size + 1 + 1 + 1 + 1 + 1 + 1 := by simp
  obtain ⟨V, hV⟩ : ∃ V, ((((((w1.alloc (.cells #[.slice p1 P.length cap1] 29)).alloc (.cells #[.int .i64 (En : Int)] 3)).alloc (.cells #[.int .i64 (E : Int)] 3)).alloc (.cells #[.int .i64 0] 3)).alloc (.cells #[.int .i64 (-1)] 3)).alloc (.cells #[.string (bs s)] 9)) = V := ⟨_, rfl⟩
  rw [hV] at k5 k6 k8 k9 k10 kS bV hVs ⊢
  clear hV hnf HS hE
  have HR2 := Lib.hid r1
  have hsq := walk_seq (12 - 1) (by decide) (w1.heap.size + 1 + 1 + 1 + 1 + 1) s (by omega) V kS
  rw [HPE.out] at hsq
  refine wpIn_range rfl (by decide) (gf := 27) (lb := #[.pointer (some ⟨w1.heap.size + 1 + 1 + 1 + 1 + 1, 0, none⟩)]) rfl trivial (enters_of Try.func27 (by kernel_rfl) rfl)
    hsq (fun b e => by subst e; exact kS.lt) (fun _ => rfl)
    (fun pre fp W' => pre.length < E ∧ Blk W' (w1.heap.size) (.cells #[.slice p1 P.length cap1] 29) ∧ Blk W' (w1.heap.size + 1) (.cells #[.int .i64 (En : Int)] 3) ∧ Blk W' (w1.heap.size + 1 + 1) (.cells #[.int .i64 (E : Int)] 3) ∧ Blk W' (w1.heap.size + 1 + 1 + 1) (.cells #[.int .i64 (pre.length : Int)] 3) ∧ Blk W' (w1.heap.size + 1 + 1 + 1 + 1) (.cells #[.int .i64 (lastY pre)] 3) ∧ Below w1.heap.size w1 W')
    (fun c pre fp W' => (c = .exit 0 ∧ pre.length = E) ∧ Blk W' (w1.heap.size) (.cells #[.slice p1 P.length cap1] 29) ∧ Blk W' (w1.heap.size + 1 + 1) (.cells #[.int .i64 (E : Int)] 3) ∧ Blk W' (w1.heap.size + 1 + 1 + 1) (.cells #[.int .i64 (pre.length : Int)] 3) ∧ Below w1.heap.size w1 W')
    (fun pre fp A B h hs => by
      obtain ⟨h0, h1, h2, h3, h4, h5, hb⟩ := h
      exact ⟨h0, hs.blk h1 (.inl (by omega)), hs.blk h2 (.inl (by omega)), hs.blk h3 (.inl (by omega)), hs.blk h4 (.inl (by omega)), hs.blk h5 (.inl (by omega)), hs.below hb (by omega) (Nat.le_refl _)⟩)
    (fun c pre fp A B h hs => by
      obtain ⟨h0, h1, h2, h3, hb⟩ := h
      exact ⟨h0, hs.blk h1 (.inl (by omega)), hs.blk h2 (.inl (by omega)), hs.blk h3 (.inl (by omega)), hs.below hb (by omega) (Nat.le_refl _)⟩)
    ⟨hE1, k5, k6, k8, k9, k10, bV⟩ ?round ?done ?stop
  case round =>
    clear k5 k6 k8 k9 k10
    rintro l pre a post fp W2 hL hl hl2 ⟨hpl, h5, h6, h8, h9, h10, hb⟩ hfp
    unfold wv
    gi_wp2
    refine ⟨Below.refl _ _, ?_⟩
    rintro W3 hg ⟨r, hr⟩ ⟨_, q5, q6, q8, q9, q10, qb⟩
    clear h5 h6 h8 h9 h10 hb hr
    have hz3 := hg.size
    have hlW3 : ∀ b, fp b → b < W3.heap.size := fun b hb => by have := (hfp b hb).2; omega
    clear hg
    have hlen := congrArg List.length hL
    rw [List.length_append, List.length_cons] at hlen
    have hlt : pre.length < P.length := by omega
    have ha1 := hat pre a post hL
    have hfp2 := frame_pos a.2
    have hen : endY pre + (frameB a.2).length ≤ endY P := by
      have h1 : endY P = endY pre + (frameB a.2).length + endY post := by rw [hL]; simp [endY]; omega
      omega
    have heP := HEL.out
    have hla := lastY_lt pre
    have c5 := q5.cell 0
    have c6 := q6.cell 0
    have c8 := q8.cell 0
    have c9 := q9.cell 0
    have c10 := q10.cell 0
    have f9 := q9.frozen 0
    have f10 := q10.frozen 0
    obtain ⟨lb, off, cc, hv3, g⟩ := rdS (HR2.out.later qb) pre.length (by rw [List.length_map]; exact hlt)
    have hgl : (P.map (·.2))[pre.length]'(by rw [List.length_map]; exact hlt) = a.2 := by
      have : P[pre.length]? = some a := by rw [hL]; simp
      rw [List.getElem_map]
      have h2 := List.getElem?_eq_some_iff.1 this
      rw [h2.2]
    rw [hgl] at g
    have g := g W3 (Below.refl _ _)
    rw [List.length_map] at hv3
    cases hv3
    have t1 : decide (P.length ≤ pre.length) = false := decide_eq_false (by omega)
    have t2 : decide ((P.length : Int) ≤ (pre.length : Int)) = false := decide_eq_false (by omega)
    have t5 : decide ((pre.length : Int) < (P.length : Int)) = true := decide_eq_true (by omega)
    have t6 : decide (pre.length < P.length) = true := decide_eq_true hlt
    have t4 : ((bs a.2).toList != (bs a.2).toList) = false := by simp
    have t7 : decide ((a.1 : Int) ≤ lastY pre) = false := decide_eq_false (by omega)
    have t8 : decide ((En : Int) ≤ (a.1 : Int)) = false := decide_eq_false (by omega)
    have t9 : decide (En ≤ a.1) = false := decide_eq_false (by omega)
    have HSN := Lib.hid (show lastY (pre ++ [a]) = (a.1 : Int) by rw [lastY_snoc, ha1]; simp)
    have hwl : IntKind.i64.wrap ((pre.length : Int) + 1) = (pre.length : Int) + 1 := by rw [IntKind.wrap_i64]; omega
    have M1 : Moves (fun b => b = w1.heap.size + 1 + 1 + 1 + 1 + 1 ∨ w1.heap.size + 1 + 1 + 1 + 1 + 1 + 1 ≤ b) fp W3 fp ((W3.setCell ⟨w1.heap.size + 1 + 1 + 1 + 1, 0, none⟩ (.int .i64 (a.1 : Int))).setCell ⟨w1.heap.size + 1 + 1 + 1, 0, none⟩ (.int .i64 ((pre.length : Int) + 1))) :=
      (Moves.set ⟨w1.heap.size + 1 + 1 + 1 + 1, 0, none⟩ _ hlW3 (fun h => by dsimp only at h; omega)).trans (Moves.set ⟨w1.heap.size + 1 + 1 + 1, 0, none⟩ _ (fun b h => by have := hlW3 b h; simpa using this) (fun h => by dsimp only at h; omega))
    have s5 := (q5.other (a := ⟨w1.heap.size + 1 + 1 + 1 + 1, 0, none⟩) (by dsimp only; omega) (.int .i64 (a.1 : Int))).other (a := ⟨w1.heap.size + 1 + 1 + 1, 0, none⟩) (by dsimp only; omega) (.int .i64 ((pre.length : Int) + 1))
    have s6 := (q6.other (a := ⟨w1.heap.size + 1 + 1 + 1 + 1, 0, none⟩) (by dsimp only; omega) (.int .i64 (a.1 : Int))).other (a := ⟨w1.heap.size + 1 + 1 + 1, 0, none⟩) (by dsimp only; omega) (.int .i64 ((pre.length : Int) + 1))
    have s8 := (q8.other (a := ⟨w1.heap.size + 1 + 1 + 1 + 1, 0, none⟩) (by dsimp only; omega) (.int .i64 (a.1 : Int))).other (a := ⟨w1.heap.size + 1 + 1 + 1, 0, none⟩) (by dsimp only; omega) (.int .i64 ((pre.length : Int) + 1))
    have s9 := (q9.other (a := ⟨w1.heap.size + 1 + 1 + 1 + 1, 0, none⟩) (by dsimp only; omega) (.int .i64 (a.1 : Int))).set 0 (.int .i64 ((pre.length : Int) + 1))
    have s10 := (q10.set 0 (.int .i64 (a.1 : Int))).other (a := ⟨w1.heap.size + 1 + 1 + 1, 0, none⟩) (by dsimp only; omega) (.int .i64 ((pre.length : Int) + 1))
    have sb := (qb.setCell (p := ⟨w1.heap.size + 1 + 1 + 1 + 1, 0, none⟩) (by dsimp only; omega) (.int .i64 (a.1 : Int))).setCell (p := ⟨w1.heap.size + 1 + 1 + 1, 0, none⟩) (by dsimp only; omega) (.int .i64 ((pre.length : Int) + 1))
    have hln : (pre ++ [a]).length = pre.length + 1 := by simp
    clear hgl hL hlen ha1 hat hle2 heP hla q5 q6 q8 q9 q10 qb hen hEE
    by_cases hge : E ≤ pre.length + 1
    · have t10 : decide (E ≤ pre.length + 1) = true := decide_eq_true hge
      have t11 : decide ((E : Int) ≤ (pre.length : Int) + 1) = true := decide_eq_true (by omega)
      gi_wp2
      refine ⟨fp, by rw [hVs]; exact M1, ⟨rfl, by rw [hln]; omega⟩, s5, s8, ?_, sb⟩
      rw [hln]; exact s9
    · have t10 : decide (E ≤ pre.length + 1) = false := decide_eq_false hge
      have t11 : decide ((E : Int) ≤ (pre.length : Int) + 1) = false := decide_eq_false (by omega)
      gi_wp2
      refine ⟨fp, by rw [hVs]; exact M1, by rw [hln]; omega, s5, s6, s8, ?_, ?_, sb⟩
      · rw [hln]; exact s9
      · rw [HSN.out]; exact s10
  case done =>
    clear k5 k6 k8 k9 k10
    rintro D fp W2 hD hDl hfp ⟨hpl, q5, q6, q8, q9, q10, qb⟩ hK
    have c5 := q5.cell 0
    have c9 := q9.cell 0
    have t1 : ((P.length : Int) == (P.length : Int)) = true := by simp
    have c4 := (k4.later qb).cell 0
    have f4 := (k4.later qb).frozen 0
    gi_wp2_with fail
    refine ⟨trivial, (callsIn_wide.2 (wakes_any _)).mono ?_⟩
    rintro e w9 ⟨rfl, b7⟩
    have k2b := ((k4.later qb).later b7)
    have c2 := k2b.cell 0
    have f2 := k2b.frozen 0
    have sk : w9.heap[D]? = some (.deferred (some [])) := (b7.block D hDl).trans hK
    have bb := Below.later' (Below.later' B1 qb) b7
    gi_wp2
    have hDne : w.heap.size ≠ D := by omega
    have sk2 : (w9.setCell ⟨w.heap.size, 0, none⟩ (.bool true)).heap[D]? = some (.deferred (some [])) := (Below.heap_setCell _ _ _ _ (by dsimp only; omega)).trans sk
    refine ⟨by simp, .inl ⟨_, _, rfl, run_takeDeferred sk2, ?_⟩⟩
    have m2 : Blk ((w9.setCell ⟨w.heap.size, 0, none⟩ (.bool true)).putObj D (.deferred none)) w.heap.size (.cells #[.bool true] 4) := (putObj_heap_off hDne).trans (k2b.set 0 (.bool true))
    have d2 := m2.cell 0
    refine ⟨.bool true, by simp [results, Try.f7, go_sem, d2], rfl, ?_⟩
    exact Sits.below (Z := w.heap.size) (fp := fun _ => False) (Sits.of_grown (grownBy_putObj' _ D (.deferred none)) (by omega) (fun h => h)) (bb.setCell (p := ⟨w.heap.size, 0, none⟩) (Nat.le_refl _) _) (Nat.le_refl _) (Nat.le_refl _)
  case stop =>
    clear k5 k6 k8 k9 k10
    rintro D c pre fp W2 hD hDl hfp hpre ⟨⟨rfl, hpl⟩, q5, q8, q9, qb⟩ hK
    have c5 := q5.cell 0
    have c8 := q8.cell 0
    have c9 := q9.cell 0
    have t1 : ((pre.length : Int) == (E : Int)) = true := by rw [hpl]; simp
    obtain ⟨z, hz⟩ : ∃ z : Bool, ((pre.length : Int) == (P.length : Int)) = z := ⟨_, rfl⟩
    rw [hpl] at hz c9 t1
    clear hpl
    cases z
    · skip
      have c4 := (k4.later qb).cell 0
      have f4 := (k4.later qb).frozen 0
      gi_wp2_with fail
      refine ⟨trivial, (callsIn_wide.2 (wakes_any _)).mono ?_⟩
      rintro e w9 ⟨rfl, b7⟩
      have k2b := ((k4.later qb).later b7)
      have c2 := k2b.cell 0
      have f2 := k2b.frozen 0
      have sk : w9.heap[D]? = some (.deferred (some [])) := (b7.block D hDl).trans hK
      have bb := Below.later' (Below.later' B1 qb) b7
      gi_wp2
      have hDne : w.heap.size ≠ D := by omega
      have sk2 : (w9.setCell ⟨w.heap.size, 0, none⟩ (.bool true)).heap[D]? = some (.deferred (some [])) := (Below.heap_setCell _ _ _ _ (by dsimp only; omega)).trans sk
      refine ⟨by simp, .inl ⟨_, _, rfl, run_takeDeferred sk2, ?_⟩⟩
      have m2 : Blk ((w9.setCell ⟨w.heap.size, 0, none⟩ (.bool true)).putObj D (.deferred none)) w.heap.size (.cells #[.bool true] 4) := (putObj_heap_off hDne).trans (k2b.set 0 (.bool true))
      have d2 := m2.cell 0
      refine ⟨.bool true, by simp [results, Try.f7, go_sem, d2], rfl, ?_⟩
      exact Sits.below (Z := w.heap.size) (fp := fun _ => False) (Sits.of_grown (grownBy_putObj' _ D (.deferred none)) (by omega) (fun h => h)) (bb.setCell (p := ⟨w.heap.size, 0, none⟩) (Nat.le_refl _) _) (Nat.le_refl _) (Nat.le_refl _)
    · skip
      have c4 := (k4.later qb).cell 0
      have f4 := (k4.later qb).frozen 0
      gi_wp2_with fail
      refine ⟨trivial, (callsIn_wide.2 (wakes_any _)).mono ?_⟩
      rintro e w9 ⟨rfl, b7⟩
      have k2b := ((k4.later qb).later b7)
      have c2 := k2b.cell 0
      have f2 := k2b.frozen 0
      have sk : w9.heap[D]? = some (.deferred (some [])) := (b7.block D hDl).trans hK
      have bb := Below.later' (Below.later' B1 qb) b7
      gi_wp2
      have hDne : w.heap.size ≠ D := by omega
      have sk2 : (w9.setCell ⟨w.heap.size, 0, none⟩ (.bool true)).heap[D]? = some (.deferred (some [])) := (Below.heap_setCell _ _ _ _ (by dsimp only; omega)).trans sk
      refine ⟨by simp, .inl ⟨_, _, rfl, run_takeDeferred sk2, ?_⟩⟩
      have m2 : Blk ((w9.setCell ⟨w.heap.size, 0, none⟩ (.bool true)).putObj D (.deferred none)) w.heap.size (.cells #[.bool true] 4) := (putObj_heap_off hDne).trans (k2b.set 0 (.bool true))
      have d2 := m2.cell 0
      refine ⟨.bool true, by simp [results, Try.f7, go_sem, d2], rfl, ?_⟩
      exact Sits.below (Z := w.heap.size) (fp := fun _ => False) (Sits.of_grown (grownBy_putObj' _ D (.deferred none)) (by omega) (fun h => h)) (bb.setCell (p := ⟨w.heap.size, 0, none⟩) (Nat.le_refl _) _) (Nat.le_refl _) (Nat.le_refl _)
theorem takes_long (s : List UInt8) (hs : 6000 < s.length) (w : World) :
    Calls Try.prog 6 #[.string (bs s)] w fun e w' => e = .returned (.bool true) ∧ Below w.heap.size w w' := by
  have zs := bs_size s
  have d1 : decide (6000 < s.length) = true := decide_eq_true hs
  have d2 : decide ((6000 : Int) < (s.length : Int)) = true := decide_eq_true (by omega)
  go_enter Try.func6, Try.ntmps6
  go_wp2_with fail
  refine (wakes_any _).mono ?_
  rintro e w1 ⟨rfl, b1⟩
  have k2 := (Blk.new w (.cells #[.bool false] 4)).later b1
  have B1 := Below.later' (below1 w (.cells #[.bool false] 4)) b1
  have c2 := k2.cell 0
  have f2 := k2.frozen 0
  go_wp2
  have m2 := k2.set 0 (.bool true)
  have d2 := m2.cell 0
  refine bodyPost_ret (v := .bool true) (by simp [results, Try.results6, go_sem, d2]) rfl ⟨rfl, B1.setCell (p := ⟨w.heap.size, 0, none⟩) (Nat.le_refl _) _⟩
theorem walks_long (s : List UInt8) (most : Nat) (hs : 6000 < s.length) (w : World) :
    Calls Try.prog 7 #[.string (bs s), .int .u8 (most : Int)] w fun e w' => e = .returned (.bool true) ∧ Below w.heap.size w w' := by
  have zs := bs_size s
  have d1 : decide (6000 < s.length) = true := decide_eq_true hs
  have d2 : decide ((6000 : Int) < (s.length : Int)) = true := decide_eq_true (by omega)
  go_enter Try.func7, Try.ntmps7
  go_wp2_with fail
  refine (wakes_any _).mono ?_
  rintro e w1 ⟨rfl, b1⟩
  have k2 := (Blk.new w (.cells #[.bool false] 4)).later b1
  have B1 := Below.later' (below1 w (.cells #[.bool false] 4)) b1
  have c2 := k2.cell 0
  have f2 := k2.frozen 0
  go_wp2
  have m2 := k2.set 0 (.bool true)
  have d2 := m2.cell 0
  refine bodyPost_ret (v := .bool true) (by simp [results, Try.results7, go_sem, d2]) rfl ⟨rfl, B1.setCell (p := ⟨w.heap.size, 0, none⟩) (Nat.le_refl _) _⟩
theorem takes_law (s : ByteArray) (w : World) (_ : s.size ≤ maxLen) : Calls Try.prog 6 #[.string s] w fun e w' => e = .returned (.bool true) ∧ Below w.heap.size w w' := by
  rw [← bs_list s]
  by_cases h : 6000 < s.data.toList.length
  · exact takes_long _ h w
  · exact takes_walk _ (by omega) w
theorem walks_law (s : ByteArray) (m : Int) (w : World) (_ : s.size ≤ maxLen) (hm : (Lit.int .u8 m).wf = true) : Calls Try.prog 7 #[.string s, .int .u8 m] w fun e w' => e = .returned (.bool true) ∧ Below w.heap.size w w' := by
  obtain ⟨h0, h1⟩ := bounds_u8 hm
  obtain ⟨n, rfl⟩ : ∃ n : Nat, m = (n : Int) := ⟨m.toNat, by omega⟩
  rw [← bs_list s]
  by_cases h : 6000 < s.data.toList.length
  · exact walks_long _ n h w
  · exact walks_walk _ (by omega) n (by omega) w
end Fr
end Go.Proofs.Ytcmcdpoceeipbaa
