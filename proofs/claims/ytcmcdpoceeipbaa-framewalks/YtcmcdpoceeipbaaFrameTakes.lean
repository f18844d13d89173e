/-
  FrameTakes, walked.
-/
import Derived.Test.YtcmcdpoceeipbaaFrameWakes
import Derived.Test.YtcmcdpoceeipbaaFramePuts
import Derived.Test.YtcmcdpoceeipbaaAnyIn
namespace Go.Proofs.Ytcmcdpoceeipbaa
open Go.RowKit Go.Shelf
attribute [local go_sem] Oper.semAt_some
namespace Fr
open Wire Crc
set_option maxRecDepth 100000 in
set_option maxHeartbeats 2000000 in
theorem takes_walk (s : List UInt8) (hs : s.length ≤ 6000) (w : World) :
    Calls Try.prog 6 #[.string (bs s)] w fun e w' => e = .returned (.bool true) ∧ Below w.heap.size w w' := by
  have zs := bs_size s
  have d1 : decide (6000 < s.length) = false := decide_eq_false (by omega)
  have d2 : decide ((6000 : Int) < (s.length : Int)) = false := decide_eq_false (by omega)
  have HT := Lib.hid (fun w => take_any s (by omega) w)
  have HR := Lib.hid (fun w => rtake_any s (by omega) w)
  have HS := Lib.hid (fun w => split_any s (by omega) w)
  have HQ := Lib.hid (fun w => rsplit_any s (by omega) w)
  unfold tkv at HT HR
  unfold spv at HS HQ
  have hat := frP_at s 0
  have hle2 := frP_le2 s 0
  have hel := frP_end s 0
  have hee := frP_le s 0
  obtain ⟨x, m, e, hx⟩ : ∃ x m e, frTake s = (x, m, e) := ⟨_, _, _, rfl⟩
  rw [hx] at HT HR
  dsimp only at HT HR
  have q0 : ((bs x).toList != (bs x).toList) = false := by simp
  have q1 : ((m : Int) != (m : Int)) = false := by simp
  have q2 : ((e : Int) != (e : Int)) = false := by simp
  clear hx
  have hPL : (frP s 0).1.length ≤ 6000 := by have := hle2.1; omega
  have hEE : endY (frP s 0).1 ≤ 6000 := by omega
  clear hel hee
  obtain ⟨P, hP⟩ : ∃ P, (frP s 0).1 = P := ⟨_, rfl⟩
  rw [hP] at HS HQ hat hle2 hPL hEE
  have HPE := Lib.hid hP
  obtain ⟨En, Er, hEn⟩ : ∃ En Er, (frP s 0).2 = (En, Er) := ⟨_, _, rfl⟩
  rw [hEn] at HS HQ
  dsimp only at HS HQ
  clear hP hEn
  have q3 : ((En : Int) != (En : Int)) = false := by simp
  have q4 : ((Er : Int) != (Er : Int)) = false := by simp
  refine (callsIn_wide (n := 12)).1 ?_
  refine callsIn_of_wp_marks Try.func6 rfl trivial ?_ rfl
  simp only [Try.ntmps6, List.size_toArray, List.length_cons, List.length_nil, Nat.reduceAdd, Nat.reduceSub, Array.replicate_succ, Array.replicate_zero, List.push_toArray, List.append_toArray, List.nil_append, List.cons_append]
  gi_wp2_with fail
  refine ⟨trivial, (callsIn_wide.2 (HT.out _)).mono ?_⟩
  rintro e w1 ⟨rfl, b1⟩
  have k2 := (Blk.new w (.cells #[.bool false] 4)).later b1
  have B1 := Below.later' (below1 w (.cells #[.bool false] 4)) b1
  clear b1
  gi_wp2_with fail
  refine ⟨trivial, (callsIn_wide.2 (HR.out _)).mono ?_⟩
  rintro e w2 ⟨rfl, b2⟩
  have k2 := k2.later b2
  have B2 := Below.later' B1 b2
  clear b2 B1
  gi_wp2_with fail
  refine ⟨trivial, (callsIn_wide.2 (HS.out _)).mono ?_⟩
  rintro e w3 ⟨v1, rfl, r1, b3⟩
  have k2 := k2.later b3
  have B3 := Below.later' B2 b3
  clear b3 B2
  gi_wp2_with fail
  refine ⟨trivial, (callsIn_wide.2 (HQ.out _)).mono ?_⟩
  rintro e w4 ⟨v2, rfl, r2, b4⟩
  have k2 := k2.later b4
  have r1 := r1.later b4
  have B4 := Below.later' B3 b4
  clear b4 B3
  obtain ⟨p2, cap2, hv2, _⟩ := r2.len
  rw [List.length_map] at hv2
  subst hv2
  gi_wp2_with fail
  have k12 := Blk.new w4 (.cells #[.slice p2 P.length cap2] 29)
  have r1 := r1.later (below1 w4 (.cells #[.slice p2 P.length cap2] 29))
  have r2 := r2.later (below1 w4 (.cells #[.slice p2 P.length cap2] 29))
  have k2 := k2.alloc (.cells #[.slice p2 P.length cap2] 29)
  have B5 := Below.later' B4 (below1 w4 (.cells #[.slice p2 P.length cap2] 29))
  obtain ⟨w5, hw5⟩ : ∃ w5, w4.alloc (.cells #[.slice p2 P.length cap2] 29) = w5 := ⟨_, rfl⟩
  rw [hw5] at k12 r1 r2 k2 B5
  rw [hw5]
  refine ⟨trivial, (callsIn_wide.2 (same_any v1 _ _ _ true (by simp) _ r1 r2)).mono ?_⟩
  rintro e w6 ⟨rfl, b6⟩
  have k2 := k2.later b6
  have k12 := k12.later b6
  have r2 := r2.later b6
  have B6 := Below.later' B5 b6
  have hB12 : w4.heap.size < w6.heap.size := k12.lt
  clear b6 B5 r1 hw5 B4
  have c12 := k12.cell 0
  gi_wp2_with fail
  refine ⟨trivial, (walk_mk _ s _).mono ?_⟩
  rintro e w' ⟨rfl, rfl⟩
  have hnf := fun w c => run_eql_func_nil (P := Try.prog) w 39 _ _ _ (.func 27) #[] c Try.underlying39
  gi_wp2_with fail
  have k15 : Blk (((w6.alloc (.cells #[.int .i64 0] 3)).alloc (.cells #[.int .i64 0] 3)).alloc (.cells #[.string (bs s)] 9)) w6.heap.size (.cells #[.int .i64 0] 3) := ((Blk.new w6 _).alloc _).alloc _
  have k16 : Blk (((w6.alloc (.cells #[.int .i64 0] 3)).alloc (.cells #[.int .i64 0] 3)).alloc (.cells #[.string (bs s)] 9)) (w6.heap.size + 1) (.cells #[.int .i64 0] 3) := (Blk.newAt _ (by simp)).alloc _
  have kS : Blk (((w6.alloc (.cells #[.int .i64 0] 3)).alloc (.cells #[.int .i64 0] 3)).alloc (.cells #[.string (bs s)] 9)) (w6.heap.size + 1 + 1) (.cells #[.string (bs s)] 9) := Blk.newAt _ (by simp)
  have bV : Below w6.heap.size w6 (((w6.alloc (.cells #[.int .i64 0] 3)).alloc (.cells #[.int .i64 0] 3)).alloc (.cells #[.string (bs s)] 9)) := ((below1 w6 _).alloc (by simp) _).alloc (by simp; omega) _
  have hVs : (((w6.alloc (.cells #[.int .i64 0] 3)).alloc (.cells #[.int .i64 0] 3)).alloc (.cells #[.string (bs s)] 9)).heap.size = w6.heap.size + 1 + 1 + 1 := by simp
  obtain ⟨V, hV⟩ : ∃ V, ((w6.alloc (.cells #[.int .i64 0] 3)).alloc (.cells #[.int .i64 0] 3)).alloc (.cells #[.string (bs s)] 9) = V := ⟨_, rfl⟩
  rw [hV] at k15 k16 kS bV hVs ⊢
  clear hV hnf c12 q0 q1 q2 q3 q4 HT HR HS HQ
  have HR2 := Lib.hid r2
  have HFR := Lib.hid (fun (x : List UInt8) h w => rframe_any x h w)
  have hsq := walk_seq (12 - 1) (by decide) (w6.heap.size + 1 + 1) s (by omega) V kS
  rw [HPE.out] at hsq
  refine wpIn_range rfl (by decide) (gf := 27) (lb := #[.pointer (some ⟨w6.heap.size + 1 + 1, 0, none⟩)]) rfl trivial (enters_of Try.func27 (by kernel_rfl) rfl)
    hsq (fun b e => by subst e; exact kS.lt) (fun _ => rfl)
    (fun pre fp W' => Blk W' w6.heap.size (.cells #[.int .i64 (endY pre : Int)] 3) ∧ Blk W' (w6.heap.size + 1) (.cells #[.int .i64 (pre.length : Int)] 3) ∧ Below w6.heap.size w6 W')
    (fun c pre fp W' => False)
    (fun pre fp A B h hs => by
      obtain ⟨h1, h2, hb⟩ := h
      exact ⟨hs.blk h1 (.inl (by omega)), hs.blk h2 (.inl (by omega)), hs.below hb (by omega) (Nat.le_refl _)⟩)
    (fun c pre fp A B h hs => h)
    ⟨k15, k16, bV⟩ ?round ?done ?stop
  case round =>
    clear k15 k16
    rintro l pre a post fp W2 hL hl hl2 ⟨h15, h16, hb⟩ hfp
    unfold wv
    gi_wp2
    refine ⟨Below.refl _ _, ?_⟩
    rintro W3 hg ⟨r, hr⟩ ⟨q15, q16, qb⟩
    clear h15 h16 hb hr
    have hz3 := hg.size
    have hlW3 : ∀ b, fp b → b < W3.heap.size := fun b hb => by have := (hfp b hb).2; omega
    clear hg
    have hlen := congrArg List.length hL
    rw [List.length_append, List.length_cons] at hlen
    have hlt : pre.length < P.length := by omega
    have ha1 := hat pre a post hL
    have hfl := frame_len a.2
    have hal : a.2.length ≤ 6000 := by have := hle2.2 a (by rw [hL]; simp); omega
    have hen : endY pre + (frameB a.2).length ≤ 6000 := by
      have h1 : endY P = endY pre + (frameB a.2).length + endY post := by rw [hL]; simp [endY]; omega
      omega
    have hHS := HFR.out a.2 (by omega)
    have c2 := (k2.later qb).cell 0
    have c12 := (k12.later qb).cell 0
    have c15 := q15.cell 0
    have c16 := q16.cell 0
    obtain ⟨lb, off, cc, hv3, g⟩ := rdS (HR2.out.later qb) pre.length (by rw [List.length_map]; exact hlt)
    have hgl : (P.map (·.2))[pre.length]'(by rw [List.length_map]; exact hlt) = a.2 := by
      have : P[pre.length]? = some a := by rw [hL]; simp
      rw [List.getElem_map]
      have h2 := List.getElem?_eq_some_iff.1 this
      rw [h2.2]
    rw [hgl] at g
    have g := g W3 (Below.refl _ _)
    rw [List.length_map] at hv3
    cases hv3
    have t1 : decide (P.length ≤ pre.length) = false := decide_eq_false (by omega)
    have t2 : decide ((P.length : Int) ≤ (pre.length : Int)) = false := decide_eq_false (by omega)
    have t5 : decide ((pre.length : Int) < (P.length : Int)) = true := decide_eq_true (by omega)
    have t6 : decide (pre.length < P.length) = true := decide_eq_true hlt
    have t3 : ((a.1 : Int) != (endY pre : Int)) = false := by rw [ha1]; simp
    have t4 : ((bs a.2).toList != (bs a.2).toList) = false := by simp
    have HSN := Lib.hid (show endY (pre ++ [a]) = endY pre + (frameB a.2).length from endY_snoc pre a)
    clear hgl hL hlen ha1 hfl hat hle2
    gi_wp2
    obtain ⟨f, hf⟩ : ∃ f, frameB a.2 = f := ⟨_, rfl⟩
    rw [hf] at hHS HSN hen
    have zf := bs_size f
    have hS20 : Blk W3.drew (w6.heap.size + 1) (.cells #[.int .i64 (pre.length : Int)] 3) ∧ Below w6.heap.size w6 W3.drew ∧ Moves (fun b => b = w6.heap.size + 1 + 1 ∨ w6.heap.size + 1 + 1 + 1 ≤ b) fp W3 fp W3.drew :=
      ⟨q16.drew, Below.drew qb, Moves.of_below (Below.drew (Below.refl _ _)) hlW3⟩
    clear c2 c12 c15 c16 g t1 t2 t3 t4 t5 t6 hf
    refine wpIn_region_valsU (fun w' => Blk w' (w6.heap.size + 1) (.cells #[.int .i64 (pre.length : Int)] 3) ∧ Below w6.heap.size w6 w' ∧ Moves (fun b => b = w6.heap.size + 1 + 1 ∨ w6.heap.size + 1 + 1 + 1 ≤ b) fp W3 fp w')
      (fun i w1 w2 => match i with
        | 5 => w2 = w1.setCell ⟨w6.heap.size, 0, none⟩ (.int .i64 ((endY pre + f.length : Nat) : Int))
        | _ => Below w1.heap.size w1 w2)
      (fun i u w1 => match i with
        | 0 => u = .int .i64 (endY pre : Int)
        | 1 => u = .string (bs a.2)
        | 2 => u = .string (bs f)
        | 3 => u = .int .i64 (f.length : Int)
        | 4 => u = .int .i64 ((endY pre + f.length : Nat) : Int)
        | 5 => Blk w1 w6.heap.size (.cells #[.int .i64 ((endY pre + f.length : Nat) : Int)] 3)
        | _ => True)
      (fun i w1 => match i with
        | 5 => Blk w1 w6.heap.size (.cells #[.int .i64 (endY pre : Int)] 3)
        | _ => True)
      [(0, some 99), (1, some 100), (2, some 101), (3, some 102), (4, some 103), (5, none)] (by kernel_rfl) (by kernel_rfl) hS20 ?_ ?_ ?_ ?_ ?_
    · intro k hk
      by_cases h5 : k = 5
      · subst h5; exact q15.drew
      · match k, h5 with
        | 0, _ | 1, _ | 2, _ | 3, _ | 4, _ => trivial
        | k + 6, _ => trivial
    · intro i hi j hj hne u w1 w2 hR hV
      simp only [List.map_cons, List.map_nil, List.mem_cons, List.not_mem_nil, or_false] at hi hj
      rcases hi with rfl | rfl | rfl | rfl | rfl | rfl <;> rcases hj with rfl | rfl | rfl | rfl | rfl | rfl
      all_goals first
        | exact absurd rfl hne
        | exact hV
        | exact Blk.later hV hR
    · intro i hi k hk hne w1 w2 hR hU
      simp only [List.map_cons, List.map_nil, List.mem_cons, List.not_mem_nil, or_false] at hi
      by_cases h5 : k = 5
      · subst h5
        rcases hi with rfl | rfl | rfl | rfl | rfl | rfl
        all_goals first
          | exact absurd rfl hne
          | exact Blk.later hU hR
      · match k, h5 with
        | 0, _ | 1, _ | 2, _ | 3, _ | 4, _ => trivial
        | k + 6, _ => trivial
    · refine steps_cons (stepInU_list rfl (fun y w1 hS hd hU hF K hK => ?_)) ?_
      · have k15 : Blk w1 w6.heap.size (.cells #[.int .i64 (endY pre : Int)] 3) := hF 5 (by kernel_rfl)
        have g := k15.cell 0
        simp only [putD, Act.put, List.setIfInBounds_toArray, List.set_cons_zero, List.set_cons_succ] at hK ⊢
        gi_wp2
        exact hK.out _ _ hS (Below.refl _ _) rfl
      refine steps_cons (stepInU_list rfl (fun y w1 hS hd hU hF K hK => ?_)) ?_
      · simp only [putD, Act.put, List.setIfInBounds_toArray, List.set_cons_zero, List.set_cons_succ] at hK ⊢
        gi_wp2
        exact hK.out _ _ hS (Below.refl _ _) rfl
      refine steps_cons (stepInU_list rfl (fun y w1 hS hd hU hF K hK => ?_)) ?_
      · have e1 : y 1 = .string (bs a.2) := hd 1 (by kernel_rfl)
        obtain ⟨s16, sb, sm⟩ := hS
        simp only [putD, Act.put, List.setIfInBounds_toArray, List.set_cons_zero, List.set_cons_succ, e1] at hK ⊢
        gi_wp2_with fail
        refine ⟨trivial, CallsIn.inRound l ((callsIn_wide.2 (hHS _)).mono ?_)⟩
        rintro e w2 ⟨rfl, c1⟩
        gi_wp2_with fail
        exact hK.out _ _ ⟨s16.later c1, Below.later' sb c1, sm.trans (Moves.of_below c1 (fun b h => (sm.own b h).1))⟩ c1 rfl
      refine steps_cons (stepInU_list rfl (fun y w1 hS hd hU hF K hK => ?_)) ?_
      · have e1 : y 2 = .string (bs f) := hd 2 (by kernel_rfl)
        simp only [putD, Act.put, List.setIfInBounds_toArray, List.set_cons_zero, List.set_cons_succ, e1] at hK ⊢
        gi_wp2
        exact hK.out _ _ hS (Below.refl _ _) rfl
      refine steps_cons (stepInU_list rfl (fun y w1 hS hd hU hF K hK => ?_)) ?_
      · have e1 : y 0 = .int .i64 (endY pre : Int) := hd 0 (by kernel_rfl)
        have e2 : y 3 = .int .i64 (f.length : Int) := hd 3 (by kernel_rfl)
        have hw : IntKind.i64.wrap ((endY pre : Int) + (f.length : Int)) = ((endY pre + f.length : Nat) : Int) := by rw [IntKind.wrap_i64]; omega
        simp only [putD, Act.put, List.setIfInBounds_toArray, List.set_cons_zero, List.set_cons_succ, e1, e2] at hK ⊢
        gi_wp2
        exact hK.out _ _ hS (Below.refl _ _) (by first | rfl | (congr 1; omega))
      refine steps_cons (stepInU_list rfl (fun y w1 hS hd hU hF K hK => ?_)) ?_
      · have e1 : y 4 = .int .i64 ((endY pre + f.length : Nat) : Int) := hd 4 (by kernel_rfl)
        have k15 : Blk w1 w6.heap.size (.cells #[.int .i64 (endY pre : Int)] 3) := hU
        obtain ⟨s16, sb, sm⟩ := hS
        have g := k15.cell 0
        have gf := k15.frozen 0
        simp only [putD, Act.put, List.setIfInBounds_toArray, List.set_cons_zero, List.set_cons_succ, e1] at hK ⊢
        gi_wp2
        exact hK.out undef _ ⟨s16.other (a := ⟨w6.heap.size, 0, none⟩) (by dsimp only; omega) _, sb.setCell (p := ⟨w6.heap.size, 0, none⟩) (Nat.le_refl _) _, sm.trans (Moves.set ⟨w6.heap.size, 0, none⟩ _ (fun b h => (sm.own b h).1) (fun h => by dsimp only at h; omega))⟩ rfl (k15.set 0 _)
      exact steps_nil
    · intro y w1 hS hv
      obtain ⟨s16, sb, sm⟩ := hS
      have n15 : Blk w1 w6.heap.size (.cells #[.int .i64 ((endY pre + f.length : Nat) : Int)] 3) := hv 5 (by decide)
      clear hv
      have c16 := s16.cell 0
      have f16 := s16.frozen 0
      have hwl : IntKind.i64.wrap ((pre.length : Int) + 1) = (pre.length : Int) + 1 := by rw [IntKind.wrap_i64]; omega
      simp only [putD, Act.put, List.setIfInBounds_toArray, List.set_cons_zero, List.set_cons_succ]
      gi_wp2
      refine ⟨fp, ?_, ?_, ?_, ?_⟩
      · rw [hVs]
        exact sm.trans (Moves.set ⟨w6.heap.size + 1, 0, none⟩ _ (fun b h => (sm.own b h).1) (fun h => by dsimp only at h; omega))
      · rw [HSN.out]
        exact n15.other (a := ⟨w6.heap.size + 1, 0, none⟩) (by dsimp only; omega) _
      · have := s16.set 0 (.int .i64 ((pre.length : Int) + 1))
        rw [List.length_append]
        exact this
      · exact sb.setCell (p := ⟨w6.heap.size + 1, 0, none⟩) (by dsimp only; omega) _
  case done =>
    clear k15 k16
    rintro D fp W2 hD hDl hfp ⟨q15, q16, qb⟩ hK
    have c2 := (k2.later qb).cell 0
    have f2 := (k2.later qb).frozen 0
    have c12 := (k12.later qb).cell 0
    have c16 := q16.cell 0
    have t1 : ((P.length : Int) == (P.length : Int)) = true := by simp
    have h2 : w.heap.size < w6.heap.size := k2.lt
    gi_wp2_with fail
    refine ⟨trivial, (callsIn_wide.2 (wakes_any _)).mono ?_⟩
    rintro e w1 ⟨rfl, b7⟩
    have k2b := ((k2.later qb).later b7)
    have c2 := k2b.cell 0
    have f2 := k2b.frozen 0
    have sk : w1.heap[D]? = some (.deferred (some [])) := (b7.block D hDl).trans hK
    have bb := Below.later' (Below.later' B6 qb) b7
    gi_wp2
    have hDne : w.heap.size ≠ D := by omega
    have sk2 : (w1.setCell ⟨w.heap.size, 0, none⟩ (.bool true)).heap[D]? = some (.deferred (some [])) := (Below.heap_setCell _ _ _ _ (by dsimp only; omega)).trans sk
    refine ⟨by simp, .inl ⟨_, _, rfl, run_takeDeferred sk2, ?_⟩⟩
    have m2 : Blk ((w1.setCell ⟨w.heap.size, 0, none⟩ (.bool true)).putObj D (.deferred none)) w.heap.size (.cells #[.bool true] 4) := (putObj_heap_off hDne).trans (k2b.set 0 (.bool true))
    have d2 := m2.cell 0
    refine ⟨.bool true, by simp [results, Try.f6, go_sem, d2], rfl, ?_⟩
    exact Sits.below (Z := w.heap.size) (fp := fun _ => False) (Sits.of_grown (grownBy_putObj' _ D (.deferred none)) (by omega) (fun h => h)) (bb.setCell (p := ⟨w.heap.size, 0, none⟩) (Nat.le_refl _) _) (Nat.le_refl _) (Nat.le_refl _)
  case stop =>
    rintro D c ys fp W2 hD hDl hfp hpre h hK
    exact h.elim
end Fr
end Go.Proofs.Ytcmcdpoceeipbaa
