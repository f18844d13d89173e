/-
  BatchDone, walked.
-/
import Derived.Test.YtcfcikpehekfbaaBatGreat
namespace Go.Proofs.Ytcfcikpehekfbaa
open Go.RowKit Go.WideShapes
namespace Bat
theorem qPut_len (l : List Cm) (x : Cm) : (qPut l x).1.length ≤ l.length + 1 := by
  unfold qPut
  split
  · split
    · simp
    · split
      · dsimp only; omega
      · split
        · dsimp only; omega
        · have := List.length_filter_le (fun y : Cm => !decide (y.cl = x.cl)) l
          simp; omega
  · dsimp only; omega
/-- Where the next one that is kept stands. -/
theorem kept_next (p : Cm → Bool) (l : List Cm) (i : Nat) (h : i < l.length) (hp : p l[i] = false) : ∃ hk : (kept p l i).length < (l.filter (fun x => !p x)).length, (l.filter (fun x => !p x))[(kept p l i).length] = l[i] := by
  have e : l.filter (fun x => !p x) = kept p l i ++ (l[i] :: (l.drop (i + 1)).filter (fun x => !p x)) := by
    conv => lhs; rw [← List.take_append_drop i l, List.filter_append]
    rw [List.drop_eq_getElem_cons h, List.filter_cons, if_pos (by rw [hp]; rfl)]
    rfl
  refine ⟨by rw [e, List.length_append, List.length_cons]; omega, ?_⟩
  have : ∀ (F : List Cm) (hF : F = kept p l i ++ (l[i] :: (l.drop (i + 1)).filter (fun x => !p x))) (hk : (kept p l i).length < F.length), F[(kept p l i).length] = l[i] := by
    intro F hF hk; subst hF; rw [List.getElem_append_right (Nat.le_refl _)]; simp
  exact this _ e _
set_option maxRecDepth 100000 in
set_option maxHeartbeats 4000000 in
theorem done_walk (v : Value) (l : List Ac) (hok : ∀ a ∈ l, a.ok) (cl sq : Nat) (w : World) (hv : RdT Ac.cells w v l) (hg : greatA l = false) :
    Calls Try.prog 6 #[v, .int .u8 cl, .int .u32 sq] w fun e w' => e = .returned (.bool true) ∧ Below w.heap.size w w' := by
  have HV := Lib.hid hv
  have hlen := great_len l hg
  obtain ⟨p, cap, rfl, _⟩ := hv.len
  have HOK := Lib.hid hok
  clear hv hok
  go_enter Try.func6, Try.ntmps6
  go_wp2_with fail
  refine (great_any _ l w HV.out).mono ?_
  rintro e w0 ⟨rfl, b0⟩
  rw [hg]
  have hv0 := HV.out.later b0
  have HV := Lib.hid hv0
  clear hv0
  go_wp2_with fail
  refine (new_any w0).mono ?_
  rintro e w1 ⟨rfl, q1, b1⟩
  go_wp2_with fail
  go_loopw [8] (fun i wr => ∃ (k : Nat) (vq : Value) (M : List Cm), k ≤ l.length ∧ i = .int .i64 k ∧ M.length ≤ k ∧ Que wr w0.heap.size w0.heap.size vq M ∧ Below w0.heap.size w0 wr) (fun i _ => l.length - (intOf i).toNat)
  case atStart => exact ⟨0, _, [], Nat.zero_le _, rfl, Nat.le_refl _, q1, b1⟩
  case round =>
    clear q1 b1
    obtain ⟨k, vq, M, hk, rfl, hM, q, BB⟩ := hrel
    by_cases hlt : k < l.length
    · have hd : decide ((k : Int) < (l.length : Int)) = true := decide_eq_true (by omega)
      have hd' : decide (k < l.length) = true := decide_eq_true hlt
      obtain ⟨lb, off, e0, g⟩ := (HV.out.below BB (Nat.le_refl _)).at 9 (by decide) Ac.cells_len k hlt
      subst e0
      have hxo := (HOK.out l[k] (List.getElem_mem hlt)).2
      obtain ⟨x, hx⟩ : ∃ x, l[k] = x := ⟨_, rfl⟩
      rw [hx] at g hxo
      clear hx
      have g0 := g 0 (by decide)
      have g2 := g 2 (by decide)
      have g3 := g 3 (by decide)
      have g4 := g 4 (by decide)
      have g5 := g 5 (by decide)
      have g6 := g 6 (by decide)
      have g7 := g 7 (by decide)
      have g8 := g 8 (by decide)
      simp only [Ac.cells, Nat.add_zero] at g0 g2 g3 g4 g5 g6 g7 g8
      clear g
      by_cases hdo : 1 < x.d
      · have t1 : decide ((1 : Int) < (x.d : Int)) = true := decide_eq_true (by omega)
        have t2 : decide (1 < x.d) = true := decide_eq_true hdo
        clear hdo
        have hln := qPut_len M x.c
        go_wp2_with fail
        refine (put_any _ _ vq M (by omega) x.c hxo wr q).mono ?_
        rintro e w2 ⟨v2, rfl, q2, m2⟩
        have BB2 := q.moved m2 BB (Nat.le_refl _) BB.size
        clear q m2 g0 g2 g3 g4 g5 g6 g7 g8 BB
        go_wp2_with fail
        go_roundw
        case rel => exact ⟨k + 1, v2, _, by omega, by go_num, by omega, q2, BB2⟩
        case measure => simp [intOf]; omega
      · have t1 : decide ((1 : Int) < (x.d : Int)) = false := decide_eq_false (by omega)
        have t2 : decide (1 < x.d) = false := decide_eq_false hdo
        clear hdo
        go_wp2_with fail
        go_roundw
        case rel => exact ⟨k + 1, vq, M, by omega, by go_num, by omega, q, BB⟩
        case measure => simp [intOf]; omega
    · have hd : decide ((k : Int) < (l.length : Int)) = false := decide_eq_false (by omega)
      have hd' : decide (k < l.length) = false := decide_eq_false hlt
      have hM2 : M.length ≤ 200 := by omega
      clear hlt hM hk
      go_wp2_with fail
      refine (all_any _ _ vq M (by omega) wr q).mono ?_
      rintro e w2 ⟨o2, rfl, h2, b2⟩
      have q2 := q.below b2
      have r2 : RdT Cm.cells w2 o2 M := RdT.owns h2
      have ap2 : Apart o2 vq := fresh_apart q.row (own_base h2)
      have n2 : some w0.heap.size ≠ o2.ownBlock := fun e => by have := own_base h2 _ e.symm; have := q.blk.lt; omega
      have B2 := Below.later BB b2 BB.size
      clear q h2 b2 BB
      go_wp2_with fail
      refine (qdone_any _ _ vq M (by omega) cl sq w2 q2).mono ?_
      rintro e w3 ⟨rfl, v3, q3, m3⟩
      have r3 := m3.rd r2 n2 ap2
      have B3 := q2.moved m3 B2 (Nat.le_refl _) B2.size
      clear q2 r2 ap2 n2 B2 m3
      obtain ⟨P, hP⟩ : ∃ P : Cm → Bool, (fun y : Cm => decide (y.cl = cl ∧ y.sq ≤ sq)) = P := ⟨_, rfl⟩
      have HPR := Lib.hid (fun x => congrFun hP x)
      have hqd : qDone M cl sq = M.filter (fun y => !P y) := by unfold qDone; rw [← hP]
      rw [hqd] at q3
      have HKN := Lib.hid (kept_next P M)
      have HKS := Lib.hid (kept_step P M)
      have HKE := Lib.hid (kept_end P M)
      have hFl := List.length_filter_le (fun y => !P y) M
      obtain ⟨F, hF⟩ : ∃ F, M.filter (fun y => !P y) = F := ⟨_, rfl⟩
      rw [hF] at q3 HKN HKE hFl
      clear hP hqd hF
      go_wp2_with fail
      refine (all_any _ _ v3 F (by omega) w3 q3).mono ?_
      rintro e w4 ⟨o4, rfl, h4, b4⟩
      have r4 : RdT Cm.cells w4 o4 F := RdT.owns h4
      have r5 := r3.later b4
      have B4 := Below.later B3 b4 B3.size
      clear r3 q3 b4 h4 B3
      obtain ⟨p5, c5, e5, _⟩ := r5.len
      obtain ⟨p4, c4, e4, _⟩ := r4.len
      subst e5
      subst e4
      have R5 := Lib.hid r5
      have R4 := Lib.hid r4
      clear r5 r4
      go_wp2_with fail
      go_loopw [11, 12] (fun ik ii wr => ∃ i a : Nat, i ≤ M.length ∧ ii = .int .i64 i ∧ ik = .int .i64 a ∧ RowKit.Hid (a = (kept P M i).length) ∧ Below w4.heap.size w4 wr) (fun _ ii _ => M.length - (intOf ii).toNat)
      case atStart => exact ⟨0, 0, Nat.zero_le _, rfl, rfl, Lib.hid (by simp [kept]), Below.refl _ _⟩
      case round =>
        obtain ⟨i, a, hi, rfl, rfl, ha, C⟩ := hrel
        by_cases hil : i < M.length
        · have hd2 : decide ((i : Int) < (M.length : Int)) = true := decide_eq_true (by omega)
          have hd2' : decide (i < M.length) = true := decide_eq_true hil
          obtain ⟨lb, off, e0, g⟩ := (R5.out.below C (Nat.le_refl _)).at 7 (by decide) Cm.cells_len i hil
          have gg : ∀ w', Below wr.heap.size wr w' → ∀ j, j < 7 → w'.cell? ⟨lb, off + i * 7 + j, none⟩ = (M[i]).cells[j]? := fun w' hb j hj => by
            obtain ⟨lb2, off2, e2, g2⟩ := ((R5.out.below C (Nat.le_refl _)).later hb).at 7 (by decide) Cm.cells_len i hil
            rw [e0] at e2
            cases e2
            exact g2 j hj
          subst e0
          have HS := Lib.hid (HKS.out i hil)
          have HKN2 := Lib.hid (HKN.out i hil)
          have hpx := HPR.out M[i]
          obtain ⟨x, hx⟩ : ∃ x, M[i] = x := ⟨_, rfl⟩
          rw [hx] at g gg hpx HS HKN2
          clear hx
          have g0 := g 0 (by decide)
          have g1 := g 1 (by decide)
          simp only [Cm.cells, Nat.add_zero] at g0 g1
          clear g
          cases hp : P x
          · have HPF := Lib.hid hp
            obtain ⟨hkl, hke⟩ := HKN2.out hp
            rw [← ha.out] at hkl
            have HKE2 : RowKit.Hid (F[a] = x) := Lib.hid (by
              have : ∀ b (hb : b < F.length) (e : a = b), F[a] = F[b] := fun b hb e => by subst e; rfl
              rw [this _ _ ha.out]; exact hke)
            rw [hp, if_neg (by simp)] at HS
            obtain ⟨l4, off4, e4, gf⟩ := (R4.out.below C (Nat.le_refl _)).at 7 (by decide) Cm.cells_len a hkl
            have gf2 : ∀ w', Below wr.heap.size wr w' → ∀ j, j < 7 → w'.cell? ⟨l4, off4 + a * 7 + j, none⟩ = (F[a]).cells[j]? := fun w' hb j hj => by
              obtain ⟨lb2, off2, e2, g2⟩ := ((R4.out.below C (Nat.le_refl _)).later hb).at 7 (by decide) Cm.cells_len a hkl
              rw [e4] at e2
              cases e2
              exact g2 j hj
            subst e4
            rw [HKE2.out] at gf2
            clear gf hke HKN2
            have dk : decide ((F.length : Int) ≤ (a : Int)) = false := decide_eq_false (by omega)
            have dk' : decide (F.length ≤ a) = false := decide_eq_false (by omega)
            have dk2 : decide ((a : Int) < (F.length : Int)) = true := decide_eq_true (by omega)
            have E := cm_neq x x false (by simp)
            have n0 := fun w' hb => gg w' hb 0 (by decide)
            have n1 := fun w' hb => gg w' hb 1 (by decide)
            have n2 := fun w' hb => gg w' hb 2 (by decide)
            have n3 := fun w' hb => gg w' hb 3 (by decide)
            have n4 := fun w' hb => gg w' hb 4 (by decide)
            have n5 := fun w' hb => gg w' hb 5 (by decide)
            have n6 := fun w' hb => gg w' hb 6 (by decide)
            have f0 := fun w' hb => gf2 w' hb 0 (by decide)
            have f1 := fun w' hb => gf2 w' hb 1 (by decide)
            have f2 := fun w' hb => gf2 w' hb 2 (by decide)
            have f3 := fun w' hb => gf2 w' hb 3 (by decide)
            have f4 := fun w' hb => gf2 w' hb 4 (by decide)
            have f5 := fun w' hb => gf2 w' hb 5 (by decide)
            have f6 := fun w' hb => gf2 w' hb 6 (by decide)
            simp only [Cm.cells, Nat.add_zero] at n0 n1 n2 n3 n4 n5 n6 f0 f1 f2 f3 f4 f5 f6
            clear gg gf2
            have B0 : Below wr.heap.size wr wr.drew := Below.drew (Below.refl _ _)
            have hxc := HPF.out
            rw [← hpx] at hxc
            by_cases e1 : x.cl = cl
            · have t1 : ((x.cl : Int) == (cl : Int)) = true := by simp [e1]
              have e2 : ¬ x.sq ≤ sq := fun h => by rw [decide_eq_true ⟨e1, h⟩] at hxc; cases hxc
              have t2 : decide ((x.sq : Int) ≤ (sq : Int)) = false := decide_eq_false (by omega)
              have t3 : decide (x.sq ≤ sq) = false := decide_eq_false e2
              clear hxc hpx e1 e2 hp
              go_wp2_with fail
              refine wp_region_ord (fun w' => Below wr.heap.size wr w') (0 :: 1 :: 2 :: 3 :: 4 :: 5 :: 6 :: 7 :: 8 :: 9 :: 10 :: 11 :: 12 :: 13 :: 14 :: []) [] (by kernel_rfl) (by kernel_rfl) (by intro c d v a w h; cases d <;> exact h) B0 ?_
              repeat (first
                | (refine wpOrd_take (v := ?_) rfl rfl ?_ ?_ ?_; rotate_left; rfl; (· intro w' hSw; (try dsimp only at hSw); go_simp <;> with_reducible rfl); simp only [Act.put, List.setIfInBounds_toArray, List.set_cons_zero, List.set_cons_succ])
                | (refine wpOrd_skip rfl rfl ?_ ?_; rfl; simp only [Act.put, List.setIfInBounds_toArray, List.set_cons_zero, List.set_cons_succ]))
              refine wpOrd_nil ?_
              go_wp2_with fail
              go_roundw
              case rel => exact ⟨i + 1, a + 1, by omega, by go_num, by go_num, Lib.hid (by rw [HS.out, List.length_append, ← ha.out]; rfl), C.drew⟩
              case measure => simp [intOf]; omega
            · have t1 : ((x.cl : Int) == (cl : Int)) = false := by rw [beq_nat]; exact decide_eq_false e1
              clear hxc hpx e1 hp
              go_wp2_with fail
              refine wp_region_ord (fun w' => Below wr.heap.size wr w') (0 :: 1 :: 2 :: 3 :: 4 :: 5 :: 6 :: 7 :: 8 :: 9 :: 10 :: 11 :: 12 :: 13 :: 14 :: []) [] (by kernel_rfl) (by kernel_rfl) (by intro c d v a w h; cases d <;> exact h) B0 ?_
              repeat (first
                | (refine wpOrd_take (v := ?_) rfl rfl ?_ ?_ ?_; rotate_left; rfl; (· intro w' hSw; (try dsimp only at hSw); go_simp <;> with_reducible rfl); simp only [Act.put, List.setIfInBounds_toArray, List.set_cons_zero, List.set_cons_succ])
                | (refine wpOrd_skip rfl rfl ?_ ?_; rfl; simp only [Act.put, List.setIfInBounds_toArray, List.set_cons_zero, List.set_cons_succ]))
              refine wpOrd_nil ?_
              go_wp2_with fail
              go_roundw
              case rel => exact ⟨i + 1, a + 1, by omega, by go_num, by go_num, Lib.hid (by rw [HS.out, List.length_append, ← ha.out]; rfl), C.drew⟩
              case measure => simp [intOf]; omega
          · rw [hp, if_pos rfl, List.append_nil] at HS
            have hxc := hpx.trans hp
            have e3 := of_decide_eq_true hxc
            have t1 : ((x.cl : Int) == (cl : Int)) = true := by simp [e3.1]
            have t2 : decide ((x.sq : Int) ≤ (sq : Int)) = true := decide_eq_true (by omega)
            have t3 : decide (x.sq ≤ sq) = true := decide_eq_true e3.2
            clear hxc hpx hp e3 HKN2 gg
            go_wp2_with fail
            go_roundw
            case rel => exact ⟨i + 1, a, by omega, by go_num, rfl, Lib.hid (by rw [HS.out]; exact ha.out), C⟩
            case measure => simp [intOf]; omega
        · have hd2 : decide ((i : Int) < (M.length : Int)) = false := decide_eq_false (by omega)
          have hd2' : decide (i < M.length) = false := decide_eq_false hil
          have hae : a = F.length := by
            have e : i = M.length := by omega
            rw [ha.out, e, HKE.out]
          have t1 : ((a : Int) == (F.length : Int)) = true := by simp [hae]
          clear hae
          go_wp2_with fail
          refine (wakes_any _).mono ?_
          rintro e w5 ⟨rfl, b5⟩
          go_wp2
          go_ret
          exact ⟨rfl, Below.later' b0 (B4.trans ((Below.later' C b5).mono B4.size))⟩
set_option maxRecDepth 100000 in
theorem done_great (v : Value) (l : List Ac) (cl sq : Nat) (w : World) (hv : RdT Ac.cells w v l) (hg : greatA l = true) :
    Calls Try.prog 6 #[v, .int .u8 cl, .int .u32 sq] w fun e w' => e = .returned (.bool true) ∧ Below w.heap.size w w' := by
  have HV := Lib.hid hv
  obtain ⟨p, cap, rfl, _⟩ := hv.len
  clear hv
  go_enter Try.func6, Try.ntmps6
  go_wp2_with fail
  refine (great_any _ l w HV.out).mono ?_
  rintro e w0 ⟨rfl, b0⟩
  rw [hg]
  go_wp2_with fail
  refine (wakes_any _).mono ?_
  rintro e w5 ⟨rfl, b5⟩
  go_wp2
  go_ret
  exact ⟨rfl, Below.later' b0 b5⟩
theorem done_law {H : Type} {enc : TypeId × Value → H} {base : Nat} {d : DataW H} {ps : List MemPlace} (v : Value) (c s : Int) (w : World)
    (hok : Value.okWide Try.prog w .any base 22 v) (ht : DataW.Trod enc Try.prog w 0 (fun _ => true) true 22 v d ps) (hc : (Lit.int .u8 c).wf = true) (hs : (Lit.int .u32 s).wf = true) :
    Calls Try.prog 6 #[v, .int .u8 c, .int .u32 s] w fun e w' => e = .returned (.bool true) ∧ Below w.heap.size w w' := by
  obtain ⟨l, hl, ho⟩ := open_acts hok ht
  obtain ⟨hc0, _⟩ := bounds_u8 hc
  obtain ⟨hs0, _⟩ := bounds_u32 hs
  obtain ⟨C, rfl⟩ := Int.eq_ofNat_of_zero_le hc0
  obtain ⟨S, rfl⟩ := Int.eq_ofNat_of_zero_le hs0
  cases hg : greatA l
  · exact done_walk v l ho C S w hl hg
  · exact done_great v l C S w hl hg
end Bat
end Go.Proofs.Ytcfcikpehekfbaa
