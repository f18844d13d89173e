/-
  Seat 07: the law BallotBack, walked.
-/
import Derived.Test.YteaegdigkdghpaaBalTurns
import Derived.Test.YteaegdigkdghpaaBalTake
import Derived.Test.YteaegdigkdghpaaApart
namespace Go.Proofs.Yteaegdigkdghpaa
open Go.RowKit Go.WideShapes
namespace Bal
open Wire
theorem neq_bal (n r m s : Int) (f : Bool) (h : f = !(n == m && r == s)) (w : World) : (binOp .neq 25 (.agg #[.int .u64 n, .int .u8 r]) (.agg #[.int .u64 m, .int .u8 s])).run Try.prog w = .ok (.bool f) w := by
  have H := Lib.hid h
  clear h
  go_simp
  by_cases h1 : n = m
  · by_cases h2 : r = s
    · rw [if_pos h1, if_pos h2, H.out]; simp [h1, h2]
    · rw [if_pos h1, if_neg h2, H.out]; simp [h1, h2]
  · rw [if_neg h1, H.out]; simp [h1]
def balsB (l : List B) : List UInt8 := l.flatMap balB
theorem balsB_le (l : List B) : (balsB l).length ≤ 10 * l.length := by
  unfold balsB
  induction l with
  | nil => simp
  | cons x l ih => rw [List.flatMap_cons, List.length_append, List.length_cons]; have := balB_le x; omega
def good (l : List B) (k : Nat) : List B := (l.take k).filter mayB
theorem good_step (l : List B) (k : Nat) (h : k < l.length) : good l (k + 1) = good l k ++ if mayB l[k] = true then [l[k]] else [] := by
  unfold good
  rw [List.take_succ_eq_append_getElem h, List.filter_append]
  by_cases g : mayB l[k] = true
  · rw [if_pos g]; simp [g]
  · rw [if_neg g]; simp [g]
theorem good_len (l : List B) (k : Nat) : (good l k).length ≤ k := by
  unfold good
  have := List.length_filter_le mayB (l.take k)
  have := List.length_take_le k l
  omega
set_option maxRecDepth 100000 in
set_option maxHeartbeats 8000000 in
theorem back_walk (v : Value) (l : List B) (hok : ∀ b ∈ l, b.ok) (w : World) (hv : RdT bV w v l) (hlen : ¬ 60 < l.length) :
    Calls Try.prog 7 #[v] w fun e w' => e = .returned (.bool true) ∧ Below w.heap.size w w' := by
  have HV := Lib.hid hv
  obtain ⟨p, cap, rfl, _⟩ := hv.len
  clear hv
  have d1 : decide (60 < l.length) = false := decide_eq_false hlen
  have d1' : decide ((60 : Int) < (l.length : Int)) = false := decide_eq_false (by omega)
  have HOK := Lib.hid hok
  clear hok
  go_enter Try.func7, Try.ntmps7
  go_wp2_with fail
  go_loopw [3, 4, 5] (fun t u i wr => ∃ (k : Nat) (ps : List B), k ≤ l.length ∧ i = .int .i64 k ∧ ps.length ≤ k ∧ (∀ b ∈ ps, b.ok ∧ mayB b = true) ∧ wr.ownsRow w.heap.size 5 1 t (balsB ps).length (by8 (balsB ps)) ∧ wr.ownsRow w.heap.size 25 2 u ps.length (ps.flatMap bV) ∧ Apart u t ∧ Below w.heap.size w wr) (fun _ _ i _ => l.length - (intOf i).toNat)
  case atStart => exact ⟨0, [], Nat.zero_le _, rfl, Nat.le_refl _, by simp, own_nil _ _, ⟨rfl, .inl ⟨rfl, rfl⟩⟩, apart_nil _ _ _, Below.refl _ _⟩
  case round =>
    obtain ⟨k, ps, hk, rfl, hpl, hps, hob, hop, hap, hB⟩ := hrel
    have HPS := Lib.hid hps
    clear hps
    have hle := balsB_le ps
    by_cases hlt : k < l.length
    · have hd : decide ((k : Int) < (l.length : Int)) = true := decide_eq_true (by omega)
      obtain ⟨lb, off, rfl, _⟩ := HV.out.at 2 (by decide) bV_len k hlt
      have g : ∀ w', Below w.heap.size w w' → ∀ j, j < 2 → w'.cell? ⟨lb, off + k * 2 + j, none⟩ = (bV l[k])[j]? := fun w' hb' => by
        obtain ⟨b', off', e, h⟩ := (HV.out.below hb' (Nat.le_refl _)).at 2 (by decide) bV_len k hlt
        cases e; exact h
      have hxo := HOK.out l[k] (List.getElem_mem hlt)
      generalize l[k] = x at g hxo
      have g0 := fun w' hb' => g w' hb' 0 (by decide)
      have g1 := fun w' hb' => g w' hb' 1 (by decide)
      simp only [bV, Nat.add_zero] at g0 g1
      clear g
      have c0 := g0 _ hB
      have c1 := g1 _ hB
      cases hm : mayB x
      · have hchk : chkB x = 2 := by unfold chkB; rw [if_neg (by simp [hm])]
        have HCK := Lib.hid hchk
        clear hm hchk
        go_wp2_with fail
        refine (check_any x _).mono ?_
        rintro e w1 ⟨rfl, b1⟩
        rw [HCK.out]
        go_wp2
        go_roundw
        case rel => exact ⟨k + 1, ps, by omega, by go_num, by omega, HPS.out, ownsRow_below hob b1, ownsRow_below hop b1, hap, Below.later' hB b1⟩
        case measure => simp [intOf]; omega
      · have hchk : chkB x = 0 := by unfold chkB; rw [if_pos hm]
        have HCK := Lib.hid hchk
        have HM := Lib.hid hm
        clear hm hchk
        go_wp2_with fail
        refine (check_any x _).mono ?_
        rintro e w1 ⟨rfl, b1⟩
        rw [HCK.out]
        have hob1 := ownsRow_below hob b1
        have hop1 := ownsRow_below hop b1
        have hB1 := Below.later' hB b1
        have e0 := g0 _ hB1
        have e1 := g1 _ hB1
        clear hob hop hB b1 c0 c1
        go_wp2_with fail
        refine (put_any w.heap.size u3 _ _ x hxo _ hob1 (by omega) hB1.size).mono ?_
        rintro e w2 ⟨v2, rfl, hob2, gr2⟩
        have hop2 := gr2.keeps hop1 hap
        have hap2 := gr2.apart hop1 hap
        have hB2 := gr2.below hB1 hB1.size (fun c hc => (hob1.lt c hc).1)
        have q0 := g0 _ hB2
        have q1 := g1 _ hB2
        have z2 := hB2.size
        clear hob1 hop1 hB1 e0 e1 g0 g1
        go_wp2_with (at_builtin; go_loud (refine appSt rfl _ _ 22 rfl w.heap.size 25 (.agg #[.int .u64 0, .int .u8 0]) 2 16 infoB Try.underlying22 rfl (by decide) _ #[.int .u64 x.n, .int .u8 x.r] _ rfl (by intro u hu; simp at hu; rcases hu with rfl | rfl <;> rfl) _ ps.length (ps.flatMap bV) hop2 rfl _ (by simp) rfl (by omega) (by omega) z2 ?_; intro v' w3 ho3 gr3))
        have hob3 := gr3.keeps hob2 hap2.symm
        have hap3 := (gr3.apart hob2 hap2.symm).symm
        have hB3 := gr3.below hB2 z2 (fun c hc => (hop2.lt c hc).1)
        go_roundw
        case rel => exact ⟨k + 1, ps ++ [x], by omega, by go_num, by simp; omega, fun b hb => by
            rcases List.mem_append.1 hb with h | h
            · exact HPS.out b h
            · have e : b = x := by simpa using h
              rw [e]; exact ⟨hxo, HM.out⟩, by
            have e : balsB (ps ++ [x]) = balsB ps ++ balB x := by unfold balsB; rw [List.flatMap_append]; simp
            rw [e, by8_append, List.length_append]; exact hob3, by rw [List.length_append, List.flatMap_append]; exact ho3, hap3, hB3⟩
        case measure => simp [intOf]; omega
    · have hd : decide ((k : Int) < (l.length : Int)) = false := decide_eq_false (by omega)
      have hd' : decide (k < l.length) = false := decide_eq_false hlt
      have tx := own_text hob
      have hrd := RdT.owns hop
      obtain ⟨pb, capb, hvb, _⟩ := RdV.owns hob
      obtain ⟨pp, capp, hvp, _⟩ := RdV.owns hop
      rw [hvb] at tx ⊢
      rw [hvp] at hrd ⊢
      have HRD := Lib.hid hrd
      have hp60 : ps.length ≤ 60 := by omega
      clear hob hop hap hvb hvp hrd hlt hk
      obtain ⟨wo, rfl⟩ : ∃ wo : World, wo = wr := ⟨_, rfl⟩
      go_wp2_with fail
      refine (Wire.of_any (balsB ps) wo).mono ?_
      rintro e w1 ⟨br, rfl, hbr, b1, hr1⟩
      clear tx
      go_wp2_with fail
      go_loopw [7] (fun i wr => ∃ k2 : Nat, k2 ≤ ps.length ∧ i = .int .i64 k2 ∧ Rdr wr br ⟨balsB (ps.drop k2), 0⟩ ∧ Below wo.heap.size wo wr) (fun i _ => ps.length - (intOf i).toNat)
      case atStart => exact ⟨0, Nat.zero_le _, rfl, hr1, b1⟩
      case round =>
        clear hr1 b1
        obtain ⟨k2, hk2, rfl, hr, BI⟩ := hrel
        by_cases hl2 : k2 < ps.length
        · have hd2 : decide ((k2 : Int) < (ps.length : Int)) = true := decide_eq_true (by omega)
          obtain ⟨tb, toff, rfl, _⟩ := HRD.out.at 2 (by decide) bV_len k2 hl2
          have gt : ∀ w', Below wo.heap.size wo w' → ∀ j, j < 2 → w'.cell? ⟨tb, toff + k2 * 2 + j, none⟩ = (bV ps[k2])[j]? := fun w' hb' => by
            obtain ⟨b', off', e, h⟩ := (HRD.out.below hb' (Nat.le_refl _)).at 2 (by decide) bV_len k2 hl2
            cases e; exact h
          have hxp := HPS.out ps[k2] (List.getElem_mem hl2)
          have hX : balsB (ps.drop k2) = balB ps[k2] ++ balsB (ps.drop (k2 + 1)) := by rw [List.drop_eq_getElem_cons hl2]; rfl
          rw [hX] at hr
          clear hX
          obtain ⟨t, ht⟩ : ∃ t, ps[k2] = t := ⟨_, rfl⟩
          rw [ht] at gt hr hxp
          clear ht
          have g0 := fun w' hb' => gt w' hb' 0 (by decide)
          have g1 := fun w' hb' => gt w' hb' 1 (by decide)
          simp only [bV, Nat.add_zero] at g0 g1
          clear gt
          have hle2 := balsB_le (ps.drop (k2 + 1))
          have hdl : (ps.drop (k2 + 1)).length ≤ 60 := by simp; omega
          have hbt := balB_le t
          have HTK := Lib.hid (takeB_balB t hxp.1 hxp.2 (balsB (ps.drop (k2 + 1))))
          have q := fun w => neq_bal t.n t.r t.n t.r false (by simp) w
          have B0 := BI.drew
          go_wp2_with fail
          refine wp_region_ord (fun w' => Below wo.heap.size wo w') (0 :: 2 :: 3 :: 4 :: 5 :: 1 :: 6 :: []) [1] (by kernel_rfl) (by kernel_rfl) (by intro c d v a w h; cases d <;> exact h) B0 ?_
          repeat (first
            | (refine wpOrd_take (v := ?_) rfl rfl ?_ ?_ ?_; rotate_left; rfl; (· intro w' hSw; (try dsimp only at hSw); go_simp <;> with_reducible rfl); simp only [Act.put, List.setIfInBounds_toArray, List.set_cons_zero, List.set_cons_succ])
            | (refine wpOrd_skip rfl rfl ?_ ?_; rfl; simp only [Act.put, List.setIfInBounds_toArray, List.set_cons_zero, List.set_cons_succ]))
          refine wpOrd_eff rfl rfl (fun K hK => ?_)
          go_wp2_with fail
          refine (take_of br _ _ (Blk.drew hr) (by simp only [List.length_append]; omega)).mono ?_
          rintro e x1 ⟨rfl, ga, hra⟩
          rw [HTK.out] at hra ⊢
          have Ba := Below.grew B0 ga B0.size hbr
          go_wp2_with fail
          refine hK.out _ _ Ba ?_
          clear hK K
          repeat (first
            | (refine wpOrd_take (v := ?_) rfl rfl ?_ ?_ ?_; rotate_left; rfl; (· intro w' hSw; (try dsimp only at hSw); go_simp <;> with_reducible rfl); simp only [Act.put, List.setIfInBounds_toArray, List.set_cons_zero, List.set_cons_succ])
            | (refine wpOrd_skip rfl rfl ?_ ?_; rfl; simp only [Act.put, List.setIfInBounds_toArray, List.set_cons_zero, List.set_cons_succ]))
          refine wpOrd_nil ?_
          go_wp2
          go_roundw
          case rel => exact ⟨k2 + 1, by omega, by go_num, hra, Ba⟩
          case measure => simp [intOf]; omega
        · have hd2 : decide ((k2 : Int) < (ps.length : Int)) = false := decide_eq_false (by omega)
          rw [List.drop_of_length_le (by omega)] at hr
          have HE := Lib.hid (show endR ⟨balsB [], 0⟩ = ⟨[], 0⟩ from rfl)
          go_wp2_with fail
          refine (end_of br _ _ hr).mono ?_
          rintro e x1 ⟨rfl, ga, _⟩
          rw [HE.out]
          have Ba := hB.trans ((Below.grew BI ga BI.size hbr).mono hB.size)
          go_wp2_with fail
          refine (wakes_any _).mono ?_
          rintro e x2 ⟨rfl, b2⟩
          go_wp2
          go_ret
          exact ⟨rfl, Below.later' Ba b2⟩
set_option maxRecDepth 100000 in
theorem back_long (v : Value) (l : List B) (w : World) (hv : RdT bV w v l) (hlen : 60 < l.length) :
    Calls Try.prog 7 #[v] w fun e w' => e = .returned (.bool true) ∧ Below w.heap.size w w' := by
  obtain ⟨p, cap, rfl, _⟩ := hv.len
  clear hv
  have d1 : decide (60 < l.length) = true := decide_eq_true hlen
  have d1' : decide ((60 : Int) < (l.length : Int)) = true := decide_eq_true (by omega)
  go_enter Try.func7, Try.ntmps7
  go_wp2_with fail
  refine (wakes_any _).mono ?_
  rintro e w1 ⟨rfl, hb⟩
  go_wp2
  go_ret
  exact ⟨rfl, hb⟩
theorem back_open {H : Type} {enc : TypeId × Value → H} {base : Nat} {d0 : DataW H} {p0 : List MemPlace} (v : Value) (w : World)
    (h3 : Value.okWide Try.prog w .any base 22 v) (t3 : DataW.Trod enc Try.prog w 0 (fun _ => true) true 22 v d0 p0) :
    Calls Try.prog 7 #[v] w fun e w' => e = .returned (.bool true) ∧ Below w.heap.size w w' := by
  obtain ⟨l, hl, hx⟩ := open_bals h3 t3
  by_cases h : 60 < l.length
  · exact back_long v l w hl h
  · exact back_walk v l hx w hl h
end Bal
end Go.Proofs.Yteaegdigkdghpaa
