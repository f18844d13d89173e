/-
  Seat 01: the law WireBack, walked.
-/
import Derived.Deep.RegionHeld3
import Derived.Deep.DeepCutAuto
import Derived.BigGuard
import Derived.BigCall
import Derived.Test.YteilmkknedgmpaaWireBackPure
import Derived.Test.YteilmkknedgmpaaWireRef
import Derived.Test.YteilmkknedgmpaaElem
import Derived.Test.YteilmkknedgmpaaOrd
namespace Go.Proofs.Yteilmkknedgmpaa
open Go.RowKit
namespace Wire
def itV (x : It) : List Value := [.bool x.text, .int .u64 x.n, .string (bs x.s)]
theorem itV_len (x : It) : (itV x).length = 3 := rfl
theorem str_item (b : Nat) (x : It) (r : List UInt8) (hx : x.s.length ≤ 100) (hr : r.length ≤ 1000000000) (w : World) (h : Rdr w b ⟨strB x.s ++ r, 0⟩) :
    Calls Try.prog 15 #[rp b, .int .i64 100] w (Reads w b (.string (bs x.s)) ⟨r, 0⟩) := by
  have h1 := str_any b _ 100 (by decide) w h (by simp only [List.length_append, strB_length]; have := numB_le x.s.length; omega)
  rw [show (100 : Int).toNat = 100 from rfl, strR_strB x.s r 100 hx (by omega)] at h1
  exact h1
theorem num_item (b : Nat) (n : Nat) (hn : n < 18446744073709551616) (r : List UInt8) (hr : r.length ≤ 1000000000) (w : World) (h : Rdr w b ⟨numB n ++ r, 0⟩) :
    Calls Try.prog 16 #[rp b] w (Reads w b (.int .u64 n) ⟨r, 0⟩) := by
  have h1 := num_of b _ w h (by simp only [List.length_append]; have := numB_le n; omega)
  rw [numR_numB n hn r] at h1
  exact h1
theorem own_form {w : World} {base : Nat} {e : TypeId} {size : Nat} {v : Value} {n : Nat} {xs : List Value} (h : w.ownsRow base e size v n xs) (hx : 0 < n) : ∃ g cap, v = .slice (some ⟨g, 0, none⟩) n cap ∧ n ≤ cap := by
  rcases h.2 with ⟨_, h2⟩ | ⟨g, cap, cur, rfl, _, hg, hn, hm, _, htake⟩
  · omega
  · exact ⟨g, cap, rfl, hn⟩
theorem RdV.take {w : World} {p : Option Addr} {n cap : Nat} {xs : List Value} (h : RdV w (.slice p n cap) n xs) {m : Nat} (hm : m ≤ n) : RdV w (.slice p m cap) m (xs.take m) := by
  obtain ⟨p', cap', e, hn, hc, h0⟩ := h
  cases e
  refine ⟨p, cap, rfl, by omega, fun j u hj => ?_, fun hp => ⟨(h0 hp).1, by have := (h0 hp).2; omega⟩⟩
  by_cases hjm : j < m
  · rw [List.getElem?_take_of_lt hjm] at hj; exact hc j u hj
  · rw [List.getElem?_take_eq_none (by omega)] at hj; cases hj
set_option maxRecDepth 100000 in
set_option maxHeartbeats 4000000 in
theorem back_walk (v : Value) (l : List It) (c : UInt8) (w : World) (hv : RdT itV w v l) (hok : ∀ x ∈ l, x.n < 18446744073709551616) (hlen : ¬ 60 < l.length) :
    Calls Try.prog 4 #[v, .int .u8 c.toNat] w fun e w' => e = .returned (.bool true) ∧ Below w.heap.size w w' := by
  have HV := Lib.hid hv
  obtain ⟨p, cap, rfl, _⟩ := hv.len
  clear hv
  have d1 : decide (60 < l.length) = false := by simp; omega
  have d1' : decide ((60 : Int) < (l.length : Int)) = false := by simp; omega
  have HOK := Lib.hid hok
  clear hok
  go_enter Try.func4, Try.ntmps4
  go_wp2_with fail
  go_loopw [5, 6] (fun b i wr => ∃ k : Nat, k ≤ l.length ∧ i = .int .i64 k ∧ (∀ x ∈ l.take k, x.s.length ≤ 100) ∧ wr.ownsRow w.heap.size 5 1 b (itsB (l.take k)).length (by8 (itsB (l.take k))) ∧ Below w.heap.size w wr) (fun _ i _ => l.length - (intOf i).toNat)
  case atStart => exact ⟨0, Nat.zero_le _, rfl, by simp, own_nil _ _, Below.refl _ _⟩
  case round =>
    obtain ⟨k, hk, rfl, hs, hown, hB⟩ := hrel
    have hz := hB.size
    have HS := Lib.hid hs
    clear hs
    by_cases hlt : k < l.length
    · have hd : decide ((k : Int) < (l.length : Int)) = true := by simp; omega
      have hd' : decide (k < l.length) = true := by simp; omega
      obtain ⟨b, off, rfl, hc⟩ := (HV.out.below hB (Nat.le_refl _)).at 3 (by decide) itV_len k hlt
      have c0 := hc 0 (by decide)
      have c1 := hc 1 (by decide)
      have c2 := hc 2 (by decide)
      simp only [Nat.add_zero] at c0
      clear hc
      have hX := Lib.hid (show itsB (l.take (k + 1)) = itsB (l.take k) ++ itB l[k] from itsB_take l k hlt)
      have hM := Lib.hid (show ∀ x ∈ l.take (k + 1), x ∈ l.take k ∨ x = l[k] by
        intro x hx; rw [List.take_succ_eq_append_getElem hlt, List.mem_append, List.mem_singleton] at hx; exact hx)
      have hn := HOK.out l[k] (List.getElem_mem hlt)
      have hle := itsB_le (l.take k) HS.out
      have hlk : (l.take k).length ≤ 60 := by simp; omega
      generalize l[k] = x at c0 c1 c2 hX hM hn
      simp only [itV] at c0 c1 c2
      have hsz := bs_size x.s
      by_cases hlong : 100 < x.s.length
      · have t1 : decide (100 < x.s.length) = true := by simp; omega
        have t1' : decide ((100 : Int) < (x.s.length : Int)) = true := by simp; omega
        go_wp2_with fail
        refine (wakes_any wr).mono ?_
        rintro e w1 ⟨rfl, hb⟩
        go_wp2
        go_ret
        exact ⟨rfl, Below.later' hB hb⟩
      · have t1 : decide (100 < x.s.length) = false := by simp; omega
        have t1' : decide ((100 : Int) < (x.s.length : Int)) = false := by simp; omega
        have HS2 := Lib.hid (show ∀ y ∈ l.take (k + 1), y.s.length ≤ 100 from fun y hy => by
          rcases hM.out y hy with h | h
          · exact HS.out y h
          · subst h; omega)
        have hb0 : ∀ b', u5.ownBlock = some b' → w.heap.size ≤ b' := fun b' hb' => (hown.lt b' hb').1
        clear hM
        cases ht : x.text
        · have HI := Lib.hid (show itB x = numB x.n by unfold itB; rw [if_neg (by simp [ht])])
          rw [ht] at c0
          go_wp2_with fail
          refine (num_any w.heap.size _ _ _ x.n hn wr hown (by omega) hz).mono ?_
          rintro e w1 ⟨v', rfl, hown1, hg1⟩
          go_wp2
          go_roundw
          case rel => exact ⟨k + 1, by omega, by go_num, HS2.out, by rw [hX.out, HI.out, by8_append, List.length_append]; exact hown1, hg1.below hB hz hb0⟩
          case measure => simp [intOf]; omega
        · have HI := Lib.hid (show itB x = strB x.s by unfold itB; rw [if_pos ht])
          rw [ht] at c0
          go_wp2_with fail
          refine (str_put w.heap.size _ _ _ x.s (by omega) wr hown (by omega) hz).mono ?_
          rintro e w1 ⟨v', rfl, hown1, hg1⟩
          go_wp2
          go_roundw
          case rel => exact ⟨k + 1, by omega, by go_num, HS2.out, by rw [hX.out, HI.out, by8_append, List.length_append]; exact hown1, hg1.below hB hz hb0⟩
          case measure => simp [intOf]; omega
    · have hd : decide ((k : Int) < (l.length : Int)) = false := by simp; omega
      have hd' : decide (k < l.length) = false := by simp; omega
      obtain rfl : k = l.length := by omega
      rw [List.take_length] at HS hown
      have hge := itsB_ge l
      have hle := itsB_le l HS.out
      have t2 : decide ((itsB l).length < l.length) = false := by simp; omega
      have t2' : decide (((itsB l).length : Int) < (l.length : Int)) = false := by simp; omega
      have tx := own_text hown
      obtain ⟨pb, capb, hvb, _⟩ := RdV.owns hown
      rw [hvb]
      rw [hvb] at tx
      have HO := Lib.hid hown
      clear hown hd hd' hk hlt
      obtain ⟨wo, rfl⟩ : ∃ wo : World, wo = wr := ⟨_, rfl⟩
      go_wp2_with fail
      refine (of_any (itsB l) wo).mono ?_
      rintro e w1 ⟨br, rfl, hbr, hB1, hr1⟩
      have hown1 := ownsRow_below HO.out hB1
      have tx1 := own_text hown1
      rw [hvb] at tx1
      have tc := own_text (w := w1.alloc (.cells #[.int .u8 (c.toNat : Int)] 5)) (l := [c]) (own_one (Blk.new w1 _) (Nat.zero_le _))
      have cat := bs_append (itsB l) [c]
      have s1 := bs_size (itsB l)
      have s2 := bs_size [c]
      have q1 : ¬ 9223372036854775807 < (itsB l).length + 1 := by omega
      clear tx
      go_wp2_with fail
      refine (of_any (itsB l ++ [c]) _).mono ?_
      rintro e w2 ⟨bm, rfl, hbm, hB2, hm2⟩
      have hr2 : Rdr w2 br ⟨itsB l, 0⟩ := Blk.later (Blk.alloc hr1 _) hB2
      have hW : Below wo.heap.size wo w2 := (hB1.alloc hB1.size _).trans (hB2.mono (by simp; have := hB1.size; omega))
      have hne : br ≠ bm := by have := Blk.lt hr1; simp at hbm; omega
      have hbm' : wo.heap.size ≤ bm := by have := hB1.size; simp at hbm; omega
      have HV2 := Lib.hid (HV.out.below hB (Nat.le_refl _))
      have ho2 := Lib.hid (ownsRow_below (ownsRow_below hown1 (below1 w1 _)) hB2)
      clear hown1 tx1 tc cat s1 s2 q1 hB1 hr1 hB2 hbm
      go_wp2_with fail
      go_loopw [9] (fun i wx => ∃ k : Nat, k ≤ l.length ∧ i = .int .i64 k ∧ Rdr wx br ⟨itsB (l.drop k), 0⟩ ∧ Rdr wx bm ⟨itsB (l.drop k) ++ [c], 0⟩ ∧ Below wo.heap.size wo wx) (fun i _ => l.length - (intOf i).toNat)
      case atStart => exact ⟨0, Nat.zero_le _, rfl, hr2, hm2, hW⟩
      case round =>
        clear hr2 hm2 hW
        obtain ⟨k, hk, rfl, hr, hm, hW⟩ := hrel
        by_cases hlt : k < l.length
        · have hd : decide ((k : Int) < (l.length : Int)) = true := by simp; omega
          have hd' : decide (k < l.length) = true := by simp; omega
          obtain ⟨b, off, rfl, _⟩ := HV2.out.at 3 (by decide) itV_len k hlt
          have g : ∀ w', Below wo.heap.size wo w' → ∀ j, j < 3 → w'.cell? ⟨b, off + k * 3 + j, none⟩ = (itV l[k])[j]? := fun w' hb' => by
            obtain ⟨b', off', e, h⟩ := (HV2.out.below hb' (Nat.le_refl _)).at 3 (by decide) itV_len k hlt
            cases e; exact h
          have hX := itsB_drop l k hlt
          rw [hX] at hr hm
          rw [List.append_assoc] at hm
          have hxs := HS.out l[k] (List.getElem_mem hlt)
          have hxn := HOK.out l[k] (List.getElem_mem hlt)
          have hle2 := itsB_le (l.drop (k + 1)) (fun y hy => HS.out y (List.mem_of_mem_drop hy))
          have hlk : (l.drop (k + 1)).length ≤ 60 := by simp; omega
          clear hX
          generalize l[k] = x at g hr hm hxs hxn
          obtain ⟨rest, hre⟩ : ∃ rest, itsB (l.drop (k + 1)) = rest := ⟨_, rfl⟩
          rw [hre] at hr hm hle2
          have HR := Lib.hid hre
          clear hre
          have g0 := fun w' hb' => g w' hb' 0 (by decide)
          have g1 := fun w' hb' => g w' hb' 1 (by decide)
          have g2 := fun w' hb' => g w' hb' 2 (by decide)
          simp only [itV, Nat.add_zero] at g0 g1 g2
          clear g
          cases ht : x.text
          · have HI := Lib.hid (show itB x = numB x.n by unfold itB; rw [if_neg (by simp [ht])])
            rw [ht] at g0
            rw [HI.out] at hr hm
            have e1 : ((x.n : Int) != (x.n : Int)) = false := by simp
            have e2 : (x.n != x.n) = false := by simp
            clear ht HI
            go_upto_region 19 with (fail)
            refine wp_region_ord (fun w' => Below wo.heap.size wo w') (0 :: 1 :: 2 :: 3 :: 4 :: 5 :: 6 :: 7 :: 8 :: 9 :: 10 :: 11 :: 12 :: 13 :: 14 :: 15 :: 16 :: 17 :: 18 :: 19 :: 20 :: 21 :: 22 :: 23 :: 24 :: 25 :: 26 :: 27 :: 28 :: 29 :: 30 :: 31 :: 32 :: 33 :: 35 :: 36 :: 37 :: 38 :: 39 :: 34 :: 40 :: 41 :: 42 :: 44 :: 45 :: 46 :: 47 :: 48 :: 43 :: 49 :: 50 :: 51 :: 52 :: []) [34, 43] (by kernel_rfl) (by kernel_rfl) (by intro c d v a w h; cases d <;> exact h) (Below.drew hW) ?_
            repeat (first
              | (refine wpOrd_take (v := ?_) rfl rfl ?_ ?_ ?_; rotate_left; rfl; (· intro w' hSw; (try dsimp only at hSw); go_simp <;> with_reducible rfl); simp only [Act.put, List.setIfInBounds_toArray, List.set_cons_zero, List.set_cons_succ])
              | (refine wpOrd_skip rfl rfl ?_ ?_; rfl; simp only [Act.put, List.setIfInBounds_toArray, List.set_cons_zero, List.set_cons_succ]))
            refine wpOrd_eff rfl rfl (fun K hK => ?_)
            go_wp2_with fail
            refine (num_item br x.n hxn _ (by omega) _ (Blk.drew hr)).mono ?_
            rintro e wa ⟨rfl, ga, hra⟩
            have hma : Rdr wa bm _ := Blk.grown (Blk.drew hm) ga (by simp; omega)
            have hWa := Below.grew (Below.drew hW) ga (by have := hW.size; simp; omega) hbr
            go_wp2_with fail
            refine hK.out _ _ hWa ?_
            clear hK K
            repeat (first
              | (refine wpOrd_take (v := ?_) rfl rfl ?_ ?_ ?_; rotate_left; rfl; (· intro w' hSw; (try dsimp only at hSw); go_simp <;> with_reducible rfl); simp only [Act.put, List.setIfInBounds_toArray, List.set_cons_zero, List.set_cons_succ])
              | (refine wpOrd_skip rfl rfl ?_ ?_; rfl; simp only [Act.put, List.setIfInBounds_toArray, List.set_cons_zero, List.set_cons_succ]))
            refine wpOrd_eff rfl rfl (fun K hK => ?_)
            go_wp2_with fail
            refine (num_item bm x.n hxn _ (by simp; omega) _ hma).mono ?_
            rintro e wb ⟨rfl, gb, hmb⟩
            have hrb : Rdr wb br _ := Blk.grown hra gb (by simp; omega)
            have hWb := Below.grew hWa gb (by have := hWa.size; omega) hbm'
            go_wp2_with fail
            refine hK.out _ _ hWb ?_
            clear hK K
            repeat (first
              | (refine wpOrd_take (v := ?_) rfl rfl ?_ ?_ ?_; rotate_left; rfl; (· intro w' hSw; (try dsimp only at hSw); go_simp <;> with_reducible rfl); simp only [Act.put, List.setIfInBounds_toArray, List.set_cons_zero, List.set_cons_succ])
              | (refine wpOrd_skip rfl rfl ?_ ?_; rfl; simp only [Act.put, List.setIfInBounds_toArray, List.set_cons_zero, List.set_cons_succ]))
            refine wpOrd_nil ?_
            go_wp2
            go_roundw
            case rel => exact ⟨k + 1, by omega, by go_num, by rw [HR.out]; exact hrb, by rw [HR.out]; exact hmb, hWb⟩
            case measure => simp [intOf]; omega
          · have HI := Lib.hid (show itB x = strB x.s by unfold itB; rw [if_pos ht])
            rw [ht] at g0
            rw [HI.out] at hr hm
            have e1 : ((bs x.s).toList == (bs x.s).toList) = true := beq_self_eq_true _
            have e2 : ((bs x.s).toList != (bs x.s).toList) = false := by simp
            clear ht HI
            go_upto_region 19 with (fail)
            refine wp_region_ord (fun w' => Below wo.heap.size wo w') (0 :: 1 :: 2 :: 3 :: 4 :: 5 :: 6 :: 8 :: 9 :: 10 :: 11 :: 12 :: 7 :: 13 :: 14 :: 15 :: 17 :: 18 :: 19 :: 20 :: 21 :: 16 :: 22 :: 23 :: 24 :: 25 :: 26 :: 27 :: 28 :: 29 :: 30 :: 31 :: 32 :: 33 :: 34 :: 35 :: 36 :: 37 :: 38 :: 39 :: 40 :: 41 :: 42 :: 43 :: 44 :: 45 :: 46 :: 47 :: 48 :: 49 :: 50 :: 51 :: 52 :: []) [7, 16] (by kernel_rfl) (by kernel_rfl) (by intro c d v a w h; cases d <;> exact h) (Below.drew hW) ?_
            repeat (first
              | (refine wpOrd_take (v := ?_) rfl rfl ?_ ?_ ?_; rotate_left; rfl; (· intro w' hSw; (try dsimp only at hSw); go_simp <;> with_reducible rfl); simp only [Act.put, List.setIfInBounds_toArray, List.set_cons_zero, List.set_cons_succ])
              | (refine wpOrd_skip rfl rfl ?_ ?_; rfl; simp only [Act.put, List.setIfInBounds_toArray, List.set_cons_zero, List.set_cons_succ]))
            refine wpOrd_eff rfl rfl (fun K hK => ?_)
            go_wp2_with fail
            refine (str_item br x _ hxs (by omega) _ (Blk.drew hr)).mono ?_
            rintro e wa ⟨rfl, ga, hra⟩
            have hma : Rdr wa bm _ := Blk.grown (Blk.drew hm) ga (by simp; omega)
            have hWa := Below.grew (Below.drew hW) ga (by have := hW.size; simp; omega) hbr
            go_wp2_with fail
            refine hK.out _ _ hWa ?_
            clear hK K
            repeat (first
              | (refine wpOrd_take (v := ?_) rfl rfl ?_ ?_ ?_; rotate_left; rfl; (· intro w' hSw; (try dsimp only at hSw); go_simp <;> with_reducible rfl); simp only [Act.put, List.setIfInBounds_toArray, List.set_cons_zero, List.set_cons_succ])
              | (refine wpOrd_skip rfl rfl ?_ ?_; rfl; simp only [Act.put, List.setIfInBounds_toArray, List.set_cons_zero, List.set_cons_succ]))
            refine wpOrd_eff rfl rfl (fun K hK => ?_)
            go_wp2_with fail
            refine (str_item bm x _ hxs (by simp; omega) _ hma).mono ?_
            rintro e wb ⟨rfl, gb, hmb⟩
            have hrb : Rdr wb br _ := Blk.grown hra gb (by simp; omega)
            have hWb := Below.grew hWa gb (by have := hWa.size; omega) hbm'
            go_wp2_with fail
            refine hK.out _ _ hWb ?_
            clear hK K
            repeat (first
              | (refine wpOrd_take (v := ?_) rfl rfl ?_ ?_ ?_; rotate_left; rfl; (· intro w' hSw; (try dsimp only at hSw); go_simp <;> with_reducible rfl); simp only [Act.put, List.setIfInBounds_toArray, List.set_cons_zero, List.set_cons_succ])
              | (refine wpOrd_skip rfl rfl ?_ ?_; rfl; simp only [Act.put, List.setIfInBounds_toArray, List.set_cons_zero, List.set_cons_succ]))
            refine wpOrd_nil ?_
            go_wp2
            go_roundw
            case rel => exact ⟨k + 1, by omega, by go_num, by rw [HR.out]; exact hrb, by rw [HR.out]; exact hmb, hWb⟩
            case measure => simp [intOf]; omega
        · have hd : decide ((k : Int) < (l.length : Int)) = false := by simp; omega
          have hd' : decide (k < l.length) = false := by simp; omega
          obtain rfl : k = l.length := by omega
          rw [List.drop_length] at hr hm
          have n0 : itsB [] = [] := rfl
          rw [n0] at hr hm
          rw [List.nil_append] at hm
          clear n0 hk hlt
          have eE : endR ⟨[], 0⟩ = ⟨[], 0⟩ := rfl
          have eM : endR ⟨[c], 0⟩ = ⟨[], 4⟩ := rfl
          have EE := Lib.hid eE
          have EM := Lib.hid eM
          clear eE eM
          go_wp2_with fail
          refine (left_of br _ wr hr).mono ?_
          rintro e w' ⟨rfl, rfl⟩
          go_wp2_with fail
          refine (end_of br _ wr hr).mono ?_
          rintro e wa ⟨rfl, ga, hra⟩
          rw [EE.out] at hra ⊢
          have hma : Rdr wa bm _ := Blk.grown hm ga (by simp; omega)
          have hWa := Below.grew hW ga (by have := hW.size; omega) hbr
          go_wp2_with fail
          refine (err_of bm _ wa hma).mono ?_
          rintro e w' ⟨rfl, rfl⟩
          go_wp2_with fail
          refine (left_of bm _ wa hma).mono ?_
          rintro e w' ⟨rfl, rfl⟩
          go_wp2_with fail
          refine (end_of bm _ wa hma).mono ?_
          rintro e wb ⟨rfl, gb, hmb⟩
          rw [EM.out] at hmb ⊢
          have hWb := Below.grew hWa gb (by have := hWa.size; omega) hbm'
          clear hr hm hra hma hWa hW ga gb hmb hne ho2
          by_cases hl0 : l.length = 0
          · have z1 : ((l.length : Int) == 0) = true := beq_iff_eq.2 (by omega)
            have z2 : (l.length == 0) = true := beq_iff_eq.2 (by omega)
            have hBb := hB.trans (hWb.mono hz)
            go_wp2_with fail
            refine (wakes_any wb).mono ?_
            rintro e wc ⟨rfl, hc⟩
            go_wp2
            go_ret
            exact ⟨rfl, Below.later' hBb hc⟩
          · have z1 : ((l.length : Int) == 0) = false := beq_eq_false_iff_ne.2 (by omega)
            have z2 : (l.length == 0) = false := beq_eq_false_iff_ne.2 (by omega)
            obtain ⟨M, hM⟩ : ∃ M, (itsB l).length = M + 1 := ⟨(itsB l).length - 1, by omega⟩
            obtain ⟨g, cap', hg, hgc⟩ := own_form HO.out (by omega)
            rw [hvb] at hg
            obtain ⟨rfl, rfl⟩ : pb = some ⟨g, 0, none⟩ ∧ capb = cap' := by cases hg; exact ⟨rfl, rfl⟩
            have hrd0 := RdV.owns HO.out
            rw [hvb] at hrd0
            have hrd := RdV.take hrd0 (m := M) (by omega)
            rw [show (by8 (itsB l)).take M = by8 (itsB l).dropLast by unfold by8; rw [← List.map_take, List.dropLast_eq_take, hM]; rfl] at hrd
            have htx := rd_text (RdV.below hrd hWb (Nat.le_refl _)) (by simp; omega)
            have i1 : ((itsB l).length : Int) - 1 = (M : Int) := by omega
            have i2 : (0 : Int) ≤ (M : Int) := by omega
            have i3 : (M : Int) ≤ (capb : Int) := by omega
            clear hg hrd0 hrd
            go_wp2_with fail
            refine (of_any (itsB l).dropLast _).mono ?_
            rintro e wc ⟨bl, rfl, hbl, hc, hrl⟩
            have hBb := hB.trans (hWb.mono hz)
            have hBc := Below.later' hBb hc
            have hbl' : w.heap.size ≤ bl := Nat.le_trans hBb.size hbl
            have hl0' : Rdr wc bl (lessR l 0) := by unfold lessR; rw [if_pos (by omega), List.drop_zero]; exact hrl
            have HLN := Lib.hid (fun k => less_len l HS.out k)
            clear htx i1 i2 i3 hc hrl hBb hgc hd hd'
            go_wp2_with fail
            go_loopw [11] (fun i wx => ∃ k : Nat, k ≤ l.length ∧ i = .int .i64 k ∧ Rdr wx bl (lessR l k) ∧ Below w.heap.size w wx) (fun i _ => l.length - (intOf i).toNat)
            case atStart => exact ⟨0, Nat.zero_le _, rfl, hl0', hBc⟩
            case round =>
              clear hl0' hBc
              obtain ⟨k, hk, rfl, hr, hW⟩ := hrel
              have hln := HLN.out k
              by_cases hlt : k < l.length
              · have hd : decide ((k : Int) < (l.length : Int)) = true := by simp; omega
                have hd' : decide (k < l.length) = true := by simp; omega
                obtain ⟨b, off, rfl, hcc⟩ := (HV.out.below hW (Nat.le_refl _)).at 3 (by decide) itV_len k hlt
                have c0 := hcc 0 (by decide)
                simp only [Nat.add_zero] at c0
                clear hcc
                have hxs := HS.out l[k] (List.getElem_mem hlt)
                have hxn := HOK.out l[k] (List.getElem_mem hlt)
                cases ht : l[k].text
                · have HL := Lib.hid (less_num l k hlt ht hxn)
                  simp only [itV, ht] at c0
                  clear hxs hxn ht
                  go_wp2_with fail
                  refine (num_of bl _ wr hr (by omega)).mono ?_
                  rintro e wd ⟨rfl, gd, hrd⟩
                  rw [HL.out] at hrd
                  go_wp2
                  go_roundw
                  case rel => exact ⟨k + 1, by omega, by go_num, hrd, Below.grew hW gd hW.size hbl'⟩
                  case measure => simp [intOf]; omega
                · have HL := Lib.hid (less_str l k hlt ht hxs)
                  simp only [itV, ht] at c0
                  clear hxs hxn ht
                  go_wp2_with fail
                  refine (str_any bl _ 100 (by decide) wr hr (by omega)).mono ?_
                  rintro e wd ⟨rfl, gd, hrd⟩
                  rw [show (100 : Int).toNat = 100 from rfl, HL.out] at hrd
                  go_wp2
                  go_roundw
                  case rel => exact ⟨k + 1, by omega, by go_num, hrd, Below.grew hW gd hW.size hbl'⟩
                  case measure => simp [intOf]; omega
              · have hd : decide ((k : Int) < (l.length : Int)) = false := by simp; omega
                have hd' : decide (k < l.length) = false := by simp; omega
                have hre : lessR l k = ⟨[], 3⟩ := by unfold lessR; rw [if_neg hlt]
                rw [hre] at hr
                clear hre hln
                go_wp2_with fail
                refine (err_of bl _ wr hr).mono ?_
                rintro e w' ⟨rfl, rfl⟩
                go_wp2_with fail
                refine (left_of bl _ wr hr).mono ?_
                rintro e w' ⟨rfl, rfl⟩
                go_wp2_with fail
                refine (wakes_any wr).mono ?_
                rintro e we ⟨rfl, he⟩
                go_wp2
                go_ret
                exact ⟨rfl, Below.later' hW he⟩
end Wire
end Go.Proofs.Yteilmkknedgmpaa
