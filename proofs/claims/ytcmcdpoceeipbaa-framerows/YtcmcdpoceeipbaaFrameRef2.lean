/-
  The document's Split and Same, walked.
-/
import Derived.Test.YtcmcdpoceeipbaaFrameSplit
import Derived.Test.YtcmcdpoceeipbaaFrameRef
namespace Go.Proofs.Ytcmcdpoceeipbaa
open Go.RowKit
namespace Fr
open Wire Crc
set_option maxRecDepth 100000 in
set_option maxHeartbeats 1000000 in
theorem rsplit_any (s : List UInt8) (hs : s.length ≤ 1000000) (w : World) :
    Calls Try.prog 15 #[.string (bs s)] w fun e w' => ∃ v, e = .returned (spv s v) ∧ RdT sv w' v ((frP s 0).1.map (·.2)) ∧ Below w.heap.size w w' := by
  have zs := bs_size s
  unfold spv
  have hle2 := frP_le2 s 0
  go_enter Try.func15, Try.ntmps15
  go_wp2_with fail
  go_loopw [5, 6] (fun s5 s6 wr => ∃ (p : Nat) (l : List (List UInt8)) (v : Value), s6 = .int .i64 p ∧ v = s5 ∧ p ≤ s.length ∧ (frP s 0).1.map (·.2) = l ++ (frP (s.drop p) p).1.map (·.2) ∧ (frP s 0).2 = (frP (s.drop p) p).2 ∧
    wr.ownsRow w.heap.size 9 1 v l.length (l.flatMap sv) ∧ Below w.heap.size w wr) (fun _ s6 _ => s.length - (intOf s6).toNat)
  case atStart => exact ⟨0, [], _, rfl, rfl, Nat.zero_le _, rfl, rfl, ⟨rfl, .inl ⟨rfl, rfl⟩⟩, Below.refl _ _⟩
  case round =>
    obtain ⟨p, l, v, rfl, rfl, hp, hL, hE, ho, BB⟩ := hrel
    have hlen := congrArg List.length hL
    rw [List.length_append, List.length_map] at hlen
    by_cases hlt : p < s.length
    · have hd : decide ((p : Int) < (s.length : Int)) = true := decide_eq_true (by omega)
      have hd' : decide (p < s.length) = true := decide_eq_true hlt
      have hcut := cut_lo s p (by omega)
      have hne : s.drop p ≠ [] := fun e => by have := congrArg List.length e; rw [List.length_drop] at this; simp at this; omega
      have hdl : (s.drop p).length ≤ 1000000 := by rw [List.length_drop]; omega
      have HT := Lib.hid (fun w => rtake_any (s.drop p) hdl w)
      have hle := frTake_le (s.drop p)
      have HL := Lib.hid hL
      have HE := Lib.hid hE
      have HGO := Lib.hid (fun h => frP_go (s.drop p) p h hne)
      have HST := Lib.hid (fun h => frP_stop (s.drop p) p h hne)
      have HGD := Lib.hid (fun h => good (s.drop p) h)
      have HER := Lib.hid (fun h => take_err (s.drop p) h)
      obtain ⟨x, m, e, hx⟩ : ∃ x m e, frTake (s.drop p) = (x, m, e) := ⟨_, _, _, rfl⟩
      rw [hx] at HT hle HGO HST HGD HER
      dsimp only at HT hle HGO HST HGD HER
      unfold tkv at HT
      dsimp only at HT
      rw [List.length_drop] at hle
      obtain ⟨t, ht⟩ : ∃ t, s.drop p = t := ⟨_, rfl⟩
      rw [ht] at hcut HT HL HE HGO HST HGD
      have HTS := Lib.hid ht
      clear ht hL hE hx hne hdl
      have hll : l.length ≤ 1000000 := by omega
      clear hlen
      go_wp2_with fail
      refine (HT.out wr).mono ?_
      rintro ee w2 ⟨rfl, b2⟩
      have B2 := BB.trans (b2.mono BB.size)
      have ho2 := ownsRow_below ho b2
      clear ho b2 BB
      by_cases he : e = 0
      · subst he
        have hg := HGO.out rfl
        have HL2 := Lib.hid (show (frP s 0).1.map (·.2) = (l ++ [x]) ++ (frP (t.drop m) (p + m)).1.map (·.2) by rw [HL.out, hg]; simp)
        have HE2 := Lib.hid (show (frP s 0).2 = (frP (t.drop m) (p + m)).2 by rw [HE.out, hg])
        have hmp : 0 < m := by have h1 := (HGD.out rfl).2.1; have h2 := frame_pos x; omega
        have HDR := Lib.hid (show t.drop m = s.drop (p + m) by rw [← HTS.out, List.drop_drop])
        have HF := Lib.hid (show (l ++ [x]).flatMap sv = l.flatMap sv ++ [.string (bs x)] by simp [sv])
        have c0 : ((0 : Nat) : Int) = 0 := rfl
        have hcp : ((p + m : Nat) : Int) = (p : Int) + (m : Int) := by omega
        have hwp : IntKind.i64.wrap ((p : Int) + (m : Int)) = (p : Int) + (m : Int) := by rw [IntKind.wrap_i64]; omega
        clear hg HGO HST HGD HER HL HE
        go_wp2_with (at_builtin; go_loud (refine app1g rfl _ _ 29 rfl w.heap.size 9 (.string ⟨#[]⟩) 16 infoS Try.underlying29 rfl w2 (.string (bs x)) 9 rfl v _ _ ho2 rfl _ rfl rfl (by omega) (by omega) B2.size ?_; intro v4 w4 ho4 g4))
        rw [← HF.out] at ho4
        go_roundw
        case rel => exact ⟨p + m, l ++ [x], v4, by rw [hcp], rfl, by omega, by rw [HL2.out, HDR.out], by rw [HE2.out, HDR.out], by rw [List.length_append]; exact ho4, g4.below B2 B2.size (fun b hb => (ho2.lt b hb).1)⟩
        case measure => simp [intOf]; omega
      · have hg := HST.out he
        have HL2 := Lib.hid (show (frP s 0).1.map (·.2) = l by rw [HL.out, hg]; simp)
        have HE2 := Lib.hid (show (frP s 0).2 = (p, e) by rw [HE.out, hg])
        have t1 : ((e : Int) != 0) = true := by simp; omega
        clear hg HGO HST HGD HER HL HE
        go_wp2_with fail
        refine bodyPost_ret (v := .tuple #[v, .int .i64 p, .int .i64 e]) (by simp [results, Try.results15, go_sem]) rfl ⟨v, by rw [HE2.out], by rw [HL2.out]; exact RdT.owns ho2, B2⟩
    · have hd : decide ((p : Int) < (s.length : Int)) = false := decide_eq_false (by omega)
      have hd' : decide (p < s.length) = false := decide_eq_false hlt
      have ht : s.drop p = [] := List.drop_of_length_le (by omega)
      rw [ht, frP_nil] at hL hE
      have HL2 := Lib.hid (show (frP s 0).1.map (·.2) = l by rw [hL]; simp)
      have HE2 := Lib.hid hE
      clear hL hE ht hlen hle2
      go_wp2_with fail
      refine bodyPost_ret (v := .tuple #[v, .int .i64 p, .int .i64 0]) (by simp [results, Try.results15, go_sem]) rfl ⟨v, by rw [HE2.out]; rfl, by rw [HL2.out]; exact RdT.owns ho, BB⟩
theorem rdS {W : World} {v : Value} {l : List (List UInt8)} (h : RdT sv W v l) (i : Nat) (hi : i < l.length) : ∃ lb off cap, v = .slice (some ⟨lb, off, none⟩) l.length cap ∧ ∀ w', Below W.heap.size W w' → w'.cell? ⟨lb, off + i, none⟩ = some (.string (bs l[i])) := by
  obtain ⟨p, cap, rfl, hn⟩ := h.len
  obtain ⟨b, off, rfl, hc⟩ := h.at 1 (by decide) (fun _ => rfl) i hi
  refine ⟨b, off, cap, rfl, fun w' hb => ?_⟩
  have h0 := hc 0 (by decide)
  simp only [Nat.mul_one, Nat.add_zero] at h0
  have hlt := World.block_lt_of_cell? W _ (show W.cell? ⟨b, off + i, none⟩ = some (.string (bs l[i])) by rw [h0]; rfl)
  rw [hb.cell (p := ⟨b, off + i, none⟩) hlt, h0]; rfl
set_option maxRecDepth 100000 in
set_option maxHeartbeats 1000000 in
theorem same_any (v u : Value) (l m : List (List UInt8)) (f : Bool) (hf : f = true ↔ l = m) (w : World) (hv : RdT sv w v l) (hu : RdT sv w u m) : Calls Try.prog 12 #[v, u] w fun e w' => e = .returned (.bool f) ∧ Below w.heap.size w w' := by
  have HV := Lib.hid hv
  have HU := Lib.hid hu
  have HF := Lib.hid hf
  obtain ⟨p, cap, rfl, hlen⟩ := hv.len
  obtain ⟨p2, cap2, rfl, _⟩ := hu.len
  clear hv hu hf
  by_cases hlm : l.length = m.length
  · have HLM := Lib.hid hlm
    have t0 : ((l.length : Int) != (m.length : Int)) = false := by rw [hlm]; simp
    clear hlm
    go_enter Try.func12, Try.ntmps12
    go_wp2_with fail
    go_loopw [5] (fun i wr => ∃ k : Nat, k ≤ l.length ∧ i = .int .i64 k ∧ (∀ j, j < k → l[j]? = m[j]?) ∧ Below w.heap.size w wr) (fun i _ => l.length - (intOf i).toNat)
    case atStart => exact ⟨0, Nat.zero_le _, rfl, fun j hj => by omega, Below.refl _ _⟩
    case round =>
      obtain ⟨k, hk, rfl, hpre, BB⟩ := hrel
      have HPRE := Lib.hid hpre
      clear hpre
      by_cases hlt : k < l.length
      · have hd : decide ((k : Int) < (l.length : Int)) = true := decide_eq_true (by omega)
        have hd' : decide (k < l.length) = true := decide_eq_true hlt
        have hlt2 : k < m.length := by rw [← HLM.out]; exact hlt
        obtain ⟨lb, off, cc, e0, g⟩ := rdS (HV.out.below BB (Nat.le_refl _)) k hlt
        cases e0
        obtain ⟨lc, oc, cd, e1, q⟩ := rdS (HU.out.below BB (Nat.le_refl _)) k hlt2
        cases e1
        obtain ⟨x, hx⟩ : ∃ x, l[k] = x := ⟨_, rfl⟩
        obtain ⟨y, hy⟩ : ∃ y, m[k] = y := ⟨_, rfl⟩
        rw [hx] at g
        rw [hy] at q
        have HX := Lib.hid (show l[k]? = some x by rw [List.getElem?_eq_getElem hlt, hx])
        have HY := Lib.hid (show m[k]? = some y by rw [List.getElem?_eq_getElem hlt2, hy])
        have hml : decide (k < m.length) = true := decide_eq_true hlt2
        have hml' : decide ((k : Int) < (m.length : Int)) = true := decide_eq_true (by omega)
        clear hx hy
        obtain ⟨z, hz⟩ : ∃ z : Bool, z = true ↔ x = y := by
          by_cases h : x = y
          · exact ⟨true, by simp [h]⟩
          · exact ⟨false, by simp [h]⟩
        have HZ := Lib.hid hz
        obtain ⟨E1, E2⟩ := bs_eqs x y z hz
        clear hz
        have B0 : Below wr.heap.size wr wr.drew := Below.drew (Below.refl _ _)
        go_wp2_with fail
        refine wp_region_ord (fun w' => Below wr.heap.size wr w') (0 :: 1 :: 2 :: 3 :: 4 :: 5 :: 6 :: 7 :: 8 :: []) [] (by kernel_rfl) (by kernel_rfl) (by intro c d v a w h; cases d <;> exact h) B0 ?_
        repeat (first
          | (refine wpOrd_take (v := ?_) rfl rfl ?_ ?_ ?_; rotate_left; rfl; (· intro w' hSw; (try dsimp only at hSw); go_simp <;> with_reducible rfl); simp only [Act.put, List.setIfInBounds_toArray, List.set_cons_zero, List.set_cons_succ])
          | (refine wpOrd_skip rfl rfl ?_ ?_; rfl; simp only [Act.put, List.setIfInBounds_toArray, List.set_cons_zero, List.set_cons_succ]))
        refine wpOrd_nil ?_
        cases z
        · have HS := Lib.hid (show f = false by
            rw [Bool.eq_false_iff]
            intro h
            have e := HF.out.1 h
            have h1 := HX.out
            rw [e, HY.out] at h1
            have := HZ.out.2 (Option.some.inj h1).symm
            cases this)
          go_wp2_with fail
          go_ret
          exact ⟨by rw [HS.out]; rfl, BB.drew⟩
        · have HS := Lib.hid (HZ.out.1 rfl)
          go_wp2_with fail
          go_roundw
          case rel => exact ⟨k + 1, by omega, by go_num, fun j hj => by
              rcases Nat.lt_succ_iff_lt_or_eq.1 hj with h | h
              · exact HPRE.out j h
              · rw [h, HX.out, HY.out, HS.out], BB.drew⟩
          case measure => simp [intOf]; omega
      · have hd : decide ((k : Int) < (l.length : Int)) = false := decide_eq_false (by omega)
        have hd' : decide (k < l.length) = false := decide_eq_false hlt
        have HS := Lib.hid (show f = true by
          refine HF.out.2 (List.ext_getElem? fun j => ?_)
          by_cases hj : j < k
          · exact HPRE.out j hj
          · rw [List.getElem?_eq_none (by omega), List.getElem?_eq_none (by have := HLM.out; omega)])
        go_wp2_with fail
        go_ret
        exact ⟨by rw [HS.out]; rfl, BB⟩
  · have t0 : ((l.length : Int) != (m.length : Int)) = true := by simp; omega
    have HS := Lib.hid (show f = false by
      rw [Bool.eq_false_iff]
      intro h
      exact hlm (by rw [HF.out.1 h]))
    go_enter Try.func12, Try.ntmps12
    go_wp2_with fail
    go_ret
    exact ⟨by rw [HS.out]; rfl, Below.refl _ _⟩
end Fr
end Go.Proofs.Ytcmcdpoceeipbaa
