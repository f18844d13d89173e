/-
  The document's Same of two rows of commands.
-/
import Derived.Test.YtdjddbidhaeekaaCmdReads
namespace Go.Proofs.Ytdjddbidhaeekaa
open Go.RowKit Go.WideShapes
namespace Cm
open Wire
set_option maxRecDepth 100000 in
set_option maxHeartbeats 1000000 in
theorem same2_any (v u : Value) (l m : List Cm) (f : Bool) (hf : f = true ↔ l = m) (w : World) (hv : RdT Cm.cells w v l) (hu : RdT Cm.cells w u m) : Calls Try.prog 20 #[v, u] w fun e w' => e = .returned (.bool f) ∧ Below w.heap.size w w' := by
  have HV := Lib.hid hv
  have HU := Lib.hid hu
  have HF := Lib.hid hf
  obtain ⟨p, cap, rfl, hlen⟩ := hv.len
  obtain ⟨p2, cap2, rfl, _⟩ := hu.len
  clear hv hu hf
  by_cases hlm : l.length = m.length
  · have HLM := Lib.hid hlm
    have t0 : ((l.length : Int) != (m.length : Int)) = false := by rw [hlm]; simp
    clear hlm
    go_enter Try.func20, Try.ntmps20
    go_wp2_with fail
    go_loopw [5] (fun i wr => ∃ k : Nat, k ≤ l.length ∧ i = .int .i64 k ∧ (∀ j, j < k → l[j]? = m[j]?) ∧ Below w.heap.size w wr) (fun i _ => l.length - (intOf i).toNat)
    case atStart => exact ⟨0, Nat.zero_le _, rfl, fun j hj => by omega, Below.refl _ _⟩
    case round =>
      obtain ⟨k, hk, rfl, hpre, BB⟩ := hrel
      have HPRE := Lib.hid hpre
      clear hpre
      by_cases hlt : k < l.length
      · have hd : decide ((k : Int) < (l.length : Int)) = true := decide_eq_true (by omega)
        have hd' : decide (k < l.length) = true := decide_eq_true hlt
        have hlt2 : k < m.length := by rw [← HLM.out]; exact hlt
        obtain ⟨lb, off, cc, e0, g⟩ := rd_one (HV.out.below BB (Nat.le_refl _)) k hlt
        cases e0
        obtain ⟨lc, oc, cd, e1, q⟩ := rd_one (HU.out.below BB (Nat.le_refl _)) k hlt2
        cases e1
        obtain ⟨x, hx⟩ : ∃ x, l[k] = x := ⟨_, rfl⟩
        obtain ⟨y, hy⟩ : ∃ y, m[k] = y := ⟨_, rfl⟩
        rw [hx] at g
        rw [hy] at q
        have HX := Lib.hid (show l[k]? = some x by rw [List.getElem?_eq_getElem hlt, hx])
        have HY := Lib.hid (show m[k]? = some y by rw [List.getElem?_eq_getElem hlt2, hy])
        have hml : decide (k < m.length) = true := decide_eq_true hlt2
        have hml' : decide ((k : Int) < (m.length : Int)) = true := decide_eq_true (by omega)
        clear hx hy
        obtain ⟨z, hz⟩ : ∃ z : Bool, z = false ↔ x = y := by
          by_cases h : x = y
          · exact ⟨false, by simp [h]⟩
          · exact ⟨true, by simp [h]⟩
        have HZ := Lib.hid hz
        have E := cm_neq x y z hz
        clear hz
        have g0 := fun w' hb => g w' hb 0 (by decide)
        have g1 := fun w' hb => g w' hb 1 (by decide)
        have g2 := fun w' hb => g w' hb 2 (by decide)
        have g3 := fun w' hb => g w' hb 3 (by decide)
        have g4 := fun w' hb => g w' hb 4 (by decide)
        have g5 := fun w' hb => g w' hb 5 (by decide)
        have g6 := fun w' hb => g w' hb 6 (by decide)
        have f0 := fun w' hb => q w' hb 0 (by decide)
        have f1 := fun w' hb => q w' hb 1 (by decide)
        have f2 := fun w' hb => q w' hb 2 (by decide)
        have f3 := fun w' hb => q w' hb 3 (by decide)
        have f4 := fun w' hb => q w' hb 4 (by decide)
        have f5 := fun w' hb => q w' hb 5 (by decide)
        have f6 := fun w' hb => q w' hb 6 (by decide)
        simp only [Cm.cells, Nat.add_zero] at g0 g1 g2 g3 g4 g5 g6 f0 f1 f2 f3 f4 f5 f6
        clear g q
        have B0 : Below wr.heap.size wr wr.drew := Below.drew (Below.refl _ _)
        go_wp2_with fail
        refine wp_region_ord (fun w' => Below wr.heap.size wr w') (0 :: 1 :: 2 :: 3 :: 4 :: 5 :: 6 :: 7 :: 8 :: []) [] (by kernel_rfl) (by kernel_rfl) (by intro c d v a w h; cases d <;> exact h) B0 ?_
        repeat (first
          | (refine wpOrd_take (v := ?_) rfl rfl ?_ ?_ ?_; rotate_left; rfl; (· intro w' hSw; (try dsimp only at hSw); go_simp <;> with_reducible rfl); simp only [Act.put, List.setIfInBounds_toArray, List.set_cons_zero, List.set_cons_succ])
          | (refine wpOrd_skip rfl rfl ?_ ?_; rfl; simp only [Act.put, List.setIfInBounds_toArray, List.set_cons_zero, List.set_cons_succ]))
        refine wpOrd_nil ?_
        cases z
        · have HS := Lib.hid (HZ.out.1 rfl)
          clear E
          go_wp2_with fail
          go_roundw
          case rel => exact ⟨k + 1, by omega, by go_num, fun j hj => by
              rcases Nat.lt_succ_iff_lt_or_eq.1 hj with h | h
              · exact HPRE.out j h
              · rw [h, HX.out, HY.out, HS.out], BB.drew⟩
          case measure => simp [intOf]; omega
        · have HS := Lib.hid (show f = false by
            rw [Bool.eq_false_iff]
            intro h
            have e := HF.out.1 h
            have h1 := HX.out
            rw [e, HY.out] at h1
            have := HZ.out.2 (Option.some.inj h1).symm
            cases this)
          clear E
          go_wp2_with fail
          go_ret
          exact ⟨by rw [HS.out]; rfl, BB.drew⟩
      · have hd : decide ((k : Int) < (l.length : Int)) = false := decide_eq_false (by omega)
        have hd' : decide (k < l.length) = false := decide_eq_false hlt
        have HS := Lib.hid (show f = true by
          refine HF.out.2 (List.ext_getElem? fun j => ?_)
          by_cases hj : j < k
          · exact HPRE.out j hj
          · rw [List.getElem?_eq_none (by omega), List.getElem?_eq_none (by have := HLM.out; omega)])
        go_wp2_with fail
        go_ret
        exact ⟨by rw [HS.out]; rfl, BB⟩
  · have t0 : ((l.length : Int) != (m.length : Int)) = true := by simp; omega
    have HS := Lib.hid (show f = false by
      rw [Bool.eq_false_iff]
      intro h
      exact hlm (by rw [HF.out.1 h]))
    go_enter Try.func20, Try.ntmps20
    go_wp2_with fail
    go_ret
    exact ⟨by rw [HS.out]; rfl, Below.refl _ _⟩
end Cm
end Go.Proofs.Ytdjddbidhaeekaa
