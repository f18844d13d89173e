/-
  Commands that are too many or too long to be looked at.
-/
import Derived.Test.YtdjddbidhaeekaaCmdWakes
namespace Go.Proofs.Ytdjddbidhaeekaa
open Go.RowKit Go.WideShapes
namespace Cm
def longC (x : Cm) : Bool := decide (300 < x.key.size ∨ 300 < x.old.size ∨ 300 < x.new.size)
def greatL (l : List Cm) : Bool := decide (100 < l.length) || l.any longC
set_option maxRecDepth 100000 in
set_option maxHeartbeats 1000000 in
theorem greatL_any (v : Value) (l : List Cm) (w : World) (hv : RdT Cm.cells w v l) : Calls Try.prog 7 #[v] w fun e w' => e = .returned (.bool (greatL l)) ∧ w = w' := by
  have HV := Lib.hid hv
  obtain ⟨p, cap, rfl, hlen⟩ := hv.len
  clear hv
  by_cases hl : 100 < l.length
  · have HG := Lib.hid (show greatL l = true by unfold greatL; rw [decide_eq_true hl]; rfl)
    have d1 : decide (100 < l.length) = true := decide_eq_true hl
    have d2 : decide ((100 : Int) < (l.length : Int)) = true := decide_eq_true (by omega)
    go_enter Try.func7, Try.ntmps7
    go_wp2_with fail
    go_ret
    exact ⟨by rw [HG.out]; rfl, rfl⟩
  · have d1 : decide (100 < l.length) = false := decide_eq_false hl
    have d2 : decide ((100 : Int) < (l.length : Int)) = false := decide_eq_false (by omega)
    have HA := Lib.hid (show greatL l = l.any longC by unfold greatL; rw [d1]; rfl)
    go_enter Try.func7, Try.ntmps7
    go_wp2_with fail
    go_loopw [3] (fun i wr => ∃ k : Nat, k ≤ l.length ∧ i = .int .i64 k ∧ (∀ j (_ : j < k) (h : j < l.length), longC l[j] = false) ∧ wr = w) (fun i _ => l.length - (intOf i).toNat)
    case atStart => exact ⟨0, Nat.zero_le _, rfl, by simp, rfl⟩
    case round =>
      obtain ⟨k, hk, rfl, hpre, rfl⟩ := hrel
      have HPRE := Lib.hid hpre
      clear hpre
      by_cases hlt : k < l.length
      · have hd : decide ((k : Int) < (l.length : Int)) = true := decide_eq_true (by omega)
        have hd' : decide (k < l.length) = true := decide_eq_true hlt
        obtain ⟨lb, off, e0, g⟩ := HV.out.at 7 (by decide) Cm.cells_len k hlt
        subst e0
        have HM := Lib.hid (List.getElem_mem hlt)
        obtain ⟨x, hx⟩ : ∃ x, l[k] = x := ⟨_, rfl⟩
        rw [hx] at g HM
        have HX := Lib.hid hx
        clear hx
        have HG := Lib.hid (show longC x = true → greatL l = true from fun h => by rw [HA.out]; exact List.any_eq_true.2 ⟨x, HM.out, h⟩)
        have HL := Lib.hid (show ¬ 300 < x.key.size → ¬ 300 < x.old.size → ¬ 300 < x.new.size → longC x = false from fun a b c => decide_eq_false (by omega))
        have g3 := g 3 (by decide)
        have g4 := g 4 (by decide)
        have g5 := g 5 (by decide)
        simp only [Cm.cells] at g3 g4 g5
        clear g
        by_cases h1 : 300 < x.key.size
        · have h1a : decide (300 < x.key.size) = true := decide_eq_true h1
          have h1b : decide ((300 : Int) < (x.key.size : Int)) = true := decide_eq_true (by omega)
          clear HL
          go_wp2_with fail
          go_ret
          exact ⟨by rw [HG.out (by simp [longC]; omega)]; rfl, rfl⟩
        · have h1a : decide (300 < x.key.size) = false := decide_eq_false h1
          have h1b : decide ((300 : Int) < (x.key.size : Int)) = false := decide_eq_false (by omega)
          by_cases h2 : 300 < x.old.size
          · have h2a : decide (300 < x.old.size) = true := decide_eq_true h2
            have h2b : decide ((300 : Int) < (x.old.size : Int)) = true := decide_eq_true (by omega)
            clear HL
            go_wp2_with fail
            go_ret
            exact ⟨by rw [HG.out (by simp [longC]; omega)]; rfl, rfl⟩
          · have h2a : decide (300 < x.old.size) = false := decide_eq_false h2
            have h2b : decide ((300 : Int) < (x.old.size : Int)) = false := decide_eq_false (by omega)
            by_cases h3 : 300 < x.new.size
            · have h3a : decide (300 < x.new.size) = true := decide_eq_true h3
              have h3b : decide ((300 : Int) < (x.new.size : Int)) = true := decide_eq_true (by omega)
              clear HL
              go_wp2_with fail
              go_ret
              exact ⟨by rw [HG.out (by simp [longC]; omega)]; rfl, rfl⟩
            · have h3a : decide (300 < x.new.size) = false := decide_eq_false h3
              have h3b : decide ((300 : Int) < (x.new.size : Int)) = false := decide_eq_false (by omega)
              have HL := Lib.hid (HL.out (by omega) (by omega) (by omega))
              clear h1 h2 h3
              go_wp2_with fail
              go_roundw
              case rel => exact ⟨k + 1, by omega, by go_num, fun j hj h => by
                  rcases Nat.lt_succ_iff_lt_or_eq.1 hj with h2 | h2
                  · exact HPRE.out j h2 h
                  · subst h2; rw [HX.out]; exact HL.out, by first | trivial | rfl⟩
              case measure => simp [intOf]; omega
      · have hd : decide ((k : Int) < (l.length : Int)) = false := decide_eq_false (by omega)
        have hd' : decide (k < l.length) = false := decide_eq_false hlt
        have HZ := Lib.hid (show greatL l = false by
          rw [HA.out, List.any_eq_false]
          intro x hx
          obtain ⟨j, hj, rfl⟩ := List.getElem_of_mem hx
          rw [HPRE.out j (by omega) hj]; simp)
        go_wp2_with fail
        go_ret
        exact ⟨by rw [HZ.out]; rfl, rfl⟩
theorem great_len (l : List Cm) (h : greatL l = false) : l.length ≤ 100 := by
  unfold greatL at h
  simp only [Bool.or_eq_false_iff, decide_eq_false_iff_not] at h
  omega
end Cm
end Go.Proofs.Ytdjddbidhaeekaa
