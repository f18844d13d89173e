/-
  What is too great to be looked at.
-/
import Derived.Test.YtcfcikpehekfbaaBatNil
namespace Go.Proofs.Ytcfcikpehekfbaa
open Go.RowKit Go.WideShapes
namespace Bat
def longC (x : Cm) : Bool := decide (300 < x.key.size ∨ 300 < x.old.size ∨ 300 < x.new.size)
def greatL (l : List Cm) : Bool := decide (100 < l.length) || l.any longC
def greatA (l : List Ac) : Bool := decide (200 < l.length) || l.any (fun a => greatL [a.c])
set_option maxRecDepth 100000 in
set_option maxHeartbeats 1000000 in
theorem greatL_any (v : Value) (l : List Cm) (w : World) (hv : RdT Cm.cells w v l) : Calls Try.prog 18 #[v] w fun e w' => e = .returned (.bool (greatL l)) ∧ w = w' := by
  have HV := Lib.hid hv
  obtain ⟨p, cap, rfl, hlen⟩ := hv.len
  clear hv
  by_cases hl : 100 < l.length
  · have HG := Lib.hid (show greatL l = true by unfold greatL; rw [decide_eq_true hl]; rfl)
    have d1 : decide (100 < l.length) = true := decide_eq_true hl
    have d2 : decide ((100 : Int) < (l.length : Int)) = true := decide_eq_true (by omega)
    go_enter Try.func18, Try.ntmps18
    go_wp2_with fail
    go_ret
    exact ⟨by rw [HG.out]; rfl, rfl⟩
  · have d1 : decide (100 < l.length) = false := decide_eq_false hl
    have d2 : decide ((100 : Int) < (l.length : Int)) = false := decide_eq_false (by omega)
    have HA := Lib.hid (show greatL l = l.any longC by unfold greatL; rw [d1]; rfl)
    go_enter Try.func18, Try.ntmps18
    go_wp2_with fail
    go_loopw [3] (fun i wr => ∃ k : Nat, k ≤ l.length ∧ i = .int .i64 k ∧ (∀ j (_ : j < k) (h : j < l.length), longC l[j] = false) ∧ wr = w) (fun i _ => l.length - (intOf i).toNat)
    case atStart => exact ⟨0, Nat.zero_le _, rfl, by simp, rfl⟩
    case round =>
      obtain ⟨k, hk, rfl, hpre, rfl⟩ := hrel
      have HPRE := Lib.hid hpre
      clear hpre
      by_cases hlt : k < l.length
      · have hd : decide ((k : Int) < (l.length : Int)) = true := decide_eq_true (by omega)
        have hd' : decide (k < l.length) = true := decide_eq_true hlt
        obtain ⟨lb, off, e0, g⟩ := HV.out.at 7 (by decide) Cm.cells_len k hlt
        subst e0
        have HM := Lib.hid (List.getElem_mem hlt)
        obtain ⟨x, hx⟩ : ∃ x, l[k] = x := ⟨_, rfl⟩
        rw [hx] at g HM
        have HX := Lib.hid hx
        clear hx
        have HG := Lib.hid (show longC x = true → greatL l = true from fun h => by rw [HA.out]; exact List.any_eq_true.2 ⟨x, HM.out, h⟩)
        have HL := Lib.hid (show ¬ 300 < x.key.size → ¬ 300 < x.old.size → ¬ 300 < x.new.size → longC x = false from fun a b c => decide_eq_false (by omega))
        have g3 := g 3 (by decide)
        have g4 := g 4 (by decide)
        have g5 := g 5 (by decide)
        simp only [Cm.cells] at g3 g4 g5
        clear g
        by_cases h1 : 300 < x.key.size
        · have h1a : decide (300 < x.key.size) = true := decide_eq_true h1
          have h1b : decide ((300 : Int) < (x.key.size : Int)) = true := decide_eq_true (by omega)
          clear HL
          go_wp2_with fail
          go_ret
          exact ⟨by rw [HG.out (by simp [longC]; omega)]; rfl, rfl⟩
        · have h1a : decide (300 < x.key.size) = false := decide_eq_false h1
          have h1b : decide ((300 : Int) < (x.key.size : Int)) = false := decide_eq_false (by omega)
          by_cases h2 : 300 < x.old.size
          · have h2a : decide (300 < x.old.size) = true := decide_eq_true h2
            have h2b : decide ((300 : Int) < (x.old.size : Int)) = true := decide_eq_true (by omega)
            clear HL
            go_wp2_with fail
            go_ret
            exact ⟨by rw [HG.out (by simp [longC]; omega)]; rfl, rfl⟩
          · have h2a : decide (300 < x.old.size) = false := decide_eq_false h2
            have h2b : decide ((300 : Int) < (x.old.size : Int)) = false := decide_eq_false (by omega)
            by_cases h3 : 300 < x.new.size
            · have h3a : decide (300 < x.new.size) = true := decide_eq_true h3
              have h3b : decide ((300 : Int) < (x.new.size : Int)) = true := decide_eq_true (by omega)
              clear HL
              go_wp2_with fail
              go_ret
              exact ⟨by rw [HG.out (by simp [longC]; omega)]; rfl, rfl⟩
            · have h3a : decide (300 < x.new.size) = false := decide_eq_false h3
              have h3b : decide ((300 : Int) < (x.new.size : Int)) = false := decide_eq_false (by omega)
              have HL := Lib.hid (HL.out (by omega) (by omega) (by omega))
              clear h1 h2 h3
              go_wp2_with fail
              go_roundw
              case rel => exact ⟨k + 1, by omega, by go_num, fun j hj h => by
                  rcases Nat.lt_succ_iff_lt_or_eq.1 hj with h2 | h2
                  · exact HPRE.out j h2 h
                  · subst h2; rw [HX.out]; exact HL.out, by first | trivial | rfl⟩
              case measure => simp [intOf]; omega
      · have hd : decide ((k : Int) < (l.length : Int)) = false := decide_eq_false (by omega)
        have hd' : decide (k < l.length) = false := decide_eq_false hlt
        have HZ := Lib.hid (show greatL l = false by
          rw [HA.out, List.any_eq_false]
          intro x hx
          obtain ⟨j, hj, rfl⟩ := List.getElem_of_mem hx
          rw [HPRE.out j (by omega) hj]; simp)
        go_wp2_with fail
        go_ret
        exact ⟨by rw [HZ.out]; rfl, rfl⟩
set_option maxRecDepth 100000 in
set_option maxHeartbeats 1000000 in
theorem great_any (v : Value) (l : List Ac) (w : World) (hv : RdT Ac.cells w v l) : Calls Try.prog 7 #[v] w fun e w' => e = .returned (.bool (greatA l)) ∧ Below w.heap.size w w' := by
  have HV := Lib.hid hv
  obtain ⟨p, cap, rfl, hlen⟩ := hv.len
  clear hv
  by_cases hl : 200 < l.length
  · have HG := Lib.hid (show greatA l = true by unfold greatA; rw [decide_eq_true hl]; rfl)
    have d1 : decide (200 < l.length) = true := decide_eq_true hl
    have d2 : decide ((200 : Int) < (l.length : Int)) = true := decide_eq_true (by omega)
    go_enter Try.func7, Try.ntmps7
    go_wp2_with fail
    go_ret
    exact ⟨by rw [HG.out]; rfl, Below.refl _ _⟩
  · have d1 : decide (200 < l.length) = false := decide_eq_false hl
    have d2 : decide ((200 : Int) < (l.length : Int)) = false := decide_eq_false (by omega)
    have HA := Lib.hid (show greatA l = l.any (fun a => greatL [a.c]) by unfold greatA; rw [d1]; rfl)
    go_enter Try.func7, Try.ntmps7
    go_wp2_with fail
    go_loopw [3] (fun i wr => ∃ k : Nat, k ≤ l.length ∧ i = .int .i64 k ∧ (∀ j (_ : j < k) (h : j < l.length), greatL [(l[j]).c] = false) ∧ Below w.heap.size w wr) (fun i _ => l.length - (intOf i).toNat)
    case atStart => exact ⟨0, Nat.zero_le _, rfl, by simp, Below.refl _ _⟩
    case round =>
      obtain ⟨k, hk, rfl, hpre, BB⟩ := hrel
      have HPRE := Lib.hid hpre
      clear hpre
      by_cases hlt : k < l.length
      · have hd : decide ((k : Int) < (l.length : Int)) = true := decide_eq_true (by omega)
        have hd' : decide (k < l.length) = true := decide_eq_true hlt
        obtain ⟨lb, off, e0, g⟩ := (HV.out.below BB (Nat.le_refl _)).at 9 (by decide) Ac.cells_len k hlt
        subst e0
        have HM := Lib.hid (List.getElem_mem hlt)
        obtain ⟨x, hx⟩ : ∃ x, l[k] = x := ⟨_, rfl⟩
        rw [hx] at g HM
        have HX := Lib.hid hx
        clear hx
        have g2 := g 2 (by decide)
        have g3 := g 3 (by decide)
        have g4 := g 4 (by decide)
        have g5 := g 5 (by decide)
        have g6 := g 6 (by decide)
        have g7 := g 7 (by decide)
        have g8 := g 8 (by decide)
        simp only [Ac.cells] at g2 g3 g4 g5 g6 g7 g8
        clear g
        go_wp2_with fail
        have hrd : RdT Cm.cells (wr.alloc (.cells x.c.cells.toArray 30)) (.slice (some ⟨wr.heap.size, 0, none⟩) 1 1) [x.c] := by
          have := rdV_block wr x.c.cells.toArray 30 1 1 (by omega)
          simpa [RdT] using this
        have BA := BB.alloc BB.size (.cells x.c.cells.toArray 30)
        refine (greatL_any _ [x.c] _ hrd).mono ?_
        rintro e w1 ⟨rfl, rfl⟩
        clear g2 g3 g4 g5 g6 g7 g8 hrd
        cases hg : greatL [x.c]
        · have HN := Lib.hid hg
          clear hg
          go_wp2_with fail
          go_roundw
          case rel => exact ⟨k + 1, by omega, by go_num, fun j hj h => by
              rcases Nat.lt_succ_iff_lt_or_eq.1 hj with h2 | h2
              · exact HPRE.out j h2 h
              · subst h2; rw [HX.out]; exact HN.out, BA⟩
          case measure => simp [intOf]; omega
        · have HG := Lib.hid (show greatA l = true by rw [HA.out]; exact List.any_eq_true.2 ⟨x, HM.out, hg⟩)
          clear hg
          go_wp2_with fail
          go_ret
          exact ⟨by rw [HG.out]; rfl, BA⟩
      · have hd : decide ((k : Int) < (l.length : Int)) = false := decide_eq_false (by omega)
        have hd' : decide (k < l.length) = false := decide_eq_false hlt
        have HZ := Lib.hid (show greatA l = false by
          rw [HA.out, List.any_eq_false]
          intro x hx
          obtain ⟨j, hj, rfl⟩ := List.getElem_of_mem hx
          rw [HPRE.out j (by omega) hj]; simp)
        go_wp2_with fail
        go_ret
        exact ⟨by rw [HZ.out]; rfl, BB⟩
theorem great_len (l : List Ac) (h : greatA l = false) : l.length ≤ 200 := by
  unfold greatA at h
  rw [Bool.or_eq_false_iff] at h
  have := of_decide_eq_false h.1
  omega
theorem open_acts {H : Type} {enc : TypeId × Value → H} {base : Nat} {d : DataW H} {ps : List MemPlace} {v : Value} {w : World}
    (hok : Value.okWide Try.prog w .any base 22 v) (ht : DataW.Trod enc Try.prog w 0 (fun _ => true) true 22 v d ps) : ∃ l : List Ac, RdT Ac.cells w v l ∧ ∀ x ∈ l, x.ok :=
  open_rows 4 (ks := Ac.leaves) Ac.cells Ac.ok Ac.dec Try.underlying22 (by kernel_rfl) (by kernel_rfl) hok ht
end Bat
end Go.Proofs.Ytcfcikpehekfbaa
