/-
  The document's May: whether a command may be.
-/
import Derived.Test.YtdjddbidhaeekaaCmdPure
import Derived.Test.YtdjddbidhaeekaaBlk
namespace Go.Proofs.Ytdjddbidhaeekaa
open Go.RowKit Go.WideShapes
namespace Cm
set_option maxRecDepth 100000 in
set_option maxHeartbeats 4000000 in
theorem may_any (x : Cm) (w : World) : Calls Try.prog 12 #[x.val] w fun e w' => e = .returned (.bool (decide x.may)) ∧ Below w.heap.size w w' := by
  have HN := Lib.hid (show ¬ x.may → decide x.may = false from fun h => decide_eq_false h)
  have HP := Lib.hid (show x.may → decide x.may = true from fun h => decide_eq_true h)
  obtain ⟨cl, sq, kd, key, old, new, set⟩ := x
  go_enter Try.func12, Try.ntmps12
  by_cases h1 : 3 < cl
  · have h1d : decide ((3 : Int) < (cl : Int)) = true := decide_eq_true (by omega)
    have h1e : decide (3 < cl) = true := decide_eq_true h1
    go_wp2
    go_ret
    exact ⟨by rw [HN.out (by unfold Cm.may; dsimp only; omega)]; rfl, below1 w _⟩
  · have h1d : decide ((3 : Int) < (cl : Int)) = false := decide_eq_false (by omega)
    have h1e : decide (3 < cl) = false := decide_eq_false h1
    by_cases h2 : sq < 1
    · have h2d : decide ((sq : Int) < (1 : Int)) = true := decide_eq_true (by omega)
      have h2e : decide (sq < 1) = true := decide_eq_true h2
      go_wp2
      go_ret
      exact ⟨by rw [HN.out (by unfold Cm.may; dsimp only; omega)]; rfl, below1 w _⟩
    · have h2d : decide ((sq : Int) < (1 : Int)) = false := decide_eq_false (by omega)
      have h2e : decide (sq < 1) = false := decide_eq_false h2
      by_cases h3 : 16 < key.size
      · have h3d : decide ((16 : Int) < (key.size : Int)) = true := decide_eq_true (by omega)
        have h3e : decide (16 < key.size) = true := decide_eq_true h3
        go_wp2
        go_ret
        exact ⟨by rw [HN.out (by unfold Cm.may; dsimp only; omega)]; rfl, below1 w _⟩
      · have h3d : decide ((16 : Int) < (key.size : Int)) = false := decide_eq_false (by omega)
        have h3e : decide (16 < key.size) = false := decide_eq_false h3
        by_cases h4 : 64 < old.size
        · have h4d : decide ((64 : Int) < (old.size : Int)) = true := decide_eq_true (by omega)
          have h4e : decide (64 < old.size) = true := decide_eq_true h4
          go_wp2
          go_ret
          exact ⟨by rw [HN.out (by unfold Cm.may; dsimp only; omega)]; rfl, below1 w _⟩
        · have h4d : decide ((64 : Int) < (old.size : Int)) = false := decide_eq_false (by omega)
          have h4e : decide (64 < old.size) = false := decide_eq_false h4
          by_cases h5 : 64 < new.size
          · have h5d : decide ((64 : Int) < (new.size : Int)) = true := decide_eq_true (by omega)
            have h5e : decide (64 < new.size) = true := decide_eq_true h5
            go_wp2
            go_ret
            exact ⟨by rw [HN.out (by unfold Cm.may; dsimp only; omega)]; rfl, below1 w _⟩
          · have h5d : decide ((64 : Int) < (new.size : Int)) = false := decide_eq_false (by omega)
            have h5e : decide (64 < new.size) = false := decide_eq_false h5
            by_cases hk1 : kd = 1
            · have k1 : ((kd : Int) == 1) = true := by simp; omega
              have k2 : ((kd : Int) == 2) = false := by simp; omega
              have k3 : ((kd : Int) == 3) = false := by simp; omega
              have k4 : ((kd : Int) == 4) = false := by simp; omega
              have k5 : ((kd : Int) == 5) = false := by simp; omega
              by_cases hkey : key.size = 0
              · have key1 := Cm.size_ne key
                have key2 := Cm.size_eq key
                have key3 := Cm.size_list key
                rw [decide_eq_false (by omega)] at key1
                rw [decide_eq_true (by omega)] at key2 key3
                go_wp2
                go_ret
                exact ⟨by rw [HN.out (by unfold Cm.may; dsimp only; omega)]; rfl, below1 w _⟩
              · have key1 := Cm.size_ne key
                have key2 := Cm.size_eq key
                have key3 := Cm.size_list key
                rw [decide_eq_true (by omega)] at key1
                rw [decide_eq_false (by omega)] at key2 key3
                by_cases hold : old.size = 0
                · have old1 := Cm.size_ne old
                  have old2 := Cm.size_eq old
                  have old3 := Cm.size_list old
                  rw [decide_eq_false (by omega)] at old1
                  rw [decide_eq_true (by omega)] at old2 old3
                  by_cases hnew : new.size = 0
                  · have new1 := Cm.size_ne new
                    have new2 := Cm.size_eq new
                    have new3 := Cm.size_list new
                    rw [decide_eq_false (by omega)] at new1
                    rw [decide_eq_true (by omega)] at new2 new3
                    by_cases hset : set = 0
                    · have st : ((set : Int) == 0) = true := by simp; omega
                      go_wp2
                      go_ret
                      exact ⟨by rw [HP.out (by unfold Cm.may; dsimp only; omega)]; rfl, below1 w _⟩
                    · have st : ((set : Int) == 0) = false := by simp; omega
                      go_wp2
                      go_ret
                      exact ⟨by rw [HN.out (by unfold Cm.may; dsimp only; omega)]; rfl, below1 w _⟩
                  · have new1 := Cm.size_ne new
                    have new2 := Cm.size_eq new
                    have new3 := Cm.size_list new
                    rw [decide_eq_true (by omega)] at new1
                    rw [decide_eq_false (by omega)] at new2 new3
                    go_wp2
                    go_ret
                    exact ⟨by rw [HN.out (by unfold Cm.may; dsimp only; omega)]; rfl, below1 w _⟩
                · have old1 := Cm.size_ne old
                  have old2 := Cm.size_eq old
                  have old3 := Cm.size_list old
                  rw [decide_eq_true (by omega)] at old1
                  rw [decide_eq_false (by omega)] at old2 old3
                  go_wp2
                  go_ret
                  exact ⟨by rw [HN.out (by unfold Cm.may; dsimp only; omega)]; rfl, below1 w _⟩
            · by_cases hk2 : kd = 2
              · have k1 : ((kd : Int) == 1) = false := by simp; omega
                have k2 : ((kd : Int) == 2) = true := by simp; omega
                have k3 : ((kd : Int) == 3) = false := by simp; omega
                have k4 : ((kd : Int) == 4) = false := by simp; omega
                have k5 : ((kd : Int) == 5) = false := by simp; omega
                by_cases hkey : key.size = 0
                · have key1 := Cm.size_ne key
                  have key2 := Cm.size_eq key
                  have key3 := Cm.size_list key
                  rw [decide_eq_false (by omega)] at key1
                  rw [decide_eq_true (by omega)] at key2 key3
                  go_wp2
                  go_ret
                  exact ⟨by rw [HN.out (by unfold Cm.may; dsimp only; omega)]; rfl, below1 w _⟩
                · have key1 := Cm.size_ne key
                  have key2 := Cm.size_eq key
                  have key3 := Cm.size_list key
                  rw [decide_eq_true (by omega)] at key1
                  rw [decide_eq_false (by omega)] at key2 key3
                  by_cases hold : old.size = 0
                  · have old1 := Cm.size_ne old
                    have old2 := Cm.size_eq old
                    have old3 := Cm.size_list old
                    rw [decide_eq_false (by omega)] at old1
                    rw [decide_eq_true (by omega)] at old2 old3
                    by_cases hset : set = 0
                    · have st : ((set : Int) == 0) = true := by simp; omega
                      go_wp2
                      go_ret
                      exact ⟨by rw [HP.out (by unfold Cm.may; dsimp only; omega)]; rfl, below1 w _⟩
                    · have st : ((set : Int) == 0) = false := by simp; omega
                      go_wp2
                      go_ret
                      exact ⟨by rw [HN.out (by unfold Cm.may; dsimp only; omega)]; rfl, below1 w _⟩
                  · have old1 := Cm.size_ne old
                    have old2 := Cm.size_eq old
                    have old3 := Cm.size_list old
                    rw [decide_eq_true (by omega)] at old1
                    rw [decide_eq_false (by omega)] at old2 old3
                    go_wp2
                    go_ret
                    exact ⟨by rw [HN.out (by unfold Cm.may; dsimp only; omega)]; rfl, below1 w _⟩
              · by_cases hk3 : kd = 3
                · have k1 : ((kd : Int) == 1) = false := by simp; omega
                  have k2 : ((kd : Int) == 2) = false := by simp; omega
                  have k3 : ((kd : Int) == 3) = true := by simp; omega
                  have k4 : ((kd : Int) == 4) = false := by simp; omega
                  have k5 : ((kd : Int) == 5) = false := by simp; omega
                  by_cases hkey : key.size = 0
                  · have key1 := Cm.size_ne key
                    have key2 := Cm.size_eq key
                    have key3 := Cm.size_list key
                    rw [decide_eq_false (by omega)] at key1
                    rw [decide_eq_true (by omega)] at key2 key3
                    go_wp2
                    go_ret
                    exact ⟨by rw [HN.out (by unfold Cm.may; dsimp only; omega)]; rfl, below1 w _⟩
                  · have key1 := Cm.size_ne key
                    have key2 := Cm.size_eq key
                    have key3 := Cm.size_list key
                    rw [decide_eq_true (by omega)] at key1
                    rw [decide_eq_false (by omega)] at key2 key3
                    by_cases hold : old.size = 0
                    · have old1 := Cm.size_ne old
                      have old2 := Cm.size_eq old
                      have old3 := Cm.size_list old
                      rw [decide_eq_false (by omega)] at old1
                      rw [decide_eq_true (by omega)] at old2 old3
                      by_cases hnew : new.size = 0
                      · have new1 := Cm.size_ne new
                        have new2 := Cm.size_eq new
                        have new3 := Cm.size_list new
                        rw [decide_eq_false (by omega)] at new1
                        rw [decide_eq_true (by omega)] at new2 new3
                        by_cases hset : set = 0
                        · have st : ((set : Int) == 0) = true := by simp; omega
                          go_wp2
                          go_ret
                          exact ⟨by rw [HP.out (by unfold Cm.may; dsimp only; omega)]; rfl, below1 w _⟩
                        · have st : ((set : Int) == 0) = false := by simp; omega
                          go_wp2
                          go_ret
                          exact ⟨by rw [HN.out (by unfold Cm.may; dsimp only; omega)]; rfl, below1 w _⟩
                      · have new1 := Cm.size_ne new
                        have new2 := Cm.size_eq new
                        have new3 := Cm.size_list new
                        rw [decide_eq_true (by omega)] at new1
                        rw [decide_eq_false (by omega)] at new2 new3
                        go_wp2
                        go_ret
                        exact ⟨by rw [HN.out (by unfold Cm.may; dsimp only; omega)]; rfl, below1 w _⟩
                    · have old1 := Cm.size_ne old
                      have old2 := Cm.size_eq old
                      have old3 := Cm.size_list old
                      rw [decide_eq_true (by omega)] at old1
                      rw [decide_eq_false (by omega)] at old2 old3
                      go_wp2
                      go_ret
                      exact ⟨by rw [HN.out (by unfold Cm.may; dsimp only; omega)]; rfl, below1 w _⟩
                · by_cases hk4 : kd = 4
                  · have k1 : ((kd : Int) == 1) = false := by simp; omega
                    have k2 : ((kd : Int) == 2) = false := by simp; omega
                    have k3 : ((kd : Int) == 3) = false := by simp; omega
                    have k4 : ((kd : Int) == 4) = true := by simp; omega
                    have k5 : ((kd : Int) == 5) = false := by simp; omega
                    by_cases hkey : key.size = 0
                    · have key1 := Cm.size_ne key
                      have key2 := Cm.size_eq key
                      have key3 := Cm.size_list key
                      rw [decide_eq_false (by omega)] at key1
                      rw [decide_eq_true (by omega)] at key2 key3
                      go_wp2
                      go_ret
                      exact ⟨by rw [HN.out (by unfold Cm.may; dsimp only; omega)]; rfl, below1 w _⟩
                    · have key1 := Cm.size_ne key
                      have key2 := Cm.size_eq key
                      have key3 := Cm.size_list key
                      rw [decide_eq_true (by omega)] at key1
                      rw [decide_eq_false (by omega)] at key2 key3
                      by_cases hset : set = 0
                      · have st : ((set : Int) == 0) = true := by simp; omega
                        go_wp2
                        go_ret
                        exact ⟨by rw [HP.out (by unfold Cm.may; dsimp only; omega)]; rfl, below1 w _⟩
                      · have st : ((set : Int) == 0) = false := by simp; omega
                        go_wp2
                        go_ret
                        exact ⟨by rw [HN.out (by unfold Cm.may; dsimp only; omega)]; rfl, below1 w _⟩
                  · by_cases hk5 : kd = 5
                    · have k1 : ((kd : Int) == 1) = false := by simp; omega
                      have k2 : ((kd : Int) == 2) = false := by simp; omega
                      have k3 : ((kd : Int) == 3) = false := by simp; omega
                      have k4 : ((kd : Int) == 4) = false := by simp; omega
                      have k5 : ((kd : Int) == 5) = true := by simp; omega
                      by_cases hkey : key.size = 0
                      · have key1 := Cm.size_ne key
                        have key2 := Cm.size_eq key
                        have key3 := Cm.size_list key
                        rw [decide_eq_false (by omega)] at key1
                        rw [decide_eq_true (by omega)] at key2 key3
                        by_cases hold : old.size = 0
                        · have old1 := Cm.size_ne old
                          have old2 := Cm.size_eq old
                          have old3 := Cm.size_list old
                          rw [decide_eq_false (by omega)] at old1
                          rw [decide_eq_true (by omega)] at old2 old3
                          by_cases hnew : new.size = 0
                          · have new1 := Cm.size_ne new
                            have new2 := Cm.size_eq new
                            have new3 := Cm.size_list new
                            rw [decide_eq_false (by omega)] at new1
                            rw [decide_eq_true (by omega)] at new2 new3
                            go_wp2
                            go_ret
                            exact ⟨by rw [HP.out (by unfold Cm.may; dsimp only; omega)]; rfl, below1 w _⟩
                          · have new1 := Cm.size_ne new
                            have new2 := Cm.size_eq new
                            have new3 := Cm.size_list new
                            rw [decide_eq_true (by omega)] at new1
                            rw [decide_eq_false (by omega)] at new2 new3
                            go_wp2
                            go_ret
                            exact ⟨by rw [HN.out (by unfold Cm.may; dsimp only; omega)]; rfl, below1 w _⟩
                        · have old1 := Cm.size_ne old
                          have old2 := Cm.size_eq old
                          have old3 := Cm.size_list old
                          rw [decide_eq_true (by omega)] at old1
                          rw [decide_eq_false (by omega)] at old2 old3
                          go_wp2
                          go_ret
                          exact ⟨by rw [HN.out (by unfold Cm.may; dsimp only; omega)]; rfl, below1 w _⟩
                      · have key1 := Cm.size_ne key
                        have key2 := Cm.size_eq key
                        have key3 := Cm.size_list key
                        rw [decide_eq_true (by omega)] at key1
                        rw [decide_eq_false (by omega)] at key2 key3
                        go_wp2
                        go_ret
                        exact ⟨by rw [HN.out (by unfold Cm.may; dsimp only; omega)]; rfl, below1 w _⟩
                    · have k1 : ((kd : Int) == 1) = false := by simp; omega
                      have k2 : ((kd : Int) == 2) = false := by simp; omega
                      have k3 : ((kd : Int) == 3) = false := by simp; omega
                      have k4 : ((kd : Int) == 4) = false := by simp; omega
                      have k5 : ((kd : Int) == 5) = false := by simp; omega
                      go_wp2
                      go_ret
                      exact ⟨by rw [HN.out (by unfold Cm.may; dsimp only; omega)]; rfl, below1 w _⟩
end Cm
end Go.Proofs.Ytdjddbidhaeekaa
