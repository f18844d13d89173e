/-
  The document's queue: Same, Find, Without, Take, Done, Put.
-/
import Derived.Test.YtcfcikpehekfbaaBatWakes
import Derived.Test.YtcfcikpehekfbaaCmdMay
namespace Go.Proofs.Ytcfcikpehekfbaa
open Go.RowKit Go.WideShapes
namespace Bat
set_option maxRecDepth 100000 in
set_option maxHeartbeats 1000000 in
theorem same_any (v u : Value) (l : List Cm) (w : World) (hv : RdT Cm.cells w v l) (hu : RdT Cm.cells w u l) : Calls Try.prog 12 #[v, u] w fun e w' => e = .returned (.bool true) ∧ Below w.heap.size w w' := by
  have HV := Lib.hid hv
  have HU := Lib.hid hu
  obtain ⟨p, cap, rfl, hlen⟩ := hv.len
  obtain ⟨p2, cap2, rfl, _⟩ := hu.len
  clear hv hu
  have t0 : ((l.length : Int) != (l.length : Int)) = false := by simp
  go_enter Try.func12, Try.ntmps12
  go_wp2_with fail
  go_loopw [5] (fun i wr => ∃ k : Nat, k ≤ l.length ∧ i = .int .i64 k ∧ Below w.heap.size w wr) (fun i _ => l.length - (intOf i).toNat)
  case atStart => exact ⟨0, Nat.zero_le _, rfl, Below.refl _ _⟩
  case round =>
    obtain ⟨k, hk, rfl, BB⟩ := hrel
    by_cases hlt : k < l.length
    · have hd : decide ((k : Int) < (l.length : Int)) = true := decide_eq_true (by omega)
      have hd' : decide (k < l.length) = true := decide_eq_true hlt
      obtain ⟨lb, off, cc, e0, g⟩ := rd_one (HV.out.below BB (Nat.le_refl _)) k hlt
      cases e0
      obtain ⟨lc, oc, cd, e1, f⟩ := rd_one (HU.out.below BB (Nat.le_refl _)) k hlt
      cases e1
      obtain ⟨x, hx⟩ : ∃ x, l[k] = x := ⟨_, rfl⟩
      rw [hx] at g f
      clear hx
      have E := cm_neq x x false (by simp)
      have g0 := fun w' hb => g w' hb 0 (by decide)
      have g1 := fun w' hb => g w' hb 1 (by decide)
      have g2 := fun w' hb => g w' hb 2 (by decide)
      have g3 := fun w' hb => g w' hb 3 (by decide)
      have g4 := fun w' hb => g w' hb 4 (by decide)
      have g5 := fun w' hb => g w' hb 5 (by decide)
      have g6 := fun w' hb => g w' hb 6 (by decide)
      have f0 := fun w' hb => f w' hb 0 (by decide)
      have f1 := fun w' hb => f w' hb 1 (by decide)
      have f2 := fun w' hb => f w' hb 2 (by decide)
      have f3 := fun w' hb => f w' hb 3 (by decide)
      have f4 := fun w' hb => f w' hb 4 (by decide)
      have f5 := fun w' hb => f w' hb 5 (by decide)
      have f6 := fun w' hb => f w' hb 6 (by decide)
      simp only [Cm.cells, Nat.add_zero] at g0 g1 g2 g3 g4 g5 g6 f0 f1 f2 f3 f4 f5 f6
      clear g f
      have B0 : Below wr.heap.size wr wr.drew := Below.drew (Below.refl _ _)
      go_wp2_with fail
      refine wp_region_ord (fun w' => Below wr.heap.size wr w') (0 :: 1 :: 2 :: 3 :: 4 :: 5 :: 6 :: 7 :: 8 :: []) [] (by kernel_rfl) (by kernel_rfl) (by intro c d v a w h; cases d <;> exact h) B0 ?_
      repeat (first
        | (refine wpOrd_take (v := ?_) rfl rfl ?_ ?_ ?_; rotate_left; rfl; (· intro w' hSw; (try dsimp only at hSw); go_simp <;> with_reducible rfl); simp only [Act.put, List.setIfInBounds_toArray, List.set_cons_zero, List.set_cons_succ])
        | (refine wpOrd_skip rfl rfl ?_ ?_; rfl; simp only [Act.put, List.setIfInBounds_toArray, List.set_cons_zero, List.set_cons_succ]))
      refine wpOrd_nil ?_
      go_wp2_with fail
      go_roundw
      case rel => exact ⟨k + 1, by omega, by go_num, BB.drew⟩
      case measure => simp [intOf]; omega
    · have hd : decide ((k : Int) < (l.length : Int)) = false := decide_eq_false (by omega)
      have hd' : decide (k < l.length) = false := decide_eq_false hlt
      go_wp2_with fail
      go_ret
      exact ⟨rfl, BB⟩
set_option maxRecDepth 100000 in
theorem find_any (v : Value) (l : List Cm) (c : Nat) (w : World) (hv : RdT Cm.cells w v l) : Calls Try.prog 23 #[v, .int .u8 c] w fun e w' => e = .returned (.int .i64 (idx (fun y => decide (y.cl = c)) l)) ∧ w = w' := by
  have HV := Lib.hid hv
  obtain ⟨p, cap, rfl, hlen⟩ := hv.len
  clear hv
  have HI := Lib.hid (idx_hit (fun y => decide (y.cl = c)) l)
  have HN := Lib.hid (idx_none (fun y => decide (y.cl = c)) l)
  obtain ⟨I, hI⟩ : ∃ I, idx (fun y => decide (y.cl = c)) l = I := ⟨_, rfl⟩
  rw [hI] at HI HN ⊢
  clear hI
  go_enter Try.func23, Try.ntmps23
  go_wp2_with fail
  go_loopw [5] (fun i wr => ∃ k : Nat, k ≤ l.length ∧ i = .int .i64 k ∧ (∀ j (_ : j < k) (h : j < l.length), decide ((l[j]).cl = c) = false) ∧ wr = w) (fun i _ => l.length - (intOf i).toNat)
  case atStart => exact ⟨0, Nat.zero_le _, rfl, by simp, rfl⟩
  case round =>
    obtain ⟨k, hk, rfl, hpre, rfl⟩ := hrel
    have HPRE := Lib.hid hpre
    clear hpre
    by_cases hlt : k < l.length
    · have hd : decide ((k : Int) < (l.length : Int)) = true := decide_eq_true (by omega)
      have hd' : decide (k < l.length) = true := decide_eq_true hlt
      obtain ⟨lb, off, e0, g⟩ := HV.out.at 7 (by decide) Cm.cells_len k hlt
      subst e0
      have HH := Lib.hid (HI.out k hlt)
      obtain ⟨x, hx⟩ : ∃ x, l[k] = x := ⟨_, rfl⟩
      rw [hx] at g HH
      have HX := Lib.hid hx
      have g0 := g 0 (by decide)
      simp only [Cm.cells, Nat.add_zero] at g0
      clear g hx
      by_cases e1 : x.cl = c
      · have t1 : ((x.cl : Int) == (c : Int)) = true := by simp [e1]
        have HZ := Lib.hid (HH.out (decide_eq_true e1) (fun j hj => HPRE.out j hj _))
        clear e1
        go_wp2_with fail
        go_ret
        exact ⟨by rw [HZ.out]; rfl, rfl⟩
      · have t1 : ((x.cl : Int) == (c : Int)) = false := by rw [beq_nat]; exact decide_eq_false e1
        have HF := Lib.hid (show decide (x.cl = c) = false from decide_eq_false e1)
        clear e1
        go_wp2_with fail
        go_roundw
        case rel => exact ⟨k + 1, by omega, by go_num, fun j hj h => by
            rcases Nat.lt_succ_iff_lt_or_eq.1 hj with h2 | h2
            · exact HPRE.out j h2 h
            · subst h2; rw [HX.out]; exact HF.out, by first | trivial | rfl⟩
        case measure => simp [intOf]; omega
    · have hd : decide ((k : Int) < (l.length : Int)) = false := decide_eq_false (by omega)
      have hd' : decide (k < l.length) = false := decide_eq_false hlt
      have HZ := Lib.hid (HN.out (fun j hj => HPRE.out j (by omega) hj))
      go_wp2_with fail
      go_ret
      exact ⟨by rw [HZ.out]; rfl, rfl⟩
theorem rd_first {w : World} {a : Addr} {n cap : Nat} {l : List Cm} (h : RdT Cm.cells w (.slice (some a) n cap) l) (i c2 : Nat) (hi : i ≤ l.length) : RdT Cm.cells w (.slice (some a) i c2) (l.take i) := by
  obtain ⟨p, c, e, hn, hc, _⟩ := h
  cases e
  refine ⟨some a, c2, by rw [List.length_take, Nat.min_eq_left hi], by rw [List.length_take]; omega, fun j u hj => ?_, fun e => by cases e⟩
  refine hc j u ?_
  have hj' : (flat (l.take i))[j]? = some u := hj
  rw [flat_take, List.getElem?_take] at hj'
  split at hj'
  · exact hj'
  · cases hj'
theorem rd_rest {w : World} {b off n cap : Nat} {l : List Cm} (h : RdT Cm.cells w (.slice (some ⟨b, off, none⟩) n cap) l) (i c2 : Nat) : RdT Cm.cells w (.slice (some ⟨b, off + i * 7, none⟩) (l.length - i) c2) (l.drop i) := by
  obtain ⟨p, c, e, hn, hc, _⟩ := h
  cases e
  refine ⟨some ⟨b, off + i * 7, none⟩, c2, by rw [List.length_drop], by rw [List.length_drop]; omega, fun j u hj => ?_, fun e => by cases e⟩
  have hj' : (flat (l.drop i))[j]? = some u := hj
  rw [flat_drop, List.getElem?_drop] at hj'
  obtain ⟨b2, off2, e2, hcell⟩ := hc _ u hj'
  cases e2
  exact ⟨b, off + i * 7, rfl, by rw [← hcell]; congr 2; omega⟩
/-- The capacity holds what there is; the address is a plain one. -/
def Fits (v : Value) : Prop := ∀ p n c, v = .slice p n c → n ≤ c ∧ ∀ a, p = some a → ∃ b o, a = ⟨b, o, none⟩
theorem rd_empty (w : World) (a : Addr) (c : Nat) : RdT Cm.cells w (.slice (some a) 0 c) [] := ⟨some a, c, rfl, by simp, fun j u hj => by simp at hj, fun e => by cases e⟩
set_option maxRecDepth 100000 in
set_option maxHeartbeats 2000000 in
theorem without_any (v : Value) (l : List Cm) (hl : l.length ≤ 100000) (i : Nat) (hi : i < l.length) (W : World) (hv : RdT Cm.cells W v l) (hcv : Fits v) :
    Calls Try.prog 24 #[v, .int .i64 i] W fun e w' => ∃ v', e = .returned v' ∧ w'.ownsRow W.heap.size 30 7 v' (l.take i ++ l.drop (i + 1)).length (flat (l.take i ++ l.drop (i + 1))) ∧ Below W.heap.size W w' := by
  obtain ⟨p, cap, rfl, _⟩ := hv.len
  obtain ⟨b, off, rfl, _⟩ := hv.at 7 (by decide) Cm.cells_len i hi
  have HA := Lib.hid (rd_first hv i cap (by omega))
  have B0 : Below W.heap.size W W.drew := Below.drew (Below.refl _ _)
  have hc0 : l.length ≤ cap := (hcv _ _ _ rfl).1
  obtain ⟨j, hj⟩ : ∃ j, i + 1 = j := ⟨_, rfl⟩
  have hw : IntKind.i64.wrap ((i : Int) + 1) = (j : Int) := by rw [IntKind.wrap_i64]; omega
  rw [hj]
  · have q1 : (i : Int) ≤ (cap : Int) := by omega
    have q3 : (j : Int) ≤ (l.length : Int) := by omega
    have HJ := Lib.hid hj
    by_cases hcap : cap = j
    · have HB := Lib.hid (show RdT Cm.cells W (.slice (some ⟨b, off, none⟩) 0 0) (l.drop j) by rw [List.drop_of_length_le (by omega)]; exact rd_empty _ _ _)
      clear hj
      have hcap2 := hcap.symm
      subst hcap2
      go_enter Try.func24, Try.ntmps24
      go_wp2_with fail
      refine wp_region_ord (fun w' => Below W.heap.size W w') (0 :: 1 :: 2 :: 4 :: 5 :: 6 :: 7 :: 3 :: 8 :: 9 :: []) [3, 8] (by kernel_rfl) (by kernel_rfl) (by intro c d v a w h; cases d <;> exact h) B0 ?_
      repeat (first
        | (refine wpOrd_take (v := ?_) rfl rfl ?_ ?_ ?_; rotate_left; rfl; (· intro w' hSw; (try dsimp only at hSw); go_simp <;> with_reducible rfl); simp only [Act.put, List.setIfInBounds_toArray, List.set_cons_zero, List.set_cons_succ])
        | (refine wpOrd_skip rfl rfl ?_ ?_; rfl; simp only [Act.put, List.setIfInBounds_toArray, List.set_cons_zero, List.set_cons_succ]))
      refine wpOrd_eff rfl rfl (fun K hK => ?_)
      refine appNg rfl _ _ 27 rfl W.heap.size 30 Cm.zero.val 7 72 infoC Try.underlying27 rfl (by decide) W.drew (.slice none 0 0) 0 [] ⟨rfl, .inl ⟨rfl, rfl⟩⟩ rfl _ (l.take i).length (flat (l.take i)) HA.out (rows_length Cm.cells 7 Cm.cells_len _) (one_cells _) rfl (by rw [List.length_take]; omega) (by rw [List.length_take]; omega) (Nat.le_refl _) ?_
      intro v1 w1 ho1 g1
      rw [Nat.zero_add, List.nil_append] at ho1
      have B1 : Below W.heap.size W w1 := g1.below (Below.drew (Below.refl _ _)) (Nat.le_refl _) (fun c hc => by cases hc)
      have HB1 := Lib.hid (HB.out.below B1 (Nat.le_refl _))
      go_wp2_with fail
      refine hK.out _ _ B1 ?_
      clear hK K
      repeat (first
        | (refine wpOrd_take (v := ?_) rfl rfl ?_ ?_ ?_; rotate_left; rfl; (· intro w' hSw; (try dsimp only at hSw); go_simp <;> with_reducible rfl); simp only [Act.put, List.setIfInBounds_toArray, List.set_cons_zero, List.set_cons_succ])
        | (refine wpOrd_skip rfl rfl ?_ ?_; rfl; simp only [Act.put, List.setIfInBounds_toArray, List.set_cons_zero, List.set_cons_succ]))
      refine wpOrd_eff rfl rfl (fun K hK => ?_)
      refine appNg rfl _ _ 27 rfl W.heap.size 30 Cm.zero.val 7 72 infoC Try.underlying27 rfl (by decide) w1 v1 (l.take i).length (flat (l.take i)) ho1 rfl _ (l.drop j).length (flat (l.drop j)) HB1.out (rows_length Cm.cells 7 Cm.cells_len _) (one_cells _) rfl (by rw [List.length_take, List.length_drop]; omega) (by rw [List.length_take, List.length_drop]; omega) B1.size ?_
      intro v2 w2 ho2 g2
      have B2 := g2.below B1 B1.size (own_base ho1)
      have ho3 : w2.ownsRow W.heap.size 30 7 v2 (l.take i ++ l.drop j).length (flat (l.take i ++ l.drop j)) := by
        rw [List.length_append]; unfold flat at ho2 ⊢; rw [List.flatMap_append]; exact ho2
      go_wp2_with fail
      refine hK.out _ _ B2 ?_
      clear hK K
      repeat (first
        | (refine wpOrd_take (v := ?_) rfl rfl ?_ ?_ ?_; rotate_left; rfl; (· intro w' hSw; (try dsimp only at hSw); go_simp <;> with_reducible rfl); simp only [Act.put, List.setIfInBounds_toArray, List.set_cons_zero, List.set_cons_succ])
        | (refine wpOrd_skip rfl rfl ?_ ?_; rfl; simp only [Act.put, List.setIfInBounds_toArray, List.set_cons_zero, List.set_cons_succ]))
      refine wpOrd_nil ?_
      go_wp2_with fail
      go_ret
      exact ⟨_, rfl, ho3, B2⟩
    · have HB := Lib.hid (rd_rest hv j (cap - j))
      clear hj
      go_enter Try.func24, Try.ntmps24
      go_wp2_with fail
      refine wp_region_ord (fun w' => Below W.heap.size W w') (0 :: 1 :: 2 :: 4 :: 5 :: 6 :: 7 :: 3 :: 8 :: 9 :: []) [3, 8] (by kernel_rfl) (by kernel_rfl) (by intro c d v a w h; cases d <;> exact h) B0 ?_
      repeat (first
        | (refine wpOrd_take (v := ?_) rfl rfl ?_ ?_ ?_; rotate_left; rfl; (· intro w' hSw; (try dsimp only at hSw); go_simp <;> with_reducible rfl); simp only [Act.put, List.setIfInBounds_toArray, List.set_cons_zero, List.set_cons_succ])
        | (refine wpOrd_skip rfl rfl ?_ ?_; rfl; simp only [Act.put, List.setIfInBounds_toArray, List.set_cons_zero, List.set_cons_succ]))
      refine wpOrd_eff rfl rfl (fun K hK => ?_)
      refine appNg rfl _ _ 27 rfl W.heap.size 30 Cm.zero.val 7 72 infoC Try.underlying27 rfl (by decide) W.drew (.slice none 0 0) 0 [] ⟨rfl, .inl ⟨rfl, rfl⟩⟩ rfl _ (l.take i).length (flat (l.take i)) HA.out (rows_length Cm.cells 7 Cm.cells_len _) (one_cells _) rfl (by rw [List.length_take]; omega) (by rw [List.length_take]; omega) (Nat.le_refl _) ?_
      intro v1 w1 ho1 g1
      rw [Nat.zero_add, List.nil_append] at ho1
      have B1 : Below W.heap.size W w1 := g1.below (Below.drew (Below.refl _ _)) (Nat.le_refl _) (fun c hc => by cases hc)
      have HB1 := Lib.hid (HB.out.below B1 (Nat.le_refl _))
      go_wp2_with fail
      refine hK.out _ _ B1 ?_
      clear hK K
      repeat (first
        | (refine wpOrd_take (v := ?_) rfl rfl ?_ ?_ ?_; rotate_left; rfl; (· intro w' hSw; (try dsimp only at hSw); go_simp <;> with_reducible rfl); simp only [Act.put, List.setIfInBounds_toArray, List.set_cons_zero, List.set_cons_succ])
        | (refine wpOrd_skip rfl rfl ?_ ?_; rfl; simp only [Act.put, List.setIfInBounds_toArray, List.set_cons_zero, List.set_cons_succ]))
      refine wpOrd_eff rfl rfl (fun K hK => ?_)
      refine appNg rfl _ _ 27 rfl W.heap.size 30 Cm.zero.val 7 72 infoC Try.underlying27 rfl (by decide) w1 v1 (l.take i).length (flat (l.take i)) ho1 rfl _ (l.drop j).length (flat (l.drop j)) HB1.out (rows_length Cm.cells 7 Cm.cells_len _) (one_cells _) rfl (by rw [List.length_take, List.length_drop]; omega) (by rw [List.length_take, List.length_drop]; omega) B1.size ?_
      intro v2 w2 ho2 g2
      have B2 := g2.below B1 B1.size (own_base ho1)
      have ho3 : w2.ownsRow W.heap.size 30 7 v2 (l.take i ++ l.drop j).length (flat (l.take i ++ l.drop j)) := by
        rw [List.length_append]; unfold flat at ho2 ⊢; rw [List.flatMap_append]; exact ho2
      go_wp2_with fail
      refine hK.out _ _ B2 ?_
      clear hK K
      repeat (first
        | (refine wpOrd_take (v := ?_) rfl rfl ?_ ?_ ?_; rotate_left; rfl; (· intro w' hSw; (try dsimp only at hSw); go_simp <;> with_reducible rfl); simp only [Act.put, List.setIfInBounds_toArray, List.set_cons_zero, List.set_cons_succ])
        | (refine wpOrd_skip rfl rfl ?_ ?_; rfl; simp only [Act.put, List.setIfInBounds_toArray, List.set_cons_zero, List.set_cons_succ]))
      refine wpOrd_nil ?_
      go_wp2_with fail
      go_ret
      exact ⟨_, rfl, ho3, B2⟩
/-- Commands of clients each its own. -/
def U (l : List Cm) : Prop := l.Pairwise (fun a b => a.cl ≠ b.cl)
theorem U.filter {l : List Cm} (h : U l) (p : Cm → Bool) : U (l.filter p) := List.Pairwise.filter p h
theorem U.drop {l : List Cm} (h : U l) (n : Nat) : U (l.drop n) := List.Pairwise.sublist (List.drop_sublist n l) h
theorem U.put {l : List Cm} (h : U l) (x : Cm) : U (qPut l x).1 := by
  unfold qPut
  split
  · split
    · rename_i hn
      have hno : ∀ y ∈ l, y.cl ≠ x.cl := by
        intro y hy e
        unfold pos at hn
        rw [List.getElem?_eq_none_iff] at hn
        have := List.findIdx_eq_length.1 (Nat.le_antisymm List.findIdx_le_length hn) y hy
        simp [e] at this
      exact List.pairwise_append.2 ⟨h, List.pairwise_singleton _ _, fun a ha b hb => by rw [List.mem_singleton] at hb; subst hb; exact hno a ha⟩
    · split
      · exact h
      · split
        · exact h
        · refine List.pairwise_append.2 ⟨h.filter _, List.pairwise_singleton _ _, fun a ha b hb => ?_⟩
          rw [List.mem_singleton] at hb
          subst hb
          have := (List.mem_filter.1 ha).2
          simpa using this
  · exact h
theorem U.done {l : List Cm} (h : U l) (c s : Nat) : U (qDone l c s) := h.filter _
theorem U.others {l : List Cm} (h : U l) (i : Nat) (hi : i < l.length) : (∀ y ∈ l.take i, y.cl ≠ (l[i]).cl) ∧ ∀ y ∈ l.drop (i + 1), y.cl ≠ (l[i]).cl := by
  have e : l = l.take i ++ l[i] :: l.drop (i + 1) := by rw [← List.drop_eq_getElem_cons hi, List.take_append_drop]
  unfold U at h
  rw [e] at h
  have h1 := List.pairwise_append.1 h
  have h2 := List.pairwise_cons.1 h1.2.1
  exact ⟨fun y hy => h1.2.2 y hy _ List.mem_cons_self, fun y hy he => h2.1 y hy he.symm⟩
theorem filter_without {l : List Cm} (h : U l) (i : Nat) (hi : i < l.length) (p : Cm → Bool) (hp : p l[i] = true) (hn : ∀ y, p y = true → y.cl = (l[i]).cl) : l.filter (fun y => !p y) = l.take i ++ l.drop (i + 1) := by
  obtain ⟨o1, o2⟩ := h.others i hi
  have e : l.filter (fun y => !p y) = (l.take i).filter (fun y => !p y) ++ (l[i] :: l.drop (i + 1)).filter (fun y => !p y) := by
    rw [← List.filter_append, ← List.drop_eq_getElem_cons hi, List.take_append_drop]
  have f1 : (l.take i).filter (fun y => !p y) = l.take i := List.filter_eq_self.2 (fun y hy => by
    cases hpy : p y
    · rfl
    · exact absurd (hn y hpy) (o1 y hy))
  have f2 : (l.drop (i + 1)).filter (fun y => !p y) = l.drop (i + 1) := List.filter_eq_self.2 (fun y hy => by
    cases hpy : p y
    · rfl
    · exact absurd (hn y hpy) (o2 y hy))
  rw [e, f1, List.filter_cons, if_neg (by rw [hp]; simp), f2]
theorem qDone_hit {l : List Cm} (h : U l) (i : Nat) (hi : i < l.length) (c s : Nat) (hc : (l[i]).cl = c) (hs : (l[i]).sq ≤ s) : qDone l c s = l.take i ++ l.drop (i + 1) :=
  filter_without h i hi (fun y => decide (y.cl = c ∧ y.sq ≤ s)) (decide_eq_true ⟨hc, hs⟩) (fun y hy => by rw [hc]; exact (of_decide_eq_true hy).1)
theorem qDone_late {l : List Cm} (h : U l) (i : Nat) (hi : i < l.length) (c s : Nat) (hc : (l[i]).cl = c) (hs : ¬ (l[i]).sq ≤ s) : qDone l c s = l := by
  refine List.filter_eq_self.2 (fun y hy => ?_)
  cases hpy : decide (y.cl = c ∧ y.sq ≤ s)
  · rfl
  · exfalso
    have h2 := of_decide_eq_true hpy
    obtain ⟨o1, o2⟩ := h.others i hi
    have e : l = l.take i ++ l[i] :: l.drop (i + 1) := by rw [← List.drop_eq_getElem_cons hi, List.take_append_drop]
    rw [e] at hy
    rcases List.mem_append.1 hy with g | g
    · exact o1 y g (by rw [h2.1, hc])
    · rcases List.mem_cons.1 g with g | g
      · rw [g] at h2; exact hs h2.2
      · exact o2 y g (by rw [h2.1, hc])
theorem qDone_none (l : List Cm) (c s : Nat) (h : idx (fun y => decide (y.cl = c)) l = -1) : qDone l c s = l := by
  refine List.filter_eq_self.2 (fun y hy => ?_)
  rcases idx_cases (fun y => decide (y.cl = c)) l with ⟨_, h2⟩ | ⟨i, hi, h2, _⟩
  · rw [List.filter_eq_self] at h2
    have := h2 y hy
    simp only [Bool.not_eq_true', decide_eq_false_iff_not] at this ⊢
    exact fun g => this g.1
  · rw [h] at h2; omega
/-- What comes of a slice: it, or a new one. -/
def From (w : World) (v v' : Value) : Prop := v'.ownBlock = none ∨ v'.ownBlock = v.ownBlock ∨ ∀ b, v'.ownBlock = some b → w.heap.size ≤ b
theorem fits_own {w : World} {base : Nat} {e : TypeId} {size : Nat} {v : Value} {n : Nat} {xs : List Value} (h : w.ownsRow base e size v n xs) : Fits v := by
  rcases h.2 with ⟨rfl, _⟩ | ⟨g, cap, cur, rfl, _, _, hle, _⟩
  · intro p n c e; cases e; exact ⟨Nat.le_refl _, fun a h => by cases h⟩
  · intro p n c e; cases e; exact ⟨hle, fun a h => by cases h; exact ⟨_, _, rfl⟩⟩
set_option maxRecDepth 100000 in
set_option maxHeartbeats 2000000 in
theorem rdone_any (v : Value) (l : List Cm) (hl : l.length ≤ 100000) (hU : U l) (c s : Nat) (w : World) (hv : RdT Cm.cells w v l) (hcv : Fits v) (hlt : ∀ b, v.ownBlock = some b → b < w.heap.size) :
    Calls Try.prog 14 #[v, .int .u8 c, .int .u32 s] w fun e w' => ∃ v', e = .returned v' ∧ RdT Cm.cells w' v' (qDone l c s) ∧ Below w.heap.size w w' ∧ Fits v' ∧ From w v v' ∧ ∀ b, v'.ownBlock = some b → b < w'.heap.size := by
  have HV := Lib.hid hv
  have HF := Lib.hid (find_any v l c w hv)
  rcases idx_cases (fun y => decide (y.cl = c)) l with ⟨h1, _⟩ | ⟨i, hi, h1, hpi, _⟩
  · have HR := Lib.hid (qDone_none l c s h1)
    rw [h1] at HF
    obtain ⟨p, cap, rfl, _⟩ := hv.len
    have d0 : decide ((0 : Int) ≤ -1) = false := by decide
    clear hv h1
    go_enter Try.func14, Try.ntmps14
    go_wp2_with fail
    refine HF.out.mono ?_
    rintro e w1 ⟨rfl, rfl⟩
    have B0 : Below w.heap.size w w := Below.refl _ _
    go_wp2_with fail
    go_ret
    exact ⟨_, rfl, by rw [HR.out]; exact HV.out.later B0, B0, hcv, .inr (.inl rfl), fun b hb => Nat.lt_of_lt_of_le (hlt b hb) B0.size⟩
  · rw [h1] at HF
    have d0 : decide ((0 : Int) ≤ (i : Int)) = true := decide_eq_true (by omega)
    have HW := Lib.hid (without_any v l hl i hi w hv hcv)
    have hci : (l[i]).cl = c := of_decide_eq_true hpi
    have HH := Lib.hid (qDone_hit hU i hi c s hci)
    have HT := Lib.hid (qDone_late hU i hi c s hci)
    obtain ⟨lb, off, cap, rfl, g⟩ := rd_one hv i hi
    have hil : decide ((i : Int) < (l.length : Int)) = true := decide_eq_true (by omega)
    obtain ⟨x, hx⟩ : ∃ x, l[i] = x := ⟨_, rfl⟩
    rw [hx] at g HH HT
    have g1 := g w (Below.refl _ _) 1 (by decide)
    simp only [Cm.cells] at g1
    clear hv h1 hpi hci hx g
    have B0 : Below w.heap.size w w := Below.refl _ _
    by_cases hs : x.sq ≤ s
    · have t1 : decide ((x.sq : Int) ≤ (s : Int)) = true := decide_eq_true (by omega)
      have t2 : decide (x.sq ≤ s) = true := decide_eq_true hs
      have HR := Lib.hid (HH.out hs)
      clear hs
      go_enter Try.func14, Try.ntmps14
      go_wp2_with fail
      refine HF.out.mono ?_
      rintro e w1 ⟨rfl, rfl⟩
      go_wp2_with fail
      refine HW.out.mono ?_
      rintro e w2 ⟨v2, rfl, ho, b2⟩
      go_wp2
      go_ret
      exact ⟨_, rfl, by rw [HR.out]; exact RdT.owns ho, B0.trans b2, fits_own ho, .inr (.inr (own_base ho)), fun b hb => (ho.lt b hb).2⟩
    · have t1 : decide ((x.sq : Int) ≤ (s : Int)) = false := decide_eq_false (by omega)
      have t2 : decide (x.sq ≤ s) = false := decide_eq_false hs
      have HR := Lib.hid (HT.out hs)
      clear hs
      go_enter Try.func14, Try.ntmps14
      go_wp2_with fail
      refine HF.out.mono ?_
      rintro e w1 ⟨rfl, rfl⟩
      go_wp2_with fail
      go_ret
      exact ⟨_, rfl, by rw [HR.out]; exact HV.out.later B0, B0, hcv, .inr (.inl rfl), fun b hb => Nat.lt_of_lt_of_le (hlt b hb) B0.size⟩
end Bat
end Go.Proofs.Ytcfcikpehekfbaa
