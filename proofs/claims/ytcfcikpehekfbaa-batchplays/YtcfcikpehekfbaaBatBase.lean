/-
  The library's IndexFunc, DeleteFunc and Clone at rows of commands, with the queue's two closures.
-/
import Derived.Test.YtcfcikpehekfbaaCmdPure
import Derived.Test.YtcfcikpehekfbaaApart
import Derived.Test.YtcfcikpehekfbaaBlk
import Derived.Test.YtcfcikpehekfbaaElem
import Derived.Lib.SliceRun
import Derived.Deep.DeepCutAuto
namespace Go.Proofs.Ytcfcikpehekfbaa
open Go.RowKit Go.WideShapes
namespace Bat
abbrev flat (l : List Cm) : List Value := l.flatMap Cm.cells
theorem infoC : (Try.prog.info? 30).map (fun i => (i.zero, i.size, i.bytes)) = some (some Cm.zero.val, 7, 72) := by kernel_rfl
theorem beq_nat (a b : Nat) : ((a : Int) == (b : Int)) = decide (a = b) := by
  by_cases h : a = b
  · rw [decide_eq_true h, beq_iff_eq]; omega
  · rw [decide_eq_false h, beq_eq_false_iff_ne]; omega
theorem own_any (x : Cm) (cl cb : Nat) (w : World) (hc : w.cell? ⟨cb, 0, none⟩ = some (.int .u8 cl)) (f : Bool) (hf : decide (x.cl = cl) = f) :
    Calls Try.prog 27 #[x.val, .pointer (some ⟨cb, 0, none⟩)] w fun e w' => e = .returned (.bool f) ∧ Below w.heap.size w w' := by
  have h1 := Lib.cell?_alloc_some (.cells #[.int .u8 x.cl, .int .u32 x.sq, .int .u8 x.kd, .string x.key, .string x.old, .string x.new, .int .u8 x.set] 30) hc
  have h2 : ((x.cl : Int) == (cl : Int)) = f := by rw [← hf]; exact beq_nat _ _
  clear hf
  go_enter Try.func27, Try.ntmps27
  go_wp2
  go_ret
  exact ⟨rfl, below1 w _⟩
theorem done_any (x : Cm) (cl sq cb sb : Nat) (w : World) (hc : w.cell? ⟨cb, 0, none⟩ = some (.int .u8 cl)) (hs : w.cell? ⟨sb, 0, none⟩ = some (.int .u32 sq)) (f : Bool) (hf : decide (x.cl = cl ∧ x.sq ≤ sq) = f) :
    Calls Try.prog 22 #[x.val, .pointer (some ⟨cb, 0, none⟩), .pointer (some ⟨sb, 0, none⟩)] w fun e w' => e = .returned (.bool f) ∧ Below w.heap.size w w' := by
  have h1 := Lib.cell?_alloc_some (.cells #[.int .u8 x.cl, .int .u32 x.sq, .int .u8 x.kd, .string x.key, .string x.old, .string x.new, .int .u8 x.set] 30) hc
  have h2 := Lib.cell?_alloc_some (.cells #[.int .u8 x.cl, .int .u32 x.sq, .int .u8 x.kd, .string x.key, .string x.old, .string x.new, .int .u8 x.set] 30) hs
  by_cases h3 : x.cl = cl
  · have h4 : ((x.cl : Int) == (cl : Int)) = true := by simp [h3]
    have h5 : decide (x.sq ≤ sq) = f := by rw [← hf]; simp [h3]
    have h6 : decide ((x.sq : Int) ≤ (sq : Int)) = f := by rw [← h5]; simp
    clear hf h3
    go_enter Try.func22, Try.ntmps22
    go_wp2
    go_ret
    exact ⟨rfl, below1 w _⟩
  · have h4 : ((x.cl : Int) == (cl : Int)) = false := by simp; omega
    have h5 : f = false := by rw [← hf]; simp [h3]
    subst h5
    clear hf h3
    go_enter Try.func22, Try.ntmps22
    go_wp2
    go_ret
    exact ⟨rfl, below1 w _⟩
/-- Where a predicate holds first; below 0: nowhere. -/
def idx (p : Cm → Bool) (l : List Cm) : Int := if l.findIdx p < l.length then (l.findIdx p : Int) else -1
theorem idx_hit (p : Cm → Bool) (l : List Cm) (k : Nat) (h : k < l.length) (hp : p l[k] = true) (hn : ∀ j (hj : j < k), p (l[j]'(by omega)) = false) : idx p l = k := by
  have e : l.findIdx p = k := (List.findIdx_eq h).2 ⟨hp, hn⟩
  unfold idx
  rw [e, if_pos h]
theorem idx_none (p : Cm → Bool) (l : List Cm) (hn : ∀ j (hj : j < l.length), p l[j] = false) : idx p l = -1 := by
  have e : l.findIdx p = l.length := List.findIdx_eq_length.2 (fun x hx => by obtain ⟨j, hj, rfl⟩ := List.getElem_of_mem hx; exact hn j hj)
  unfold idx
  rw [e, if_neg (by omega)]
theorem one_cells (l : List Cm) : ∀ u ∈ flat l, u.oneCell' = true := by
  intro u hu
  obtain ⟨x, _, hx⟩ := List.mem_flatMap.1 hu
  simp only [Cm.cells, List.mem_cons, List.not_mem_nil, or_false] at hx
  rcases hx with rfl | rfl | rfl | rfl | rfl | rfl | rfl <;> rfl
theorem clone_any (v : Value) (l : List Cm) (hl : l.length ≤ 1000000) (w : World) (hv : RdT Cm.cells w v l) :
    Calls Try.prog 20 #[v] w fun e w' => ∃ v', e = .returned v' ∧ w'.ownsRow w.heap.size 30 7 v' l.length (flat l) ∧ Below w.heap.size w w' := by
  obtain ⟨p, cap, rfl, _⟩ := hv.len
  cases p with
  | none =>
    obtain ⟨p', cap', e, _, _, h0⟩ := hv
    cases e
    obtain ⟨h1, h2⟩ := h0 rfl
    have hln : l = [] := List.eq_nil_of_length_eq_zero (by first | exact h1 | exact h2)
    have hcap : cap = 0 := by first | exact h1 | exact h2
    subst hln hcap
    have he := fun w => Lib.run_eql_slice_nil w 27 30 none 0 0 0 0 Try.underlying27
    clear h0 h1 h2
    simp only [List.length_nil]
    go_enter Try.func20, Try.ntmps20
    go_wp2
    go_ret
    exact ⟨_, rfl, ⟨rfl, .inl ⟨rfl, rfl⟩⟩, Below.refl _ _⟩
  | some a =>
    have hrows := rows_length Cm.cells 7 Cm.cells_len l
    have he := fun w => Lib.run_eql_slice_nil w 27 30 (some a) l.length cap 0 0 Try.underlying27
    have H1 := Lib.hid (one_cells l)
    have HV := Lib.hid (hv.below (below1 w (.cells #[] 30)) (Nat.le_refl _))
    have ho : (w.alloc (.cells #[] 30)).ownsRow w.heap.size 30 7 (.slice (some ⟨w.heap.size, 0, none⟩) 0 0) 0 [] := ⟨rfl, .inr ⟨_, 0, #[], rfl, Nat.le_refl _, Blk.new _ _, Nat.le_refl _, by decide, rfl, rfl⟩⟩
    go_enter Try.func20, Try.ntmps20
    go_wp2_with (at_builtin; go_loud (refine appNg rfl _ _ 27 rfl w.heap.size 30 Cm.zero.val 7 72 infoC Try.underlying27 rfl (by decide) _ _ 0 [] ho rfl _ l.length (flat l) HV.out hrows H1.out rfl (by omega) (by omega) (by simp) ?_; intro v' w1 ho1 gr1))
    go_ret
    rw [Nat.zero_add, List.nil_append] at ho1
    exact ⟨_, rfl, ho1, gr1.below (below1 w _) (by simp) (fun c hc => by cases hc; exact Nat.le_refl _)⟩
set_option maxRecDepth 100000 in
set_option maxHeartbeats 1000000 in
theorem idxP_any (cl cb : Nat) (v : Value) (l : List Cm) (w : World) (hv : RdT Cm.cells w v l) (hc : ∀ w', Below w.heap.size w w' → w'.cell? ⟨cb, 0, none⟩ = some (.int .u8 cl)) :
    Calls Try.prog 28 #[v, .func (.func 27) #[] #[.pointer (some ⟨cb, 0, none⟩)]] w fun e w' => e = .returned (.int .i64 (idx (fun x => decide (x.cl = cl)) l)) ∧ Below w.heap.size w w' := by
  have HV := Lib.hid hv
  have HC := Lib.hid hc
  obtain ⟨p, cap, rfl, hlen⟩ := hv.len
  clear hv hc
  obtain ⟨P, hP⟩ : ∃ P : Cm → Bool, (fun x => decide (x.cl = cl)) = P := ⟨_, rfl⟩
  have HPR := Lib.hid (fun x => congrFun hP x)
  rw [hP]
  have HI := Lib.hid (idx_hit P l)
  have HN := Lib.hid (idx_none P l)
  clear hP
  go_enter Try.func28, Try.ntmps28
  go_wp2_with fail
  go_loopw [8] (fun i wr => ∃ k : Nat, k ≤ l.length ∧ i = .int .i64 k ∧ (∀ j (_ : j < k) (h : j < l.length), P l[j] = false) ∧ Below w.heap.size w wr) (fun i _ => l.length - (intOf i).toNat)
  case atStart => exact ⟨0, Nat.zero_le _, rfl, by simp, Below.refl _ _⟩
  case round =>
    obtain ⟨k, hk, rfl, hpre, BB⟩ := hrel
    have HPRE := Lib.hid hpre
    clear hpre
    by_cases hlt : k < l.length
    · have hd : decide ((k : Int) < (l.length : Int)) = true := decide_eq_true (by omega)
      have hd' : decide (k < l.length) = true := decide_eq_true hlt
      obtain ⟨lb, off, e0, g⟩ := (HV.out.below BB (Nat.le_refl _)).at 7 (by decide) Cm.cells_len k hlt
      subst e0
      have HXE := Lib.hid (HI.out k hlt)
      have HPX := Lib.hid (HPR.out l[k])
      have HPK := Lib.hid (show ∀ f, P l[k] = f → P l[k] = f from fun _ h => h)
      have HKX : ∀ x, l[k] = x → RowKit.Hid (P l[k] = P x) := fun x h => Lib.hid (by rw [h])
      obtain ⟨x, hx⟩ : ∃ x, l[k] = x := ⟨_, rfl⟩
      have HKE := HKX x hx
      rw [hx] at g HPX
      clear HKX hx HPK
      have g0 := g 0 (by decide)
      have g1 := g 1 (by decide)
      have g2 := g 2 (by decide)
      have g3 := g 3 (by decide)
      have g4 := g 4 (by decide)
      have g5 := g 5 (by decide)
      have g6 := g 6 (by decide)
      simp only [Cm.cells, Nat.add_zero] at g0 g1 g2 g3 g4 g5 g6
      clear g
      go_wp2_with fail
      refine (own_any x cl cb _ (HC.out _ BB) _ rfl).mono ?_
      rintro e w1 ⟨rfl, b1⟩
      have hpx := HPX.out
      have BB1 := Below.later' BB b1
      rw [hpx]
      cases hpx2 : P x
      · have HNX := Lib.hid hpx2
        clear hpx2 hpx
        go_wp2_with fail
        go_roundw
        case rel => exact ⟨k + 1, by omega, by go_num, fun j hj h => by
            rcases Nat.lt_succ_iff_lt_or_eq.1 hj with h2 | h2
            · exact HPRE.out j h2 h
            · subst h2; rw [HKE.out]; exact HNX.out, BB1⟩
        case measure => simp [intOf]; omega
      · have HYX := Lib.hid (HXE.out (by rw [HKE.out]; exact hpx2) (fun j hj => HPRE.out j hj _))
        clear hpx2 hpx
        go_wp2_with fail
        go_ret
        exact ⟨by rw [HYX.out]; rfl, BB1⟩
    · have hd : decide ((k : Int) < (l.length : Int)) = false := decide_eq_false (by omega)
      have hd' : decide (k < l.length) = false := decide_eq_false hlt
      have HZ := Lib.hid (HN.out (fun j hj => HPRE.out j (by omega) hj))
      go_wp2_with fail
      go_ret
      exact ⟨by rw [HZ.out]; rfl, BB⟩
set_option maxRecDepth 100000 in
set_option maxHeartbeats 1000000 in
theorem idxD_any (cl sq cb sb : Nat) (v : Value) (l : List Cm) (w : World) (hv : RdT Cm.cells w v l) (hc : ∀ w', Below w.heap.size w w' → (w'.cell? ⟨cb, 0, none⟩ = some (.int .u8 cl) ∧ w'.cell? ⟨sb, 0, none⟩ = some (.int .u32 sq))) :
    Calls Try.prog 28 #[v, .func (.func 22) #[] #[.pointer (some ⟨cb, 0, none⟩), .pointer (some ⟨sb, 0, none⟩)]] w fun e w' => e = .returned (.int .i64 (idx (fun x => decide (x.cl = cl ∧ x.sq ≤ sq)) l)) ∧ Below w.heap.size w w' := by
  have HV := Lib.hid hv
  have HC := Lib.hid hc
  obtain ⟨p, cap, rfl, hlen⟩ := hv.len
  clear hv hc
  obtain ⟨P, hP⟩ : ∃ P : Cm → Bool, (fun x => decide (x.cl = cl ∧ x.sq ≤ sq)) = P := ⟨_, rfl⟩
  have HPR := Lib.hid (fun x => congrFun hP x)
  rw [hP]
  have HI := Lib.hid (idx_hit P l)
  have HN := Lib.hid (idx_none P l)
  clear hP
  go_enter Try.func28, Try.ntmps28
  go_wp2_with fail
  go_loopw [8] (fun i wr => ∃ k : Nat, k ≤ l.length ∧ i = .int .i64 k ∧ (∀ j (_ : j < k) (h : j < l.length), P l[j] = false) ∧ Below w.heap.size w wr) (fun i _ => l.length - (intOf i).toNat)
  case atStart => exact ⟨0, Nat.zero_le _, rfl, by simp, Below.refl _ _⟩
  case round =>
    obtain ⟨k, hk, rfl, hpre, BB⟩ := hrel
    have HPRE := Lib.hid hpre
    clear hpre
    by_cases hlt : k < l.length
    · have hd : decide ((k : Int) < (l.length : Int)) = true := decide_eq_true (by omega)
      have hd' : decide (k < l.length) = true := decide_eq_true hlt
      obtain ⟨lb, off, e0, g⟩ := (HV.out.below BB (Nat.le_refl _)).at 7 (by decide) Cm.cells_len k hlt
      subst e0
      have HXE := Lib.hid (HI.out k hlt)
      have HPX := Lib.hid (HPR.out l[k])
      have HPK := Lib.hid (show ∀ f, P l[k] = f → P l[k] = f from fun _ h => h)
      have HKX : ∀ x, l[k] = x → RowKit.Hid (P l[k] = P x) := fun x h => Lib.hid (by rw [h])
      obtain ⟨x, hx⟩ : ∃ x, l[k] = x := ⟨_, rfl⟩
      have HKE := HKX x hx
      rw [hx] at g HPX
      clear HKX hx HPK
      have g0 := g 0 (by decide)
      have g1 := g 1 (by decide)
      have g2 := g 2 (by decide)
      have g3 := g 3 (by decide)
      have g4 := g 4 (by decide)
      have g5 := g 5 (by decide)
      have g6 := g 6 (by decide)
      simp only [Cm.cells, Nat.add_zero] at g0 g1 g2 g3 g4 g5 g6
      clear g
      go_wp2_with fail
      refine (done_any x cl sq cb sb _ (HC.out _ BB).1 (HC.out _ BB).2 _ rfl).mono ?_
      rintro e w1 ⟨rfl, b1⟩
      have hpx := HPX.out
      have BB1 := Below.later' BB b1
      rw [hpx]
      cases hpx2 : P x
      · have HNX := Lib.hid hpx2
        clear hpx2 hpx
        go_wp2_with fail
        go_roundw
        case rel => exact ⟨k + 1, by omega, by go_num, fun j hj h => by
            rcases Nat.lt_succ_iff_lt_or_eq.1 hj with h2 | h2
            · exact HPRE.out j h2 h
            · subst h2; rw [HKE.out]; exact HNX.out, BB1⟩
        case measure => simp [intOf]; omega
      · have HYX := Lib.hid (HXE.out (by rw [HKE.out]; exact hpx2) (fun j hj => HPRE.out j hj _))
        clear hpx2 hpx
        go_wp2_with fail
        go_ret
        exact ⟨by rw [HYX.out]; rfl, BB1⟩
    · have hd : decide ((k : Int) < (l.length : Int)) = false := decide_eq_false (by omega)
      have hd' : decide (k < l.length) = false := decide_eq_false hlt
      have HZ := Lib.hid (HN.out (fun j hj => HPRE.out j (by omega) hj))
      go_wp2_with fail
      go_ret
      exact ⟨by rw [HZ.out]; rfl, BB⟩
end Bat
end Go.Proofs.Ytcfcikpehekfbaa
