/-
  The document's queue: Take and Put.
-/
import Derived.Test.YtcfcikpehekfbaaBatRef
namespace Go.Proofs.Ytcfcikpehekfbaa
open Go.RowKit Go.WideShapes
namespace Bat
theorem fits_nil : Fits (.slice none 0 0) := fun p n c e => by cases e; exact ⟨Nat.le_refl _, fun a h => by cases h⟩
set_option maxRecDepth 100000 in
set_option maxHeartbeats 2000000 in
theorem rtake_any (v : Value) (l : List Cm) (hl : l.length ≤ 100000) (most : Int) (w : World) (hv : RdT Cm.cells w v l) (hcv : Fits v) :
    Calls Try.prog 11 #[v, .int .i64 most] w fun e w' => ∃ a b, e = .returned (.tuple #[a, b]) ∧ RdT Cm.cells w' a (l.take (nTake l most)) ∧ RdT Cm.cells w' b (l.drop (nTake l most)) ∧ Below w.heap.size w w' ∧ Fits a ∧ Fits b ∧ (a.ownBlock = none ∨ a.ownBlock = v.ownBlock) ∧ (b.ownBlock = none ∨ b.ownBlock = v.ownBlock) := by
  have hn1 : nTake l most ≤ l.length := by unfold nTake; omega
  have hn2 : ∀ k : Nat, k < nTake l most → (k : Int) < most := by unfold nTake; omega
  have hn3 : (nTake l most : Int) < most → nTake l most = l.length := by unfold nTake; omega
  generalize nTake l most = n at hn1 hn2 hn3 ⊢
  obtain ⟨p, cap, rfl, _⟩ := hv.len
  have hc0 : l.length ≤ cap := (hcv _ _ _ rfl).1
  cases p with
  | none =>
    obtain ⟨p', cap', e, _, _, h0⟩ := hv
    cases e
    obtain ⟨h1, h2⟩ := h0 rfl
    have hl0 : l = [] := List.eq_nil_of_length_eq_zero (by omega)
    have hcap : cap = 0 := by omega
    subst hl0
    subst hcap
    have hn0 : n = 0 := by simpa using hn1
    subst hn0
    clear h0 h1 h2 hn2 hn1 hcv hc0 hl hn3
    simp only [List.length_nil, List.take_nil, List.drop_nil]
    go_enter Try.func11, Try.ntmps11
    go_wp2_with fail
    go_loopw [6] (fun i wr => i = .int .i64 0 ∧ w = wr) (fun _ _ => 0)
    case atStart => exact ⟨rfl, rfl⟩
    case round =>
      obtain ⟨rfl, rfl⟩ := hrel
      by_cases hm : (0 : Int) < most
      · have t1 : decide ((0 : Int) < most) = true := decide_eq_true hm
        clear hm
        have B0 : Below w.heap.size w w.drew := Below.drew (Below.refl _ _)
        go_wp2_with fail
        refine wp_region_ord (fun w' => Below w.heap.size w w') (0 :: 1 :: 2 :: 3 :: 4 :: 5 :: 6 :: 7 :: []) [] (by kernel_rfl) (by kernel_rfl) (by intro c d v a w h; cases d <;> exact h) B0 ?_
        repeat (first
          | (refine wpOrd_take (v := ?_) rfl rfl ?_ ?_ ?_; rotate_left; rfl; (· intro w' hSw; (try dsimp only at hSw); go_simp <;> with_reducible rfl); simp only [Act.put, List.setIfInBounds_toArray, List.set_cons_zero, List.set_cons_succ])
          | (refine wpOrd_skip rfl rfl ?_ ?_; rfl; simp only [Act.put, List.setIfInBounds_toArray, List.set_cons_zero, List.set_cons_succ]))
        refine wpOrd_nil ?_
        go_wp2_with fail
        refine bodyPost_ret (v := .tuple #[.slice none 0 0, .slice none 0 0]) (by simp [results, Try.results11, go_sem]) rfl ⟨.slice none 0 0, .slice none 0 0, rfl, RdT.later (rdT_nil _ _) B0, RdT.later (rdT_nil _ _) B0, B0, fits_nil, fits_nil, .inl rfl, .inl rfl⟩
      · have t1 : decide ((0 : Int) < most) = false := decide_eq_false hm
        clear hm
        have B0 : Below w.heap.size w w.drew := Below.drew (Below.refl _ _)
        go_wp2_with fail
        refine wp_region_ord (fun w' => Below w.heap.size w w') (0 :: 1 :: 2 :: 3 :: 4 :: 5 :: 6 :: 7 :: []) [] (by kernel_rfl) (by kernel_rfl) (by intro c d v a w h; cases d <;> exact h) B0 ?_
        repeat (first
          | (refine wpOrd_take (v := ?_) rfl rfl ?_ ?_ ?_; rotate_left; rfl; (· intro w' hSw; (try dsimp only at hSw); go_simp <;> with_reducible rfl); simp only [Act.put, List.setIfInBounds_toArray, List.set_cons_zero, List.set_cons_succ])
          | (refine wpOrd_skip rfl rfl ?_ ?_; rfl; simp only [Act.put, List.setIfInBounds_toArray, List.set_cons_zero, List.set_cons_succ]))
        refine wpOrd_nil ?_
        go_wp2_with fail
        refine bodyPost_ret (v := .tuple #[.slice none 0 0, .slice none 0 0]) (by simp [results, Try.results11, go_sem]) rfl ⟨.slice none 0 0, .slice none 0 0, rfl, RdT.later (rdT_nil _ _) B0, RdT.later (rdT_nil _ _) B0, B0, fits_nil, fits_nil, .inl rfl, .inl rfl⟩
  | some a =>
    obtain ⟨b, off, rfl⟩ := (hcv _ _ _ rfl).2 a rfl
    have q1 : (n : Int) ≤ (cap : Int) := by omega
    have q2 : (n : Int) ≤ (l.length : Int) := by omega
    have q3 : (l.length : Int) ≤ (cap : Int) := by omega
    by_cases hcap : cap = n
    · have hln : l.length = n := by omega
      have hcap2 := hcap.symm
      subst hcap2
      have HLN := Lib.hid hln
      have HV := Lib.hid hv
      clear hln
      go_enter Try.func11, Try.ntmps11
      go_wp2_with fail
      go_loopw [6] (fun i wr => ∃ k : Nat, k ≤ n ∧ i = .int .i64 k ∧ w = wr) (fun i _ => n - (intOf i).toNat)
      case atStart => exact ⟨0, Nat.zero_le _, rfl, rfl⟩
      case round =>
        obtain ⟨k, hk, rfl, rfl⟩ := hrel
        by_cases hlt : k < n
        · have hkm := hn2 k hlt
          have t1 : decide ((k : Int) < most) = true := decide_eq_true hkm
          have t2 : decide ((k : Int) < (l.length : Int)) = true := decide_eq_true (by omega)
          have t3 : decide (k < l.length) = true := decide_eq_true (by omega)
          go_wp2_with fail
          go_roundw
          case rel => exact ⟨k + 1, by omega, by go_num, by first | trivial | rfl⟩
          case measure => simp [intOf]; omega
        · have hkn : n = k := by omega
          subst hkn
          by_cases hm : (n : Int) < most
          · have t1 : decide ((n : Int) < most) = true := decide_eq_true hm
            have t2 : decide ((n : Int) < (l.length : Int)) = false := decide_eq_false (by omega)
            have t3 : decide (n < l.length) = false := decide_eq_false (by omega)
            clear hlt hm
            have B0 : Below w.heap.size w w.drew := Below.drew (Below.refl _ _)
            go_wp2_with fail
            refine wp_region_ord (fun w' => Below w.heap.size w w') (0 :: 1 :: 2 :: 3 :: 4 :: 5 :: 6 :: 7 :: []) [] (by kernel_rfl) (by kernel_rfl) (by intro c d v a w h; cases d <;> exact h) B0 ?_
            repeat (first
              | (refine wpOrd_take (v := ?_) rfl rfl ?_ ?_ ?_; rotate_left; rfl; (· intro w' hSw; (try dsimp only at hSw); go_simp <;> with_reducible rfl); simp only [Act.put, List.setIfInBounds_toArray, List.set_cons_zero, List.set_cons_succ])
              | (refine wpOrd_skip rfl rfl ?_ ?_; rfl; simp only [Act.put, List.setIfInBounds_toArray, List.set_cons_zero, List.set_cons_succ]))
            refine wpOrd_nil ?_
            go_wp2_with fail
            refine bodyPost_ret (v := .tuple #[.slice (some ⟨b, off, none⟩) n n, .slice (some ⟨b, off, none⟩) 0 0]) (by simp [results, Try.results11, go_sem]) rfl ⟨.slice (some ⟨b, off, none⟩) n n, .slice (some ⟨b, off, none⟩) 0 0, rfl, RdT.later (rd_first HV.out n _ (by omega)) B0, RdT.later ((by rw [List.drop_of_length_le (by omega)]; exact rd_empty _ _ _)) B0, B0, (by intro p n c e; cases e; exact ⟨by omega, fun a h => by cases h; exact ⟨_, _, rfl⟩⟩), (by intro p n c e; cases e; exact ⟨by omega, fun a h => by cases h; exact ⟨_, _, rfl⟩⟩), .inr rfl, .inr rfl⟩
          · have t1 : decide ((n : Int) < most) = false := decide_eq_false hm
            clear hlt hm
            have B0 : Below w.heap.size w w.drew := Below.drew (Below.refl _ _)
            go_wp2_with fail
            refine wp_region_ord (fun w' => Below w.heap.size w w') (0 :: 1 :: 2 :: 3 :: 4 :: 5 :: 6 :: 7 :: []) [] (by kernel_rfl) (by kernel_rfl) (by intro c d v a w h; cases d <;> exact h) B0 ?_
            repeat (first
              | (refine wpOrd_take (v := ?_) rfl rfl ?_ ?_ ?_; rotate_left; rfl; (· intro w' hSw; (try dsimp only at hSw); go_simp <;> with_reducible rfl); simp only [Act.put, List.setIfInBounds_toArray, List.set_cons_zero, List.set_cons_succ])
              | (refine wpOrd_skip rfl rfl ?_ ?_; rfl; simp only [Act.put, List.setIfInBounds_toArray, List.set_cons_zero, List.set_cons_succ]))
            refine wpOrd_nil ?_
            go_wp2_with fail
            refine bodyPost_ret (v := .tuple #[.slice (some ⟨b, off, none⟩) n n, .slice (some ⟨b, off, none⟩) 0 0]) (by simp [results, Try.results11, go_sem]) rfl ⟨.slice (some ⟨b, off, none⟩) n n, .slice (some ⟨b, off, none⟩) 0 0, rfl, RdT.later (rd_first HV.out n _ (by omega)) B0, RdT.later ((by rw [List.drop_of_length_le (by omega)]; exact rd_empty _ _ _)) B0, B0, (by intro p n c e; cases e; exact ⟨by omega, fun a h => by cases h; exact ⟨_, _, rfl⟩⟩), (by intro p n c e; cases e; exact ⟨by omega, fun a h => by cases h; exact ⟨_, _, rfl⟩⟩), .inr rfl, .inr rfl⟩
    · have HV := Lib.hid hv
      go_enter Try.func11, Try.ntmps11
      go_wp2_with fail
      go_loopw [6] (fun i wr => ∃ k : Nat, k ≤ n ∧ i = .int .i64 k ∧ w = wr) (fun i _ => n - (intOf i).toNat)
      case atStart => exact ⟨0, Nat.zero_le _, rfl, rfl⟩
      case round =>
        obtain ⟨k, hk, rfl, rfl⟩ := hrel
        by_cases hlt : k < n
        · have hkm := hn2 k hlt
          have t1 : decide ((k : Int) < most) = true := decide_eq_true hkm
          have t2 : decide ((k : Int) < (l.length : Int)) = true := decide_eq_true (by omega)
          have t3 : decide (k < l.length) = true := decide_eq_true (by omega)
          go_wp2_with fail
          go_roundw
          case rel => exact ⟨k + 1, by omega, by go_num, by first | trivial | rfl⟩
          case measure => simp [intOf]; omega
        · have hkn : n = k := by omega
          subst hkn
          by_cases hm : (n : Int) < most
          · have t1 : decide ((n : Int) < most) = true := decide_eq_true hm
            have t2 : decide ((n : Int) < (l.length : Int)) = false := decide_eq_false (by omega)
            have t3 : decide (n < l.length) = false := decide_eq_false (by omega)
            clear hlt hm
            have B0 : Below w.heap.size w w.drew := Below.drew (Below.refl _ _)
            go_wp2_with fail
            refine wp_region_ord (fun w' => Below w.heap.size w w') (0 :: 1 :: 2 :: 3 :: 4 :: 5 :: 6 :: 7 :: []) [] (by kernel_rfl) (by kernel_rfl) (by intro c d v a w h; cases d <;> exact h) B0 ?_
            repeat (first
              | (refine wpOrd_take (v := ?_) rfl rfl ?_ ?_ ?_; rotate_left; rfl; (· intro w' hSw; (try dsimp only at hSw); go_simp <;> with_reducible rfl); simp only [Act.put, List.setIfInBounds_toArray, List.set_cons_zero, List.set_cons_succ])
              | (refine wpOrd_skip rfl rfl ?_ ?_; rfl; simp only [Act.put, List.setIfInBounds_toArray, List.set_cons_zero, List.set_cons_succ]))
            refine wpOrd_nil ?_
            go_wp2_with fail
            refine bodyPost_ret (v := .tuple #[.slice (some ⟨b, off, none⟩) n cap, .slice (some ⟨b, off + n * 7, none⟩) (l.length - n) (cap - n)]) (by simp [results, Try.results11, go_sem]) rfl ⟨.slice (some ⟨b, off, none⟩) n cap, .slice (some ⟨b, off + n * 7, none⟩) (l.length - n) (cap - n), rfl, RdT.later (rd_first HV.out n _ (by omega)) B0, RdT.later (rd_rest HV.out n _) B0, B0, (by intro p n c e; cases e; exact ⟨by omega, fun a h => by cases h; exact ⟨_, _, rfl⟩⟩), (by intro p n c e; cases e; exact ⟨by omega, fun a h => by cases h; exact ⟨_, _, rfl⟩⟩), .inr rfl, .inr rfl⟩
          · have t1 : decide ((n : Int) < most) = false := decide_eq_false hm
            clear hlt hm
            have B0 : Below w.heap.size w w.drew := Below.drew (Below.refl _ _)
            go_wp2_with fail
            refine wp_region_ord (fun w' => Below w.heap.size w w') (0 :: 1 :: 2 :: 3 :: 4 :: 5 :: 6 :: 7 :: []) [] (by kernel_rfl) (by kernel_rfl) (by intro c d v a w h; cases d <;> exact h) B0 ?_
            repeat (first
              | (refine wpOrd_take (v := ?_) rfl rfl ?_ ?_ ?_; rotate_left; rfl; (· intro w' hSw; (try dsimp only at hSw); go_simp <;> with_reducible rfl); simp only [Act.put, List.setIfInBounds_toArray, List.set_cons_zero, List.set_cons_succ])
              | (refine wpOrd_skip rfl rfl ?_ ?_; rfl; simp only [Act.put, List.setIfInBounds_toArray, List.set_cons_zero, List.set_cons_succ]))
            refine wpOrd_nil ?_
            go_wp2_with fail
            refine bodyPost_ret (v := .tuple #[.slice (some ⟨b, off, none⟩) n cap, .slice (some ⟨b, off + n * 7, none⟩) (l.length - n) (cap - n)]) (by simp [results, Try.results11, go_sem]) rfl ⟨.slice (some ⟨b, off, none⟩) n cap, .slice (some ⟨b, off + n * 7, none⟩) (l.length - n) (cap - n), rfl, RdT.later (rd_first HV.out n _ (by omega)) B0, RdT.later (rd_rest HV.out n _) B0, B0, (by intro p n c e; cases e; exact ⟨by omega, fun a h => by cases h; exact ⟨_, _, rfl⟩⟩), (by intro p n c e; cases e; exact ⟨by omega, fun a h => by cases h; exact ⟨_, _, rfl⟩⟩), .inr rfl, .inr rfl⟩
set_option maxRecDepth 100000 in
set_option maxHeartbeats 4000000 in
theorem rput_any (v : Value) (l : List Cm) (hl : l.length ≤ 10000) (hU : U l) (x : Cm) (w : World) (hv : RdT Cm.cells w v l) (hcv : Fits v) (hlt : ∀ b, v.ownBlock = some b → b < w.heap.size) :
    Calls Try.prog 15 #[v, x.val] w fun e w' => ∃ v', e = .returned (.tuple #[v', .int .i64 (qPut l x).2]) ∧ RdT Cm.cells w' v' (qPut l x).1 ∧ Below w.heap.size w w' ∧ Fits v' ∧ From w v v' ∧ ∀ b, v'.ownBlock = some b → b < w'.heap.size := by
  have hb1 := below1 w (.cells #[.int .u8 x.cl, .int .u32 x.sq, .int .u8 x.kd, .string x.key, .string x.old, .string x.new, .int .u8 x.set] 30)
  have kB := Blk.new w (.cells #[.int .u8 x.cl, .int .u32 x.sq, .int .u8 x.kd, .string x.key, .string x.old, .string x.new, .int .u8 x.set] 30)
  have hv1 := hv.later hb1
  go_enter Try.func15, Try.ntmps15
  go_wp2_with fail
  generalize w.alloc (.cells #[.int .u8 x.cl, .int .u32 x.sq, .int .u8 x.kd, .string x.key, .string x.old, .string x.new, .int .u8 x.set] 30) = W0 at *
  refine (Cm.may_any x W0).mono ?_
  rintro e w1 ⟨rfl, b1⟩
  have kB := kB.later b1
  have hv1 := hv1.later b1
  have hb1 := Below.later' hb1 b1
  clear b1
  by_cases hm : x.may
  · rw [decide_eq_true hm]
    have HF := Lib.hid (find_any v l x.cl w1 hv1)
    rcases idx_cases (fun y => decide (y.cl = x.cl)) l with ⟨h1, _⟩ | ⟨i, hi, h1, hpi, _⟩
    · rw [h1] at HF
      have HR := Lib.hid (show qPut l x = (l ++ [x], 0) from qPut_none l x hm h1)
      have d0 : decide ((0 : Int) ≤ -1) = false := by decide
      have c0 := kB.cell 0
      clear h1
      go_wp2_with fail
      refine HF.out.mono ?_
      rintro e w2 ⟨rfl, rfl⟩
      have B0 : Below w1.heap.size w1 w1.drew := Below.drew (Below.refl _ _)
      go_wp2_with fail
      refine wp_region_ord (fun w' => Below w1.heap.size w1 w') (0 :: 1 :: 2 :: 3 :: 4 :: 5 :: 6 :: 7 :: 8 :: 9 :: 10 :: 11 :: []) [] (by kernel_rfl) (by kernel_rfl) (by intro c d v a w h; cases d <;> exact h) B0 ?_
      repeat (first
        | (refine wpOrd_take (v := ?_) rfl rfl ?_ ?_ ?_; rotate_left; rfl; (· intro w' hSw; (try dsimp only at hSw); go_simp <;> with_reducible rfl); simp only [Act.put, List.setIfInBounds_toArray, List.set_cons_zero, List.set_cons_succ])
        | (refine wpOrd_skip rfl rfl ?_ ?_; rfl; simp only [Act.put, List.setIfInBounds_toArray, List.set_cons_zero, List.set_cons_succ]))
      refine wpOrd_nil ?_
      go_wp2_with fail
      refine wp_region_ord (fun w' => Below w1.heap.size w1 w') (0 :: 1 :: 2 :: 3 :: 4 :: 5 :: 6 :: 7 :: 8 :: 9 :: 10 :: 11 :: []) [] (by kernel_rfl) (by kernel_rfl) (by intro c d v a w h; cases d <;> exact h) B0.drew ?_
      repeat (first
        | (refine wpOrd_take (v := ?_) rfl rfl ?_ ?_ ?_; rotate_left; rfl; (· intro w' hSw; (try dsimp only at hSw); go_simp <;> with_reducible rfl); simp only [Act.put, List.setIfInBounds_toArray, List.set_cons_zero, List.set_cons_succ])
        | (refine wpOrd_skip rfl rfl ?_ ?_; rfl; simp only [Act.put, List.setIfInBounds_toArray, List.set_cons_zero, List.set_cons_succ]))
      refine wpOrd_nil ?_
      have kB := kB.later B0.drew
      have kB9 := kB
      have HL9 := hv1.later B0.drew
      have BW := Below.later' hb1 B0.drew
      go_wp2_with fail
      refine wp_region_way (fun w' => Below w1.drew.drew.heap.size w1.drew.drew w') (.go 0 (.go 2 (.two 1 3 (.go 3 (.go 4 (.go 5 (.go 6 .nil)))) (.go 1 (.go 4 (.go 5 (.go 6 .nil))))))) [1, 3, 4] (by kernel_rfl) (by kernel_rfl) (by intro c d v a w h; cases d <;> exact h) (Below.drew (Below.refl _ _)) ?_
      obtain ⟨W, hWW⟩ : ∃ W, w1.drew.drew = W := ⟨_, rfl⟩
      rw [hWW] at kB9 HL9 BW ⊢
      have hF := fun (w' : World) (j : Nat) (hb : Below W.heap.size W w') => (kB9.later hb).cell j
      have hBd0 : Below W.heap.size W W.drew := Below.drew (Below.refl _ _)
      obtain ⟨Wd, hWd⟩ : ∃ Wd, W.drew = Wd := ⟨_, rfl⟩
      rw [hWd] at hBd0 ⊢
      have hBd := hBd0
      clear hWd
      obtain ⟨LL, hLL⟩ : ∃ LL, l = LL := ⟨_, rfl⟩
      rw [hLL] at HL9
      have HL := Lib.hid HL9
      have hLen : LL.length ≤ 100001 := by rw [← hLL]; omega
      clear HL9
      repeat (first
        | (refine wpWay_take (v := ?_) rfl rfl ?_ ?_ ?_; rotate_left; rfl; (· intro w' hSw; (try dsimp only at hSw); go_simp <;> with_reducible rfl); simp only [Act.put, List.setIfInBounds_toArray, List.set_cons_zero, List.set_cons_succ])
        | (refine wpWay_skip rfl rfl ?_ ?_; rfl; simp only [Act.put, List.setIfInBounds_toArray, List.set_cons_zero, List.set_cons_succ]))
      refine wpWay_two rfl rfl (fun K hK => ?_) (fun K hK => ?_)
      · refine appNg rfl _ _ 27 rfl W.heap.size 30 Cm.zero.val 7 72 infoC Try.underlying27 rfl (by decide) Wd (.slice none 0 0) 0 [] ⟨rfl, .inl ⟨rfl, rfl⟩⟩ rfl _ LL.length (flat LL) (HL.out.later hBd) (rows_length Cm.cells 7 Cm.cells_len _) (one_cells _) rfl (by simp; omega) (by simp; omega) hBd.size ?_
        intro v1 w1 ho1 g1
        rw [Nat.zero_add, List.nil_append] at ho1
        have B1 : Below W.heap.size W w1 := g1.below hBd hBd.size (fun c hc => by cases hc)
        go_wp2_with fail
        refine hK.out _ _ B1 ?_
        clear hK K
        repeat (first
          | (refine wpWay_take (v := ?_) rfl rfl ?_ ?_ ?_; rotate_left; rfl; (· intro w' hSw; (try dsimp only at hSw); go_simp <;> with_reducible rfl); simp only [Act.put, List.setIfInBounds_toArray, List.set_cons_zero, List.set_cons_succ])
          | (refine wpWay_skip rfl rfl ?_ ?_; rfl; simp only [Act.put, List.setIfInBounds_toArray, List.set_cons_zero, List.set_cons_succ]))
        refine wpWay_eff rfl rfl (fun K hK => ?_)
        go_wp2_with fail
        have B2 := B1.alloc B1.size (.cells #[.int .u8 x.cl, .int .u32 x.sq, .int .u8 x.kd, .string x.key, .string x.old, .string x.new, .int .u8 x.set] 30)
        have ho2 := ownsRow_below ho1 (below1 w1 (.cells #[.int .u8 x.cl, .int .u32 x.sq, .int .u8 x.kd, .string x.key, .string x.old, .string x.new, .int .u8 x.set] 30))
        have HX1 : RdT Cm.cells (w1.alloc (.cells #[.int .u8 x.cl, .int .u32 x.sq, .int .u8 x.kd, .string x.key, .string x.old, .string x.new, .int .u8 x.set] 30)) (.slice (some ⟨w1.heap.size, 0, none⟩) 1 1) [x] := by
          have := rdV_block w1 #[.int .u8 x.cl, .int .u32 x.sq, .int .u8 x.kd, .string x.key, .string x.old, .string x.new, .int .u8 x.set] 30 1 1 (by omega)
          simpa [RdT] using this
        refine hK.out _ _ B2 ?_
        clear hK K
        repeat (first
          | (refine wpWay_take (v := ?_) rfl rfl ?_ ?_ ?_; rotate_left; rfl; (· intro w' hSw; (try dsimp only at hSw); go_simp <;> with_reducible rfl); simp only [Act.put, List.setIfInBounds_toArray, List.set_cons_zero, List.set_cons_succ])
          | (refine wpWay_skip rfl rfl ?_ ?_; rfl; simp only [Act.put, List.setIfInBounds_toArray, List.set_cons_zero, List.set_cons_succ]))
        refine wpWay_eff rfl rfl (fun K hK => ?_)
        refine appNg rfl _ _ 27 rfl W.heap.size 30 Cm.zero.val 7 72 infoC Try.underlying27 rfl (by decide) (w1.alloc (.cells #[.int .u8 x.cl, .int .u32 x.sq, .int .u8 x.kd, .string x.key, .string x.old, .string x.new, .int .u8 x.set] 30)) v1 LL.length (flat LL) ho2 rfl _ [x].length (flat [x]) HX1 (rows_length Cm.cells 7 Cm.cells_len _) (one_cells _) rfl (by simp; omega) (by simp; omega) B2.size ?_
        intro v2 w2 ho3 g2
        have B3 := g2.below B2 B2.size (own_base ho2)
        have ho4 : w2.ownsRow W.heap.size 30 7 v2 (LL ++ [x]).length (flat (LL ++ [x])) := by
          rw [List.length_append]; unfold flat at ho3 ⊢; rw [List.flatMap_append]; exact ho3
        go_wp2_with fail
        refine hK.out _ _ B3 ?_
        clear hK K
        repeat (first
          | (refine wpWay_take (v := ?_) rfl rfl ?_ ?_ ?_; rotate_left; rfl; (· intro w' hSw; (try dsimp only at hSw); go_simp <;> with_reducible rfl); simp only [Act.put, List.setIfInBounds_toArray, List.set_cons_zero, List.set_cons_succ])
          | (refine wpWay_skip rfl rfl ?_ ?_; rfl; simp only [Act.put, List.setIfInBounds_toArray, List.set_cons_zero, List.set_cons_succ]))
        refine wpWay_nil ?_
        go_wp2_with fail
        refine bodyPost_ret (v := .tuple #[v2, .int .i64 0]) (by simp [results, Try.results15, go_sem]) rfl ⟨v2, by rw [HR.out], ?_, ?_, fits_own ho4, .inr (.inr (fun b hb => ?_)), fun b hb => (ho4.lt b hb).2⟩
        · rw [HR.out, hLL]; exact RdT.owns ho4
        · exact BW.trans (B3.mono BW.size)
        · exact Nat.le_trans BW.size (own_base ho4 b hb)
      · go_wp2_with fail
        have hB2 := hBd.alloc hBd.size (.cells #[.int .u8 x.cl, .int .u32 x.sq, .int .u8 x.kd, .string x.key, .string x.old, .string x.new, .int .u8 x.set] 30)
        have HX1 : RdT Cm.cells (Wd.alloc (.cells #[.int .u8 x.cl, .int .u32 x.sq, .int .u8 x.kd, .string x.key, .string x.old, .string x.new, .int .u8 x.set] 30)) (.slice (some ⟨Wd.heap.size, 0, none⟩) 1 1) [x] := by
          have := rdV_block Wd #[.int .u8 x.cl, .int .u32 x.sq, .int .u8 x.kd, .string x.key, .string x.old, .string x.new, .int .u8 x.set] 30 1 1 (by omega)
          simpa [RdT] using this
        obtain ⟨We, hWe⟩ : ∃ We, Wd.alloc (.cells #[.int .u8 x.cl, .int .u32 x.sq, .int .u8 x.kd, .string x.key, .string x.old, .string x.new, .int .u8 x.set] 30) = We := ⟨_, rfl⟩
        rw [hWe] at hB2 HX1 ⊢
        clear hWe
        refine hK.out _ _ hB2 ?_
        clear hK K
        repeat (first
          | (refine wpWay_take (v := ?_) rfl rfl ?_ ?_ ?_; rotate_left; rfl; (· intro w' hSw; (try dsimp only at hSw); go_simp <;> with_reducible rfl); simp only [Act.put, List.setIfInBounds_toArray, List.set_cons_zero, List.set_cons_succ])
          | (refine wpWay_skip rfl rfl ?_ ?_; rfl; simp only [Act.put, List.setIfInBounds_toArray, List.set_cons_zero, List.set_cons_succ]))
        refine wpWay_eff rfl rfl (fun K hK => ?_)
        refine appNg rfl _ _ 27 rfl W.heap.size 30 Cm.zero.val 7 72 infoC Try.underlying27 rfl (by decide) We (.slice none 0 0) 0 [] ⟨rfl, .inl ⟨rfl, rfl⟩⟩ rfl _ LL.length (flat LL) (HL.out.later hB2) (rows_length Cm.cells 7 Cm.cells_len _) (one_cells _) rfl (by simp; omega) (by simp; omega) hB2.size ?_
        intro v1 w1 ho1 g1
        rw [Nat.zero_add, List.nil_append] at ho1
        have B1 : Below W.heap.size W w1 := g1.below hB2 hB2.size (fun c hc => by cases hc)
        have HX2 := HX1.later (g1.below (Below.refl We.heap.size We) (Nat.le_refl _) (fun c hc => by cases hc))
        go_wp2_with fail
        refine hK.out _ _ B1 ?_
        clear hK K
        repeat (first
          | (refine wpWay_take (v := ?_) rfl rfl ?_ ?_ ?_; rotate_left; rfl; (· intro w' hSw; (try dsimp only at hSw); go_simp <;> with_reducible rfl); simp only [Act.put, List.setIfInBounds_toArray, List.set_cons_zero, List.set_cons_succ])
          | (refine wpWay_skip rfl rfl ?_ ?_; rfl; simp only [Act.put, List.setIfInBounds_toArray, List.set_cons_zero, List.set_cons_succ]))
        refine wpWay_eff rfl rfl (fun K hK => ?_)
        refine appNg rfl _ _ 27 rfl W.heap.size 30 Cm.zero.val 7 72 infoC Try.underlying27 rfl (by decide) w1 v1 LL.length (flat LL) ho1 rfl _ [x].length (flat [x]) HX2 (rows_length Cm.cells 7 Cm.cells_len _) (one_cells _) rfl (by simp; omega) (by simp; omega) B1.size ?_
        intro v2 w2 ho3 g2
        have B3 := g2.below B1 B1.size (own_base ho1)
        have ho4 : w2.ownsRow W.heap.size 30 7 v2 (LL ++ [x]).length (flat (LL ++ [x])) := by
          rw [List.length_append]; unfold flat at ho3 ⊢; rw [List.flatMap_append]; exact ho3
        go_wp2_with fail
        refine hK.out _ _ B3 ?_
        clear hK K
        repeat (first
          | (refine wpWay_take (v := ?_) rfl rfl ?_ ?_ ?_; rotate_left; rfl; (· intro w' hSw; (try dsimp only at hSw); go_simp <;> with_reducible rfl); simp only [Act.put, List.setIfInBounds_toArray, List.set_cons_zero, List.set_cons_succ])
          | (refine wpWay_skip rfl rfl ?_ ?_; rfl; simp only [Act.put, List.setIfInBounds_toArray, List.set_cons_zero, List.set_cons_succ]))
        refine wpWay_nil ?_
        go_wp2_with fail
        refine bodyPost_ret (v := .tuple #[v2, .int .i64 0]) (by simp [results, Try.results15, go_sem]) rfl ⟨v2, by rw [HR.out], ?_, ?_, fits_own ho4, .inr (.inr (fun b hb => ?_)), fun b hb => (ho4.lt b hb).2⟩
        · rw [HR.out, hLL]; exact RdT.owns ho4
        · exact BW.trans (B3.mono BW.size)
        · exact Nat.le_trans BW.size (own_base ho4 b hb)
    · rw [h1] at HF
      have HR := Lib.hid (qPut_some l x i hi hm h1)
      have d0 : decide ((0 : Int) ≤ (i : Int)) = true := decide_eq_true (by omega)
      have hci : (l[i]).cl = x.cl := of_decide_eq_true hpi
      have HW := Lib.hid (fun w' h => without_any v l (by omega) i hi w' h hcv)
      have HFW := Lib.hid (filter_without hU i hi (fun y => decide (y.cl = x.cl)) hpi (fun y hy => by rw [hci]; exact of_decide_eq_true hy))
      obtain ⟨lb, off, cap, e0, g⟩ := rd_one hv1 i hi
      have HV := Lib.hid hv1
      have hil : decide ((i : Int) < (l.length : Int)) = true := decide_eq_true (by omega)
      obtain ⟨o, ho⟩ : ∃ o, l[i] = o := ⟨_, rfl⟩
      rw [ho] at g HR
      have g1 := fun w' hb => g w' hb 1 (by decide)
      simp only [Cm.cells] at g1
      subst e0
      have c0 := kB.cell 0
      have x1 := fun (w' : World) (hb : Below w1.heap.size w1 w') => (kB.later hb).cell 1
      clear hv1 h1 hpi hci ho g
      go_wp2_with fail
      refine HF.out.mono ?_
      rintro e w2 ⟨rfl, rfl⟩
      have B0 : Below w1.heap.size w1 w1.drew := Below.drew (Below.refl _ _)
      by_cases e2 : x.sq < o.sq
      · have t2 : decide ((x.sq : Int) < (o.sq : Int)) = true := decide_eq_true (by omega)
        have t3 : decide (x.sq < o.sq) = true := decide_eq_true e2
        rw [if_neg (by omega), if_pos e2] at HR
        clear e2
        go_wp2_with fail
        refine wp_region_ord (fun w' => Below w1.heap.size w1 w') (0 :: 1 :: 2 :: 3 :: 4 :: 5 :: 6 :: 7 :: 8 :: 9 :: 10 :: 11 :: []) [] (by kernel_rfl) (by kernel_rfl) (by intro c d v a w h; cases d <;> exact h) B0 ?_
        repeat (first
          | (refine wpOrd_take (v := ?_) rfl rfl ?_ ?_ ?_; rotate_left; rfl; (· intro w' hSw; (try dsimp only at hSw); go_simp <;> with_reducible rfl); simp only [Act.put, List.setIfInBounds_toArray, List.set_cons_zero, List.set_cons_succ])
          | (refine wpOrd_skip rfl rfl ?_ ?_; rfl; simp only [Act.put, List.setIfInBounds_toArray, List.set_cons_zero, List.set_cons_succ]))
        refine wpOrd_nil ?_
        go_wp2_with fail
        refine bodyPost_ret (v := .tuple #[.slice (some ⟨lb, off, none⟩) l.length cap, .int .i64 12]) (by simp [results, Try.results15, go_sem]) rfl ⟨_, by rw [HR.out], by rw [HR.out]; exact HV.out.later B0, Below.later' hb1 B0, hcv, .inr (.inl rfl), fun b hb => Nat.lt_of_lt_of_le (hlt b hb) (Below.later' hb1 B0).size⟩
      · have t2 : decide ((x.sq : Int) < (o.sq : Int)) = false := decide_eq_false (by omega)
        have t3 : decide (x.sq < o.sq) = false := decide_eq_false e2
        by_cases e1 : o.sq = x.sq
        · have t1 : ((o.sq : Int) == (x.sq : Int)) = true := by rw [beq_iff_eq]; omega
          rw [if_pos e1] at HR
          clear e1 e2
          go_wp2_with fail
          refine wp_region_ord (fun w' => Below w1.heap.size w1 w') (0 :: 1 :: 2 :: 3 :: 4 :: 5 :: 6 :: 7 :: 8 :: 9 :: 10 :: 11 :: []) [] (by kernel_rfl) (by kernel_rfl) (by intro c d v a w h; cases d <;> exact h) B0 ?_
          repeat (first
            | (refine wpOrd_take (v := ?_) rfl rfl ?_ ?_ ?_; rotate_left; rfl; (· intro w' hSw; (try dsimp only at hSw); go_simp <;> with_reducible rfl); simp only [Act.put, List.setIfInBounds_toArray, List.set_cons_zero, List.set_cons_succ])
            | (refine wpOrd_skip rfl rfl ?_ ?_; rfl; simp only [Act.put, List.setIfInBounds_toArray, List.set_cons_zero, List.set_cons_succ]))
          refine wpOrd_nil ?_
          go_wp2_with fail
          refine wp_region_ord (fun w' => Below w1.heap.size w1 w') (0 :: 1 :: 2 :: 3 :: 4 :: 5 :: 6 :: 7 :: 8 :: 9 :: 10 :: 11 :: []) [] (by kernel_rfl) (by kernel_rfl) (by intro c d v a w h; cases d <;> exact h) B0.drew ?_
          repeat (first
            | (refine wpOrd_take (v := ?_) rfl rfl ?_ ?_ ?_; rotate_left; rfl; (· intro w' hSw; (try dsimp only at hSw); go_simp <;> with_reducible rfl); simp only [Act.put, List.setIfInBounds_toArray, List.set_cons_zero, List.set_cons_succ])
            | (refine wpOrd_skip rfl rfl ?_ ?_; rfl; simp only [Act.put, List.setIfInBounds_toArray, List.set_cons_zero, List.set_cons_succ]))
          refine wpOrd_nil ?_
          go_wp2_with fail
          refine bodyPost_ret (v := .tuple #[.slice (some ⟨lb, off, none⟩) l.length cap, .int .i64 0]) (by simp [results, Try.results15, go_sem]) rfl ⟨_, by rw [HR.out], by rw [HR.out]; exact HV.out.later B0.drew, Below.later' hb1 B0.drew, hcv, .inr (.inl rfl), fun b hb => Nat.lt_of_lt_of_le (hlt b hb) (Below.later' hb1 B0.drew).size⟩
        · have t1 : ((o.sq : Int) == (x.sq : Int)) = false := by rw [beq_eq_false_iff_ne]; omega
          rw [if_neg e1, if_neg e2, HFW.out] at HR
          clear e1 e2
          go_wp2_with fail
          refine wp_region_ord (fun w' => Below w1.heap.size w1 w') (0 :: 1 :: 2 :: 3 :: 4 :: 5 :: 6 :: 7 :: 8 :: 9 :: 10 :: 11 :: []) [] (by kernel_rfl) (by kernel_rfl) (by intro c d v a w h; cases d <;> exact h) B0 ?_
          repeat (first
            | (refine wpOrd_take (v := ?_) rfl rfl ?_ ?_ ?_; rotate_left; rfl; (· intro w' hSw; (try dsimp only at hSw); go_simp <;> with_reducible rfl); simp only [Act.put, List.setIfInBounds_toArray, List.set_cons_zero, List.set_cons_succ])
            | (refine wpOrd_skip rfl rfl ?_ ?_; rfl; simp only [Act.put, List.setIfInBounds_toArray, List.set_cons_zero, List.set_cons_succ]))
          refine wpOrd_nil ?_
          go_wp2_with fail
          refine wp_region_ord (fun w' => Below w1.heap.size w1 w') (0 :: 1 :: 2 :: 3 :: 4 :: 5 :: 6 :: 7 :: 8 :: 9 :: 10 :: 11 :: []) [] (by kernel_rfl) (by kernel_rfl) (by intro c d v a w h; cases d <;> exact h) B0.drew ?_
          repeat (first
            | (refine wpOrd_take (v := ?_) rfl rfl ?_ ?_ ?_; rotate_left; rfl; (· intro w' hSw; (try dsimp only at hSw); go_simp <;> with_reducible rfl); simp only [Act.put, List.setIfInBounds_toArray, List.set_cons_zero, List.set_cons_succ])
            | (refine wpOrd_skip rfl rfl ?_ ?_; rfl; simp only [Act.put, List.setIfInBounds_toArray, List.set_cons_zero, List.set_cons_succ]))
          refine wpOrd_nil ?_
          go_wp2_with fail
          refine (HW.out _ (HV.out.later B0.drew)).mono ?_
          rintro e w4 ⟨v4, rfl, ho4, b4⟩
          have kB := (kB.later B0.drew).later b4
          have hb4 := Below.later' (Below.later' hb1 B0.drew) b4
          have hwl : (l.take i ++ l.drop (i + 1)).length ≤ l.length := by rw [List.length_append, List.length_take, List.length_drop]; omega
          have kB9 := kB
          have HL9 := RdT.owns ho4
          have BW := hb4
          go_wp2_with fail
          refine wp_region_way (fun w' => Below w4.heap.size w4 w') (.go 0 (.go 2 (.two 1 3 (.go 3 (.go 4 (.go 5 (.go 6 .nil)))) (.go 1 (.go 4 (.go 5 (.go 6 .nil))))))) [1, 3, 4] (by kernel_rfl) (by kernel_rfl) (by intro c d v a w h; cases d <;> exact h) (Below.drew (Below.refl _ _)) ?_
          obtain ⟨W, hWW⟩ : ∃ W, w4 = W := ⟨_, rfl⟩
          rw [hWW] at kB9 HL9 BW ⊢
          have hF := fun (w' : World) (j : Nat) (hb : Below W.heap.size W w') => (kB9.later hb).cell j
          have hBd0 : Below W.heap.size W W.drew := Below.drew (Below.refl _ _)
          obtain ⟨Wd, hWd⟩ : ∃ Wd, W.drew = Wd := ⟨_, rfl⟩
          rw [hWd] at hBd0 ⊢
          have hBd := hBd0
          clear hWd
          obtain ⟨LL, hLL⟩ : ∃ LL, l.take i ++ l.drop (i + 1) = LL := ⟨_, rfl⟩
          rw [hLL] at HL9
          have HL := Lib.hid HL9
          have hLen : LL.length ≤ 100001 := by rw [← hLL]; omega
          clear HL9
          repeat (first
            | (refine wpWay_take (v := ?_) rfl rfl ?_ ?_ ?_; rotate_left; rfl; (· intro w' hSw; (try dsimp only at hSw); go_simp <;> with_reducible rfl); simp only [Act.put, List.setIfInBounds_toArray, List.set_cons_zero, List.set_cons_succ])
            | (refine wpWay_skip rfl rfl ?_ ?_; rfl; simp only [Act.put, List.setIfInBounds_toArray, List.set_cons_zero, List.set_cons_succ]))
          refine wpWay_two rfl rfl (fun K hK => ?_) (fun K hK => ?_)
          · refine appNg rfl _ _ 27 rfl W.heap.size 30 Cm.zero.val 7 72 infoC Try.underlying27 rfl (by decide) Wd (.slice none 0 0) 0 [] ⟨rfl, .inl ⟨rfl, rfl⟩⟩ rfl _ LL.length (flat LL) (HL.out.later hBd) (rows_length Cm.cells 7 Cm.cells_len _) (one_cells _) rfl (by simp; omega) (by simp; omega) hBd.size ?_
            intro v1 w1 ho1 g1
            rw [Nat.zero_add, List.nil_append] at ho1
            have B1 : Below W.heap.size W w1 := g1.below hBd hBd.size (fun c hc => by cases hc)
            go_wp2_with fail
            refine hK.out _ _ B1 ?_
            clear hK K
            repeat (first
              | (refine wpWay_take (v := ?_) rfl rfl ?_ ?_ ?_; rotate_left; rfl; (· intro w' hSw; (try dsimp only at hSw); go_simp <;> with_reducible rfl); simp only [Act.put, List.setIfInBounds_toArray, List.set_cons_zero, List.set_cons_succ])
              | (refine wpWay_skip rfl rfl ?_ ?_; rfl; simp only [Act.put, List.setIfInBounds_toArray, List.set_cons_zero, List.set_cons_succ]))
            refine wpWay_eff rfl rfl (fun K hK => ?_)
            go_wp2_with fail
            have B2 := B1.alloc B1.size (.cells #[.int .u8 x.cl, .int .u32 x.sq, .int .u8 x.kd, .string x.key, .string x.old, .string x.new, .int .u8 x.set] 30)
            have ho2 := ownsRow_below ho1 (below1 w1 (.cells #[.int .u8 x.cl, .int .u32 x.sq, .int .u8 x.kd, .string x.key, .string x.old, .string x.new, .int .u8 x.set] 30))
            have HX1 : RdT Cm.cells (w1.alloc (.cells #[.int .u8 x.cl, .int .u32 x.sq, .int .u8 x.kd, .string x.key, .string x.old, .string x.new, .int .u8 x.set] 30)) (.slice (some ⟨w1.heap.size, 0, none⟩) 1 1) [x] := by
              have := rdV_block w1 #[.int .u8 x.cl, .int .u32 x.sq, .int .u8 x.kd, .string x.key, .string x.old, .string x.new, .int .u8 x.set] 30 1 1 (by omega)
              simpa [RdT] using this
            refine hK.out _ _ B2 ?_
            clear hK K
            repeat (first
              | (refine wpWay_take (v := ?_) rfl rfl ?_ ?_ ?_; rotate_left; rfl; (· intro w' hSw; (try dsimp only at hSw); go_simp <;> with_reducible rfl); simp only [Act.put, List.setIfInBounds_toArray, List.set_cons_zero, List.set_cons_succ])
              | (refine wpWay_skip rfl rfl ?_ ?_; rfl; simp only [Act.put, List.setIfInBounds_toArray, List.set_cons_zero, List.set_cons_succ]))
            refine wpWay_eff rfl rfl (fun K hK => ?_)
            refine appNg rfl _ _ 27 rfl W.heap.size 30 Cm.zero.val 7 72 infoC Try.underlying27 rfl (by decide) (w1.alloc (.cells #[.int .u8 x.cl, .int .u32 x.sq, .int .u8 x.kd, .string x.key, .string x.old, .string x.new, .int .u8 x.set] 30)) v1 LL.length (flat LL) ho2 rfl _ [x].length (flat [x]) HX1 (rows_length Cm.cells 7 Cm.cells_len _) (one_cells _) rfl (by simp; omega) (by simp; omega) B2.size ?_
            intro v2 w2 ho3 g2
            have B3 := g2.below B2 B2.size (own_base ho2)
            have ho4 : w2.ownsRow W.heap.size 30 7 v2 (LL ++ [x]).length (flat (LL ++ [x])) := by
              rw [List.length_append]; unfold flat at ho3 ⊢; rw [List.flatMap_append]; exact ho3
            go_wp2_with fail
            refine hK.out _ _ B3 ?_
            clear hK K
            repeat (first
              | (refine wpWay_take (v := ?_) rfl rfl ?_ ?_ ?_; rotate_left; rfl; (· intro w' hSw; (try dsimp only at hSw); go_simp <;> with_reducible rfl); simp only [Act.put, List.setIfInBounds_toArray, List.set_cons_zero, List.set_cons_succ])
              | (refine wpWay_skip rfl rfl ?_ ?_; rfl; simp only [Act.put, List.setIfInBounds_toArray, List.set_cons_zero, List.set_cons_succ]))
            refine wpWay_nil ?_
            go_wp2_with fail
            refine bodyPost_ret (v := .tuple #[v2, .int .i64 0]) (by simp [results, Try.results15, go_sem]) rfl ⟨v2, by rw [HR.out], ?_, ?_, fits_own ho4, .inr (.inr (fun b hb => ?_)), fun b hb => (ho4.lt b hb).2⟩
            · rw [HR.out, hLL]; exact RdT.owns ho4
            · exact BW.trans (B3.mono BW.size)
            · exact Nat.le_trans BW.size (own_base ho4 b hb)
          · go_wp2_with fail
            have hB2 := hBd.alloc hBd.size (.cells #[.int .u8 x.cl, .int .u32 x.sq, .int .u8 x.kd, .string x.key, .string x.old, .string x.new, .int .u8 x.set] 30)
            have HX1 : RdT Cm.cells (Wd.alloc (.cells #[.int .u8 x.cl, .int .u32 x.sq, .int .u8 x.kd, .string x.key, .string x.old, .string x.new, .int .u8 x.set] 30)) (.slice (some ⟨Wd.heap.size, 0, none⟩) 1 1) [x] := by
              have := rdV_block Wd #[.int .u8 x.cl, .int .u32 x.sq, .int .u8 x.kd, .string x.key, .string x.old, .string x.new, .int .u8 x.set] 30 1 1 (by omega)
              simpa [RdT] using this
            obtain ⟨We, hWe⟩ : ∃ We, Wd.alloc (.cells #[.int .u8 x.cl, .int .u32 x.sq, .int .u8 x.kd, .string x.key, .string x.old, .string x.new, .int .u8 x.set] 30) = We := ⟨_, rfl⟩
            rw [hWe] at hB2 HX1 ⊢
            clear hWe
            refine hK.out _ _ hB2 ?_
            clear hK K
            repeat (first
              | (refine wpWay_take (v := ?_) rfl rfl ?_ ?_ ?_; rotate_left; rfl; (· intro w' hSw; (try dsimp only at hSw); go_simp <;> with_reducible rfl); simp only [Act.put, List.setIfInBounds_toArray, List.set_cons_zero, List.set_cons_succ])
              | (refine wpWay_skip rfl rfl ?_ ?_; rfl; simp only [Act.put, List.setIfInBounds_toArray, List.set_cons_zero, List.set_cons_succ]))
            refine wpWay_eff rfl rfl (fun K hK => ?_)
            refine appNg rfl _ _ 27 rfl W.heap.size 30 Cm.zero.val 7 72 infoC Try.underlying27 rfl (by decide) We (.slice none 0 0) 0 [] ⟨rfl, .inl ⟨rfl, rfl⟩⟩ rfl _ LL.length (flat LL) (HL.out.later hB2) (rows_length Cm.cells 7 Cm.cells_len _) (one_cells _) rfl (by simp; omega) (by simp; omega) hB2.size ?_
            intro v1 w1 ho1 g1
            rw [Nat.zero_add, List.nil_append] at ho1
            have B1 : Below W.heap.size W w1 := g1.below hB2 hB2.size (fun c hc => by cases hc)
            have HX2 := HX1.later (g1.below (Below.refl We.heap.size We) (Nat.le_refl _) (fun c hc => by cases hc))
            go_wp2_with fail
            refine hK.out _ _ B1 ?_
            clear hK K
            repeat (first
              | (refine wpWay_take (v := ?_) rfl rfl ?_ ?_ ?_; rotate_left; rfl; (· intro w' hSw; (try dsimp only at hSw); go_simp <;> with_reducible rfl); simp only [Act.put, List.setIfInBounds_toArray, List.set_cons_zero, List.set_cons_succ])
              | (refine wpWay_skip rfl rfl ?_ ?_; rfl; simp only [Act.put, List.setIfInBounds_toArray, List.set_cons_zero, List.set_cons_succ]))
            refine wpWay_eff rfl rfl (fun K hK => ?_)
            refine appNg rfl _ _ 27 rfl W.heap.size 30 Cm.zero.val 7 72 infoC Try.underlying27 rfl (by decide) w1 v1 LL.length (flat LL) ho1 rfl _ [x].length (flat [x]) HX2 (rows_length Cm.cells 7 Cm.cells_len _) (one_cells _) rfl (by simp; omega) (by simp; omega) B1.size ?_
            intro v2 w2 ho3 g2
            have B3 := g2.below B1 B1.size (own_base ho1)
            have ho4 : w2.ownsRow W.heap.size 30 7 v2 (LL ++ [x]).length (flat (LL ++ [x])) := by
              rw [List.length_append]; unfold flat at ho3 ⊢; rw [List.flatMap_append]; exact ho3
            go_wp2_with fail
            refine hK.out _ _ B3 ?_
            clear hK K
            repeat (first
              | (refine wpWay_take (v := ?_) rfl rfl ?_ ?_ ?_; rotate_left; rfl; (· intro w' hSw; (try dsimp only at hSw); go_simp <;> with_reducible rfl); simp only [Act.put, List.setIfInBounds_toArray, List.set_cons_zero, List.set_cons_succ])
              | (refine wpWay_skip rfl rfl ?_ ?_; rfl; simp only [Act.put, List.setIfInBounds_toArray, List.set_cons_zero, List.set_cons_succ]))
            refine wpWay_nil ?_
            go_wp2_with fail
            refine bodyPost_ret (v := .tuple #[v2, .int .i64 0]) (by simp [results, Try.results15, go_sem]) rfl ⟨v2, by rw [HR.out], ?_, ?_, fits_own ho4, .inr (.inr (fun b hb => ?_)), fun b hb => (ho4.lt b hb).2⟩
            · rw [HR.out, hLL]; exact RdT.owns ho4
            · exact BW.trans (B3.mono BW.size)
            · exact Nat.le_trans BW.size (own_base ho4 b hb)
  · rw [decide_eq_false hm]
    have HR := Lib.hid (show qPut l x = (l, 2) from if_neg hm)
    obtain ⟨p, cap, rfl, _⟩ := hv1.len
    go_wp2_with fail
    refine bodyPost_ret (v := .tuple #[.slice p l.length cap, .int .i64 2]) (by simp [results, Try.results15, go_sem]) rfl ⟨_, by rw [HR.out], by rw [HR.out]; exact hv1, hb1, hcv, .inr (.inl rfl), fun b hb => Nat.lt_of_lt_of_le (hlt b hb) hb1.size⟩
end Bat
end Go.Proofs.Ytcfcikpehekfbaa
