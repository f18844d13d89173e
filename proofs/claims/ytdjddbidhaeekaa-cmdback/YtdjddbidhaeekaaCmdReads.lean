/-
  CmdReads, walked.
-/
import Derived.Test.YtdjddbidhaeekaaCmdRParse
import Derived.Test.YtdjddbidhaeekaaCmdWakes
namespace Go.Proofs.Ytdjddbidhaeekaa
open Go.RowKit Go.WideShapes
namespace Cm
open Wire
set_option maxRecDepth 100000 in
set_option maxHeartbeats 1000000 in
theorem same_any (v u : Value) (l : List Cm) (w : World) (hv : RdT Cm.cells w v l) (hu : RdT Cm.cells w u l) : Calls Try.prog 20 #[v, u] w fun e w' => e = .returned (.bool true) ∧ Below w.heap.size w w' := by
  have HV := Lib.hid hv
  have HU := Lib.hid hu
  obtain ⟨p, cap, rfl, hlen⟩ := hv.len
  obtain ⟨p2, cap2, rfl, _⟩ := hu.len
  clear hv hu
  have t0 : ((l.length : Int) != (l.length : Int)) = false := by simp
  go_enter Try.func20, Try.ntmps20
  go_wp2_with fail
  go_loopw [5] (fun i wr => ∃ k : Nat, k ≤ l.length ∧ i = .int .i64 k ∧ Below w.heap.size w wr) (fun i _ => l.length - (intOf i).toNat)
  case atStart => exact ⟨0, Nat.zero_le _, rfl, Below.refl _ _⟩
  case round =>
    obtain ⟨k, hk, rfl, BB⟩ := hrel
    by_cases hlt : k < l.length
    · have hd : decide ((k : Int) < (l.length : Int)) = true := decide_eq_true (by omega)
      have hd' : decide (k < l.length) = true := decide_eq_true hlt
      obtain ⟨lb, off, cc, e0, g⟩ := rd_one (HV.out.below BB (Nat.le_refl _)) k hlt
      cases e0
      obtain ⟨lc, oc, cd, e1, f⟩ := rd_one (HU.out.below BB (Nat.le_refl _)) k hlt
      cases e1
      obtain ⟨x, hx⟩ : ∃ x, l[k] = x := ⟨_, rfl⟩
      rw [hx] at g f
      clear hx
      have E := cm_neq x x false (by simp)
      have g0 := fun w' hb => g w' hb 0 (by decide)
      have g1 := fun w' hb => g w' hb 1 (by decide)
      have g2 := fun w' hb => g w' hb 2 (by decide)
      have g3 := fun w' hb => g w' hb 3 (by decide)
      have g4 := fun w' hb => g w' hb 4 (by decide)
      have g5 := fun w' hb => g w' hb 5 (by decide)
      have g6 := fun w' hb => g w' hb 6 (by decide)
      have f0 := fun w' hb => f w' hb 0 (by decide)
      have f1 := fun w' hb => f w' hb 1 (by decide)
      have f2 := fun w' hb => f w' hb 2 (by decide)
      have f3 := fun w' hb => f w' hb 3 (by decide)
      have f4 := fun w' hb => f w' hb 4 (by decide)
      have f5 := fun w' hb => f w' hb 5 (by decide)
      have f6 := fun w' hb => f w' hb 6 (by decide)
      simp only [Cm.cells, Nat.add_zero] at g0 g1 g2 g3 g4 g5 g6 f0 f1 f2 f3 f4 f5 f6
      clear g f
      have B0 : Below wr.heap.size wr wr.drew := Below.drew (Below.refl _ _)
      go_wp2_with fail
      refine wp_region_ord (fun w' => Below wr.heap.size wr w') (0 :: 1 :: 2 :: 3 :: 4 :: 5 :: 6 :: 7 :: 8 :: []) [] (by kernel_rfl) (by kernel_rfl) (by intro c d v a w h; cases d <;> exact h) B0 ?_
      repeat (first
        | (refine wpOrd_take (v := ?_) rfl rfl ?_ ?_ ?_; rotate_left; rfl; (· intro w' hSw; (try dsimp only at hSw); go_simp <;> with_reducible rfl); simp only [Act.put, List.setIfInBounds_toArray, List.set_cons_zero, List.set_cons_succ])
        | (refine wpOrd_skip rfl rfl ?_ ?_; rfl; simp only [Act.put, List.setIfInBounds_toArray, List.set_cons_zero, List.set_cons_succ]))
      refine wpOrd_nil ?_
      go_wp2_with fail
      go_roundw
      case rel => exact ⟨k + 1, by omega, by go_num, BB.drew⟩
      case measure => simp [intOf]; omega
    · have hd : decide ((k : Int) < (l.length : Int)) = false := decide_eq_false (by omega)
      have hd' : decide (k < l.length) = false := decide_eq_false hlt
      go_wp2_with fail
      go_ret
      exact ⟨rfl, BB⟩
set_option maxRecDepth 100000 in
set_option maxHeartbeats 1000000 in
theorem take_nil (w : World) : Calls Try.prog 18 #[.pointer none] w fun e w' => e = .returned (.agg #[.int .u8 0, .int .u32 0, .int .u8 0, .string ⟨#[]⟩, .string ⟨#[]⟩, .string ⟨#[]⟩, .int .u8 0]) ∧ Below w.heap.size w w' := by
  have HC0 := Lib.hid (show chk zero = 2 by kernel_rfl)
  have hw32 : IntKind.u32.wrap (0 : Int) = 0 := by rw [IntKind.wrap_u32]; rfl
  have kA := Blk.new w (.cells #[.int .u8 0, .int .u32 0, .int .u8 0, .string ⟨#[]⟩, .string ⟨#[]⟩, .string ⟨#[]⟩, .int .u8 0] 25)
  have BB := below1 w (.cells #[.int .u8 0, .int .u32 0, .int .u8 0, .string ⟨#[]⟩, .string ⟨#[]⟩, .string ⟨#[]⟩, .int .u8 0] 25)
  go_enter Try.func18, Try.ntmps18
  go_wp2_with fail
  refine (byte_nil _).mono ?_
  rintro e w1 ⟨rfl, rfl⟩
  go_wp2_with fail
  refine (below_nil 4294967296 _).mono ?_
  rintro e w1 ⟨rfl, rfl⟩
  go_wp2_with fail
  refine (byte_nil _).mono ?_
  rintro e w1 ⟨rfl, rfl⟩
  go_wp2_with fail
  have kA1 := kA.alloc (.cells #[.int .u8 0, .int .u32 0, .int .u8 0, .string ⟨#[]⟩, .string ⟨#[]⟩, .string ⟨#[]⟩, .int .u8 0] 25)
  have kB := Blk.newAt (w := w.alloc (.cells #[.int .u8 0, .int .u32 0, .int .u8 0, .string ⟨#[]⟩, .string ⟨#[]⟩, .string ⟨#[]⟩, .int .u8 0] 25)) (b := w.heap.size + 1) (.cells #[.int .u8 0, .int .u32 0, .int .u8 0, .string ⟨#[]⟩, .string ⟨#[]⟩, .string ⟨#[]⟩, .int .u8 0] 25) (by simp)
  have BB1 := BB.alloc BB.size (.cells #[.int .u8 0, .int .u32 0, .int .u8 0, .string ⟨#[]⟩, .string ⟨#[]⟩, .string ⟨#[]⟩, .int .u8 0] 25)
  obtain ⟨W, hW⟩ : ∃ W, (w.alloc (.cells #[.int .u8 0, .int .u32 0, .int .u8 0, .string ⟨#[]⟩, .string ⟨#[]⟩, .string ⟨#[]⟩, .int .u8 0] 25)).alloc (.cells #[.int .u8 0, .int .u32 0, .int .u8 0, .string ⟨#[]⟩, .string ⟨#[]⟩, .string ⟨#[]⟩, .int .u8 0] 25) = W := ⟨_, rfl⟩
  rw [hW] at kA1 kB BB1 ⊢
  clear hW kA BB
  refine (str_nil 16 _).mono ?_
  rintro e w1 ⟨rfl, rfl⟩
  go_wp2_with fail
  refine (str_nil 64 _).mono ?_
  rintro e w1 ⟨rfl, rfl⟩
  go_wp2_with fail
  refine (str_nil 64 _).mono ?_
  rintro e w1 ⟨rfl, rfl⟩
  have f0 := kB.frozen 0
  have c0 := kB.cell 0
  have f1 := kB.frozen 1
  have c1 := kB.cell 1
  have f2 := kB.frozen 2
  have c2 := kB.cell 2
  have f3 := kB.frozen 3
  have c3 := kB.cell 3
  have f4 := kB.frozen 4
  have c4 := kB.cell 4
  have f5 := kB.frozen 5
  have c5 := kB.cell 5
  have f6 := kB.frozen 6
  have c6 := kB.cell 6
  have ebs : bs [] = (⟨#[]⟩ : ByteArray) := rfl
  simp only [ebs]
  go_wp2_with fail
  refine (byte_nil _).mono ?_
  rintro e w1 ⟨rfl, rfl⟩
  have kB3 := ((kB.set 3 (.string ⟨#[]⟩)).set 4 (.string ⟨#[]⟩)).set 5 (.string ⟨#[]⟩)
  have kA3 := ((kA1.other (a := ⟨w.heap.size + 1, 3, none⟩) (by dsimp only; omega) (.string ⟨#[]⟩)).other (a := ⟨w.heap.size + 1, 4, none⟩) (by dsimp only; omega) (.string ⟨#[]⟩)).other (a := ⟨w.heap.size + 1, 5, none⟩) (by dsimp only; omega) (.string ⟨#[]⟩)
  have BB3 := ((BB1.setCell (p := ⟨w.heap.size + 1, 3, none⟩) (by dsimp only; omega) (.string ⟨#[]⟩)).setCell (p := ⟨w.heap.size + 1, 4, none⟩) (by dsimp only; omega) (.string ⟨#[]⟩)).setCell (p := ⟨w.heap.size + 1, 5, none⟩) (by dsimp only; omega) (.string ⟨#[]⟩)
  obtain ⟨V, hV⟩ : ∃ V, ((W.setCell ⟨w.heap.size + 1, 3, none⟩ (.string ⟨#[]⟩)).setCell ⟨w.heap.size + 1, 4, none⟩ (.string ⟨#[]⟩)).setCell ⟨w.heap.size + 1, 5, none⟩ (.string ⟨#[]⟩) = V := ⟨_, rfl⟩
  rw [hV] at kB3 kA3 BB3 ⊢
  have kB4 : Blk V (w.heap.size + 1) (.cells #[.int .u8 0, .int .u32 0, .int .u8 0, .string ⟨#[]⟩, .string ⟨#[]⟩, .string ⟨#[]⟩, .int .u8 0] 25) := kB3
  clear hV kB3 kB kA1 BB1 f0 f1 f2 f3 f4 f5 f6 c0 c1 c2 c3 c4 c5 c6
  have f6 := kB4.frozen 6
  have c0 := kB4.cell 0
  have c1 := kB4.cell 1
  have c2 := kB4.cell 2
  have c3 := kB4.cell 3
  have c4 := kB4.cell 4
  have c5 := kB4.cell 5
  have c6 := kB4.cell 6
  have kB5 := kB4.set 6 (.int .u8 0)
  have kA5 := kA3.other (a := ⟨w.heap.size + 1, 6, none⟩) (by dsimp only; omega) (.int .u8 0)
  have BB5 := BB3.setCell (p := ⟨w.heap.size + 1, 6, none⟩) (by dsimp only; omega) (.int .u8 0)
  go_wp2_with fail
  obtain ⟨V2, hV2⟩ : ∃ V2, V.setCell ⟨w.heap.size + 1, 6, none⟩ (.int .u8 0) = V2 := ⟨_, rfl⟩
  rw [hV2] at kA5 BB5 ⊢
  clear hV2 kB5 kB4 kA3 BB3 f6 c0 c1 c2 c3 c4 c5 c6
  refine (check_any zero zero_ok V2).mono ?_
  rintro e w6 ⟨rfl, b6⟩
  rw [HC0.out]
  have kA6 := kA5.later b6
  have BB6 := Below.later BB5 b6 BB5.size
  go_wp2_with fail
  refine (bad_nil _).mono ?_
  rintro e w7 ⟨rfl, rfl⟩
  go_wp2_with fail
  refine (err_nil _).mono ?_
  rintro e w8 ⟨rfl, rfl⟩
  have f0 := kA6.frozen 0
  have c0 := kA6.cell 0
  have f1 := kA6.frozen 1
  have c1 := kA6.cell 1
  have f2 := kA6.frozen 2
  have c2 := kA6.cell 2
  have f3 := kA6.frozen 3
  have c3 := kA6.cell 3
  have f4 := kA6.frozen 4
  have c4 := kA6.cell 4
  have f5 := kA6.frozen 5
  have c5 := kA6.cell 5
  have f6 := kA6.frozen 6
  have c6 := kA6.cell 6
  go_wp2_with fail
  change bodyPost _ _ _ _ _ (st7 w6 w.heap.size zero)
  have kf := st7_blk zero kA6
  have gf := st7_below zero BB6 (Nat.le_refl _)
  obtain ⟨wf, hwf⟩ : ∃ wf, st7 w6 w.heap.size zero = wf := ⟨_, rfl⟩
  rw [hwf] at kf gf ⊢
  clear hwf
  have y0 := kf.cell 0
  have y1 := kf.cell 1
  have y2 := kf.cell 2
  have y3 := kf.cell 3
  have y4 := kf.cell 4
  have y5 := kf.cell 5
  have y6 := kf.cell 6
  refine bodyPost_ret (v := .agg #[.int .u8 0, .int .u32 0, .int .u8 0, .string ⟨#[]⟩, .string ⟨#[]⟩, .string ⟨#[]⟩, .int .u8 0]) (by simp [results, Try.results18, go_sem, zero, y0, y1, y2, y3, y4, y5, y6]) rfl ⟨rfl, gf⟩
set_option maxRecDepth 100000 in
set_option maxHeartbeats 4000000 in
theorem reads_walk (s : List UInt8) (hl : ¬ 2000 < s.length) (w : World) :
    Calls Try.prog 4 #[.string (bs s)] w fun e w' => e = .returned (.bool true) ∧ Below w.heap.size w w' := by
  have hs := bs_size s
  have d1 : decide (2000 < s.length) = false := decide_eq_false hl
  have d1' : decide ((2000 : Int) < (s.length : Int)) = false := decide_eq_false (by omega)
  have HP := Lib.hid (fun w => parse_c s (by omega) w)
  have HQ := Lib.hid (fun w => rparse_c s (by omega) w)
  obtain ⟨PL, PE, hP⟩ : ∃ PL PE, parseR s = (PL, PE) := ⟨_, _, rfl⟩
  rw [hP] at HP HQ
  clear hP
  have HT := Lib.hid (fun b w h => take_c b ⟨s, 0⟩ w h (by dsimp only; omega))
  have HR := Lib.hid (fun w => rtake_c ⟨s, 0⟩ (by dsimp only; omega) w)
  obtain ⟨x, sx, hx⟩ : ∃ x sx, takeC ⟨s, 0⟩ = (x, sx) := ⟨_, _, rfl⟩
  rw [hx] at HT HR
  clear hx
  dsimp only at HP HQ HT HR
  unfold rv at HR
  go_enter Try.func4, Try.ntmps4
  go_wp2_with fail
  refine (HP.out w).mono ?_
  rintro e w1 ⟨v1, rfl, r1, b1⟩
  go_wp2_with fail
  refine (HQ.out w1).mono ?_
  rintro e w2 ⟨v2, rfl, r2, b2⟩
  have r1 := r1.later b2
  have B2 := Below.later' b1 b2
  clear b1 b2
  go_wp2_with fail
  refine (of_any s w2).mono ?_
  rintro e w3 ⟨br, rfl, hbr, b3, rd3⟩
  go_wp2_with fail
  refine (HT.out br w3 rd3).mono ?_
  rintro e w4 ⟨rfl, g4, rd4⟩
  have b24 := Below.grew b3 g4 b3.size hbr
  have r1 := r1.later b24
  have r2 := r2.later b24
  have B4 := Below.later B2 b24 B2.size
  clear b3 rd3 g4 b24 B2
  go_wp2_with fail
  have k8 := Blk.new w4 (.cells #[.int .u8 x.cl, .int .u32 x.sq, .int .u8 x.kd, .string x.key, .string x.old, .string x.new, .int .u8 x.set] 25)
  have b5 := below1 w4 (.cells #[.int .u8 x.cl, .int .u32 x.sq, .int .u8 x.kd, .string x.key, .string x.old, .string x.new, .int .u8 x.set] 25)
  obtain ⟨w5, hw5⟩ : ∃ w5, w4.alloc (.cells #[.int .u8 x.cl, .int .u32 x.sq, .int .u8 x.kd, .string x.key, .string x.old, .string x.new, .int .u8 x.set] 25) = w5 := ⟨_, rfl⟩
  rw [hw5] at k8 b5 ⊢
  clear hw5
  have r1 := r1.later b5
  have r2 := r2.later b5
  have rd5 : Rdr w5 br sx := Blk.later rd4 b5
  have B5 := Below.later B4 b5 B4.size
  clear rd4 B4 b5
  refine (HR.out w5).mono ?_
  rintro e w6 ⟨rfl, b6⟩
  have k86 := k8.later b6
  have r1 := r1.later b6
  have r2 := r2.later b6
  have rd6 : Rdr w6 br sx := Blk.later rd5 b6
  have B6 := Below.later B5 b6 B5.size
  clear k8 rd5 b6 B5
  go_wp2_with fail
  have k9 : Blk ((w6.alloc (.cells #[.int .u8 x.cl, .int .u32 x.sq, .int .u8 x.kd, .string x.key, .string x.old, .string x.new, .int .u8 x.set] 25)).alloc (.cells #[.string (bs sx.rest), .int .i64 sx.e] 44)) w6.heap.size (.cells #[.int .u8 x.cl, .int .u32 x.sq, .int .u8 x.kd, .string x.key, .string x.old, .string x.new, .int .u8 x.set] 25) := Blk.alloc (Blk.new w6 _) _
  have k10 : Blk ((w6.alloc (.cells #[.int .u8 x.cl, .int .u32 x.sq, .int .u8 x.kd, .string x.key, .string x.old, .string x.new, .int .u8 x.set] 25)).alloc (.cells #[.string (bs sx.rest), .int .i64 sx.e] 44)) (w6.heap.size + 1) (.cells #[.string (bs sx.rest), .int .i64 sx.e] 44) := Blk.newAt _ (by simp)
  have b7 := below2 w6 (.cells #[.int .u8 x.cl, .int .u32 x.sq, .int .u8 x.kd, .string x.key, .string x.old, .string x.new, .int .u8 x.set] 25) (.cells #[.string (bs sx.rest), .int .i64 sx.e] 44)
  obtain ⟨W, hW⟩ : ∃ W, (w6.alloc (.cells #[.int .u8 x.cl, .int .u32 x.sq, .int .u8 x.kd, .string x.key, .string x.old, .string x.new, .int .u8 x.set] 25)).alloc (.cells #[.string (bs sx.rest), .int .i64 sx.e] 44) = W := ⟨_, rfl⟩
  rw [hW] at k9 k10 b7 ⊢
  clear hW
  have k8 := k86.later b7
  have r1 := r1.later b7
  have r2 := r2.later b7
  have rd7 : Rdr W br sx := Blk.later rd6 b7
  have B7 := Below.later B6 b7 B6.size
  clear k86 rd6 b7 B6
  have F8 := k8.held
  have F9 := k9.held
  have F10 := k10.held
  have R1 := Lib.hid (fun w' (hb : Below W.heap.size W w') => r1.later hb)
  have R2 := Lib.hid (fun w' (hb : Below W.heap.size W w') => r2.later hb)
  have RD := Lib.hid (fun w' (hb : Below W.heap.size W w') => (Blk.later rd7 hb : Rdr w' br sx))
  have E := cm_eql x x true (by simp)
  have E0 : ∀ w' : World, (binOp .eql 25 (.agg #[.int .u8 0, .int .u32 0, .int .u8 0, .string ⟨#[]⟩, .string ⟨#[]⟩, .string ⟨#[]⟩, .int .u8 0]) (.agg #[.int .u8 0, .int .u32 0, .int .u8 0, .string ⟨#[]⟩, .string ⟨#[]⟩, .string ⟨#[]⟩, .int .u8 0])).run Try.prog w' = .ok (.bool true) w' := fun w' => cm_eql zero zero true (by simp) w'
  have zsx := bs_size sx.rest
  have q1 : ((PE : Int) == (PE : Int)) = true := by simp
  have q2 : ((sx.e : Int) == (sx.e : Int)) = true := by simp
  have q3 : ((sx.rest.length : Int) == (sx.rest.length : Int)) = true := by simp
  clear r1 r2 rd7 k8 k9 k10
  have B0 : Below W.heap.size W W.drew := Below.drew (Below.refl _ _)
  refine wp_region_ord (fun w' => Below W.heap.size W w') (0 :: 1 :: 2 :: 3 :: 4 :: 5 :: 6 :: 7 :: 8 :: 9 :: 10 :: 11 :: 12 :: 13 :: 14 :: 16 :: 17 :: 15 :: 18 :: 19 :: 20 :: 21 :: 23 :: 24 :: 25 :: 22 :: 26 :: 27 :: 28 :: 30 :: 29 :: 31 :: 32 :: 33 :: 34 :: 35 :: 36 :: []) [2, 15, 22, 29, 34] (by kernel_rfl) (by kernel_rfl) (by intro c d v a w h; cases d <;> exact h) B0 ?_
  repeat (first
    | (refine wpOrd_take (v := ?_) rfl rfl ?_ ?_ ?_; rotate_left; rfl; (· intro w' hSw; (try dsimp only at hSw); go_simp <;> with_reducible rfl); simp only [Act.put, List.setIfInBounds_toArray, List.set_cons_zero, List.set_cons_succ])
    | (refine wpOrd_skip rfl rfl ?_ ?_; rfl; simp only [Act.put, List.setIfInBounds_toArray, List.set_cons_zero, List.set_cons_succ]))
  refine wpOrd_eff rfl rfl (fun K hK => ?_)
  go_wp2_with fail
  refine (same_any v1 v2 PL _ (R1.out _ B0) (R2.out _ B0)).mono ?_
  rintro e x1 ⟨rfl, b1⟩
  have B1 := B0.trans (b1.mono B0.size)
  go_wp2_with fail
  refine hK.out _ _ B1 ?_
  clear hK K
  repeat (first
    | (refine wpOrd_take (v := ?_) rfl rfl ?_ ?_ ?_; rotate_left; rfl; (· intro w' hSw; (try dsimp only at hSw); go_simp <;> with_reducible rfl); simp only [Act.put, List.setIfInBounds_toArray, List.set_cons_zero, List.set_cons_succ])
    | (refine wpOrd_skip rfl rfl ?_ ?_; rfl; simp only [Act.put, List.setIfInBounds_toArray, List.set_cons_zero, List.set_cons_succ]))
  refine wpOrd_eff rfl rfl (fun K hK => ?_)
  go_wp2_with fail
  refine (err_of br sx _ (RD.out _ B1)).mono ?_
  rintro e x2 ⟨rfl, rfl⟩
  go_wp2_with fail
  refine hK.out _ _ B1 ?_
  clear hK K
  repeat (first
    | (refine wpOrd_take (v := ?_) rfl rfl ?_ ?_ ?_; rotate_left; rfl; (· intro w' hSw; (try dsimp only at hSw); go_simp <;> with_reducible rfl); simp only [Act.put, List.setIfInBounds_toArray, List.set_cons_zero, List.set_cons_succ])
    | (refine wpOrd_skip rfl rfl ?_ ?_; rfl; simp only [Act.put, List.setIfInBounds_toArray, List.set_cons_zero, List.set_cons_succ]))
  refine wpOrd_eff rfl rfl (fun K hK => ?_)
  go_wp2_with fail
  refine (left_of br sx _ (RD.out _ B1)).mono ?_
  rintro e x3 ⟨rfl, rfl⟩
  go_wp2_with fail
  refine hK.out _ _ B1 ?_
  clear hK K
  repeat (first
    | (refine wpOrd_take (v := ?_) rfl rfl ?_ ?_ ?_; rotate_left; rfl; (· intro w' hSw; (try dsimp only at hSw); go_simp <;> with_reducible rfl); simp only [Act.put, List.setIfInBounds_toArray, List.set_cons_zero, List.set_cons_succ])
    | (refine wpOrd_skip rfl rfl ?_ ?_; rfl; simp only [Act.put, List.setIfInBounds_toArray, List.set_cons_zero, List.set_cons_succ]))
  refine wpOrd_eff rfl rfl (fun K hK => ?_)
  go_wp2_with fail
  refine (take_nil _).mono ?_
  rintro e x4 ⟨rfl, b4⟩
  have B4 := B1.trans (b4.mono B1.size)
  go_wp2_with fail
  refine hK.out _ _ B4 ?_
  clear hK K
  repeat (first
    | (refine wpOrd_take (v := ?_) rfl rfl ?_ ?_ ?_; rotate_left; rfl; (· intro w' hSw; (try dsimp only at hSw); go_simp <;> with_reducible rfl); simp only [Act.put, List.setIfInBounds_toArray, List.set_cons_zero, List.set_cons_succ])
    | (refine wpOrd_skip rfl rfl ?_ ?_; rfl; simp only [Act.put, List.setIfInBounds_toArray, List.set_cons_zero, List.set_cons_succ]))
  refine wpOrd_eff rfl rfl (fun K hK => ?_)
  go_wp2_with fail
  refine (wakes_any _).mono ?_
  rintro e x5 ⟨rfl, b5⟩
  have B5 := B4.trans (b5.mono B4.size)
  go_wp2_with fail
  refine hK.out _ _ B5 ?_
  clear hK K
  repeat (first
    | (refine wpOrd_take (v := ?_) rfl rfl ?_ ?_ ?_; rotate_left; rfl; (· intro w' hSw; (try dsimp only at hSw); go_simp <;> with_reducible rfl); simp only [Act.put, List.setIfInBounds_toArray, List.set_cons_zero, List.set_cons_succ])
    | (refine wpOrd_skip rfl rfl ?_ ?_; rfl; simp only [Act.put, List.setIfInBounds_toArray, List.set_cons_zero, List.set_cons_succ]))
  refine wpOrd_nil ?_
  go_wp2_with fail
  go_ret
  exact ⟨rfl, Below.later' B7 B5⟩
theorem reads_long (s : List UInt8) (hl : 2000 < s.length) (w : World) :
    Calls Try.prog 4 #[.string (bs s)] w fun e w' => e = .returned (.bool true) ∧ Below w.heap.size w w' := by
  have hs := bs_size s
  have d1 : decide (2000 < s.length) = true := decide_eq_true hl
  have d1' : decide ((2000 : Int) < (s.length : Int)) = true := decide_eq_true (by omega)
  go_enter Try.func4, Try.ntmps4
  go_wp2_with fail
  refine (wakes_any _).mono ?_
  rintro e w2 ⟨rfl, b2⟩
  go_wp2
  go_ret
  exact ⟨rfl, b2⟩
theorem reads_law (s : ByteArray) (w : World) (_ : s.size ≤ maxLen) :
    Calls Try.prog 4 #[.string s] w fun e w' => e = .returned (.bool true) ∧ Below w.heap.size w w' := by
  rw [← bs_list s]
  by_cases h : 2000 < s.data.toList.length
  · exact reads_long _ h w
  · exact reads_walk _ h w
end Cm
end Go.Proofs.Ytdjddbidhaeekaa
