/-
  cmd.Take: what is read as a command, and what is left.
-/
import Derived.Test.YtdjddbidhaeekaaCmdBytes
import Derived.Test.YtdjddbidhaeekaaWireGood
import Derived.Test.YtdjddbidhaeekaaWireMore
import Derived.Test.YtdjddbidhaeekaaCmdCheck
namespace Go.Proofs.Ytdjddbidhaeekaa
open Go.RowKit Go.WideShapes
namespace Cm
open Wire
def st7 (w : World) (g : Nat) (x : Cm) : World := (((((((w.setCell ⟨g, 0, none⟩ (.int .u8 x.cl)).setCell ⟨g, 1, none⟩ (.int .u32 x.sq)).setCell ⟨g, 2, none⟩ (.int .u8 x.kd)).setCell ⟨g, 3, none⟩ (.string x.key)).setCell ⟨g, 4, none⟩ (.string x.old)).setCell ⟨g, 5, none⟩ (.string x.new)).setCell ⟨g, 6, none⟩ (.int .u8 x.set))
theorem gnew {w w1 : World} {r : Option Nat} {n j : Nat} (g : w.grownBy w1 r) (hn : w.heap.size ≤ n) (v : Value) : w.grownBy (w1.setCell ⟨n, j, none⟩ v) r :=
  ⟨g.os, g.tape, g.output, by simpa using g.size, fun k hk hne => (Below.heap_setCell _ _ _ _ (by dsimp only; omega)).trans (g.block k hk hne)⟩
theorem st7_blk {w : World} {g t : Nat} {a0 a1 a2 a3 a4 a5 a6 : Value} (x : Cm) (h : Blk w g (.cells #[a0, a1, a2, a3, a4, a5, a6] t)) : Blk (st7 w g x) g (.cells #[.int .u8 x.cl, .int .u32 x.sq, .int .u8 x.kd, .string x.key, .string x.old, .string x.new, .int .u8 x.set] t) := by
  have h1 := (((((((h.set 0 (.int .u8 x.cl)).set 1 (.int .u32 x.sq)).set 2 (.int .u8 x.kd)).set 3 (.string x.key)).set 4 (.string x.old)).set 5 (.string x.new)).set 6 (.int .u8 x.set))
  unfold st7
  simpa using h1
theorem st7_grown {w w1 : World} {r : Option Nat} {g : Nat} (x : Cm) (h : w.grownBy w1 r) (hn : w.heap.size ≤ g) : w.grownBy (st7 w1 g x) r := (gnew (gnew (gnew (gnew (gnew (gnew (gnew h hn (.int .u8 x.cl)) hn (.int .u32 x.sq)) hn (.int .u8 x.kd)) hn (.string x.key)) hn (.string x.old)) hn (.string x.new)) hn (.int .u8 x.set))
theorem st7_other {w : World} {g k : Nat} {o : Obj} (x : Cm) (h : Blk w k o) (hne : k ≠ g) : Blk (st7 w g x) k o := (((((((h.other (a := ⟨g, 0, none⟩) hne (.int .u8 x.cl)).other (a := ⟨g, 1, none⟩) hne (.int .u32 x.sq)).other (a := ⟨g, 2, none⟩) hne (.int .u8 x.kd)).other (a := ⟨g, 3, none⟩) hne (.string x.key)).other (a := ⟨g, 4, none⟩) hne (.string x.old)).other (a := ⟨g, 5, none⟩) hne (.string x.new)).other (a := ⟨g, 6, none⟩) hne (.int .u8 x.set))
set_option maxRecDepth 100000 in
set_option maxHeartbeats 2000000 in
theorem take_c (b : Nat) (s : R) (w : World) (h : Rdr w b s) (hl : s.rest.length < 9223372036854775808) :
    Calls Try.prog 18 #[rp b] w (Reads w b (takeC s).1.val (takeC s).2) := by
  have hb := Blk.lt h
  have l1 := byteR_len s
  have o1 := byteR_lt s
  have H1 := Lib.hid (fun w h => byte_any b s w h hl)
  obtain ⟨c, s1, e1⟩ : ∃ c s1, byteR s = (c, s1) := ⟨_, _, rfl⟩
  have l2 := belowR_len' s1 4294967296
  have o2 := belowR_lt s1 4294967296 (by decide)
  have H2 := Lib.hid (fun w h hl => below_any b s1 4294967296 (by decide) w h hl)
  obtain ⟨n, s2, e2⟩ : ∃ n s2, belowR s1 4294967296 = (n, s2) := ⟨_, _, rfl⟩
  have l3 := byteR_len s2
  have o3 := byteR_lt s2
  have H3 := Lib.hid (fun w h hl => byte_any b s2 w h hl)
  obtain ⟨k, s3, e3⟩ : ∃ k s3, byteR s2 = (k, s3) := ⟨_, _, rfl⟩
  have l4 := strR_len' s3 16
  have o4 := strR_le s3 16
  have H4 := Lib.hid (fun w h hl => str_any b s3 16 (by decide) w h hl)
  rw [show (16 : Int).toNat = 16 from rfl] at H4
  obtain ⟨K, s4, e4⟩ : ∃ K s4, strR s3 16 = (K, s4) := ⟨_, _, rfl⟩
  have l5 := strR_len' s4 64
  have o5 := strR_le s4 64
  have H5 := Lib.hid (fun w h hl => str_any b s4 64 (by decide) w h hl)
  rw [show (64 : Int).toNat = 64 from rfl] at H5
  obtain ⟨O, s5, e5⟩ : ∃ O s5, strR s4 64 = (O, s5) := ⟨_, _, rfl⟩
  have l6 := strR_len' s5 64
  have o6 := strR_le s5 64
  have H6 := Lib.hid (fun w h hl => str_any b s5 64 (by decide) w h hl)
  rw [show (64 : Int).toNat = 64 from rfl] at H6
  obtain ⟨N, s6, e6⟩ : ∃ N s6, strR s5 64 = (N, s6) := ⟨_, _, rfl⟩
  have l7 := byteR_len s6
  have o7 := byteR_lt s6
  have H7 := Lib.hid (fun w h hl => byte_any b s6 w h hl)
  obtain ⟨t, s7, e7⟩ : ∃ t s7, byteR s6 = (t, s7) := ⟨_, _, rfl⟩
  rw [e1] at l1 o1 H1
  rw [e2] at l2 o2 H2
  rw [e3] at l3 o3 H3
  rw [e4] at l4 o4 H4
  rw [e5] at l5 o5 H5
  rw [e6] at l6 o6 H6
  rw [e7] at l7 o7 H7
  dsimp only at l1 o1 H1 l2 o2 H2 l3 o3 H3 l4 o4 H4 l5 o5 H5 l6 o6 H6 l7 o7 H7
  have hraw : rawC s = (⟨c, n, k, bs K, bs O, bs N, t⟩, s7) := by simp only [rawC, e1, e2, e3, e4, e5, e6, e7]
  clear e1 e2 e3 e4 e5 e6 e7
  have HRAW := Lib.hid hraw
  clear hraw
  have zK := bs_size K
  have zO := bs_size O
  have zN := bs_size N
  obtain ⟨X, hX⟩ : ∃ X : Cm, (⟨c, n, k, bs K, bs O, bs N, t⟩ : Cm) = X := ⟨_, rfl⟩
  have HXE := Lib.hid hX
  clear hX
  have HCK := Lib.hid (fun w => check_any (⟨c, n, k, bs K, bs O, bs N, t⟩ : Cm) ⟨by dsimp only; omega, by dsimp only; omega, by dsimp only; omega, by dsimp only; omega, by dsimp only; omega, by dsimp only; omega, by dsimp only; omega⟩ w)
  have HCV := Lib.hid (show ∀ Y : Cm, Y.may → chk Y = 0 from fun Y h => if_pos h)
  have HCW := Lib.hid (show ∀ Y : Cm, ¬ Y.may → chk Y = 2 from fun Y h => if_neg h)
  have hw32 : IntKind.u32.wrap (n : Int) = (n : Int) := by rw [IntKind.wrap_u32]; omega
  have kA := Blk.new w (.cells #[.int .u8 0, .int .u32 0, .int .u8 0, .string ⟨#[]⟩, .string ⟨#[]⟩, .string ⟨#[]⟩, .int .u8 0] 25)
  have r0 : Rdr (w.alloc (.cells #[.int .u8 0, .int .u32 0, .int .u8 0, .string ⟨#[]⟩, .string ⟨#[]⟩, .string ⟨#[]⟩, .int .u8 0] 25)) b s := Blk.alloc h _
  have HG := gbelow (r := some b) (below1 w (.cells #[.int .u8 0, .int .u32 0, .int .u8 0, .string ⟨#[]⟩, .string ⟨#[]⟩, .string ⟨#[]⟩, .int .u8 0] 25))
  have hA : some w.heap.size ≠ some b := by intro e; cases e; omega
  have hA2 : b ≠ w.heap.size := by omega
  clear h
  go_enter Try.func18, Try.ntmps18
  go_wp2_with fail
  refine (H1.out _ r0).mono ?_
  rintro e w1 ⟨rfl, g1, r1⟩
  have kA := kA.grown g1 hA
  have HG := gtrans HG g1
  go_wp2_with fail
  refine (H2.out w1 r1 (by omega)).mono ?_
  rintro e w2 ⟨rfl, g2, r2⟩
  have kA := kA.grown g2 hA
  have HG := gtrans HG g2
  go_wp2_with fail
  refine (H3.out w2 r2 (by omega)).mono ?_
  rintro e w3 ⟨rfl, g3, r3⟩
  have kA := kA.grown g3 hA
  have HG := gtrans HG g3
  go_wp2_with fail
  have zB : w.heap.size < w3.heap.size := kA.lt
  have kB := Blk.new w3 (.cells #[.int .u8 c, .int .u32 n, .int .u8 k, .string ⟨#[]⟩, .string ⟨#[]⟩, .string ⟨#[]⟩, .int .u8 0] 25)
  have kA := kA.alloc (.cells #[.int .u8 c, .int .u32 n, .int .u8 k, .string ⟨#[]⟩, .string ⟨#[]⟩, .string ⟨#[]⟩, .int .u8 0] 25)
  have r3 : Rdr _ b s3 := Blk.alloc r3 (.cells #[.int .u8 c, .int .u32 n, .int .u8 k, .string ⟨#[]⟩, .string ⟨#[]⟩, .string ⟨#[]⟩, .int .u8 0] 25)
  have HG := gtrans HG (gbelow (r := some b) (below1 w3 (.cells #[.int .u8 c, .int .u32 n, .int .u8 k, .string ⟨#[]⟩, .string ⟨#[]⟩, .string ⟨#[]⟩, .int .u8 0] 25)))
  have hB : some w3.heap.size ≠ some b := by intro e; cases e; omega
  obtain ⟨gb, hgb⟩ : ∃ gb, w3.heap.size = gb := ⟨_, rfl⟩
  obtain ⟨wB, hwB⟩ : ∃ wB, w3.alloc (.cells #[.int .u8 c, .int .u32 n, .int .u8 k, .string ⟨#[]⟩, .string ⟨#[]⟩, .string ⟨#[]⟩, .int .u8 0] 25) = wB := ⟨_, rfl⟩
  rw [hwB] at kA kB r3 HG ⊢
  rw [hgb] at kB hB zB ⊢
  clear hwB hgb r0 r1 r2 g1 g2 g3
  go_wp2_with fail
  refine (H4.out wB r3 (by omega)).mono ?_
  rintro e w4 ⟨rfl, g4, r4⟩
  have kA := kA.grown g4 hA
  have HG := gtrans HG g4
  have kB := kB.grown g4 hB
  go_wp2_with fail
  refine (H5.out w4 r4 (by omega)).mono ?_
  rintro e w5 ⟨rfl, g5, r5⟩
  have kA := kA.grown g5 hA
  have HG := gtrans HG g5
  have kB := kB.grown g5 hB
  go_wp2_with fail
  refine (H6.out w5 r5 (by omega)).mono ?_
  rintro e w6 ⟨rfl, g6, r6⟩
  have kA := kA.grown g6 hA
  have HG := gtrans HG g6
  have kB := kB.grown g6 hB
  have fB3 := kB.frozen 3
  have fB4 := kB.frozen 4
  have fB5 := kB.frozen 5
  have cB3 := kB.cell 3
  have cB4 := kB.cell 4
  have cB5 := kB.cell 5
  go_wp2_with fail
  have hBb : gb ≠ b := fun e => hB (by rw [e])
  have kB := ((kB.set 3 (.string (bs K))).set 4 (.string (bs O))).set 5 (.string (bs N))
  have kA := ((kA.other (a := ⟨gb, 3, none⟩) (by dsimp only; omega) (.string (bs K))).other (a := ⟨gb, 4, none⟩) (by dsimp only; omega) (.string (bs O))).other (a := ⟨gb, 5, none⟩) (by dsimp only; omega) (.string (bs N))
  have r6 : Rdr _ b s6 := ((Blk.other r6 (a := ⟨gb, 3, none⟩) (fun e => hBb e.symm) (.string (bs K))).other (a := ⟨gb, 4, none⟩) (fun e => hBb e.symm) (.string (bs O))).other (a := ⟨gb, 5, none⟩) (fun e => hBb e.symm) (.string (bs N))
  have HG := gnew (gnew (gnew HG (n := gb) (j := 3) (by omega) (.string (bs K))) (n := gb) (j := 4) (by omega) (.string (bs O))) (n := gb) (j := 5) (by omega) (.string (bs N))
  clear fB3 fB4 fB5 cB3 cB4 cB5
  obtain ⟨wC, hwC⟩ : ∃ wC, ((w6.setCell ⟨gb, 3, none⟩ (.string (bs K))).setCell ⟨gb, 4, none⟩ (.string (bs O))).setCell ⟨gb, 5, none⟩ (.string (bs N)) = wC := ⟨_, rfl⟩
  rw [hwC] at kA kB r6 HG ⊢
  clear hwC
  go_wp2_with fail
  refine (H7.out wC r6 (by omega)).mono ?_
  rintro e w7 ⟨rfl, g7, r7⟩
  have kA := kA.grown g7 hA
  have HG := gtrans HG g7
  have kB := kB.grown g7 hB
  have fB6 := kB.frozen 6
  have kBs := kB.set 6 (.int .u8 t)
  have kA := kA.other (a := ⟨gb, 6, none⟩) (by dsimp only; omega) (.int .u8 t)
  have r7s : Rdr _ b s7 := Blk.other r7 (a := ⟨gb, 6, none⟩) (fun e => hBb e.symm) (.int .u8 t)
  have HG := gnew HG (n := gb) (j := 6) (by omega) (.int .u8 t)
  have cB0 := kB.cell 0
  have cB1 := kB.cell 1
  have cB2 := kB.cell 2
  have cB3 := kB.cell 3
  have cB4 := kB.cell 4
  have cB5 := kB.cell 5
  have cB6 := kB.cell 6
  go_wp2_with fail
  obtain ⟨wD, hwD⟩ : ∃ wD, w7.setCell ⟨gb, 6, none⟩ (.int .u8 t) = wD := ⟨_, rfl⟩
  rw [hwD] at kA kBs r7s HG ⊢
  clear hwD fB6 cB0 cB1 cB2 cB3 cB4 cB5 cB6 r4 r5 r6 g4 g5 g6 g7 kB r7
  refine (HCK.out wD).mono ?_
  rintro e wE ⟨rfl, bE⟩
  have kA := kA.later bE
  have kB := kBs.later bE
  have r7 : Rdr wE b s7 := Blk.later r7s bE
  have HG := gtrans HG (gbelow (r := some b) bE)
  clear bE kBs r7s
  have hX := HXE.out
  have hraw := HRAW.out
  rw [hX] at hraw ⊢
  have hXc : X = ⟨c, n, k, bs K, bs O, bs N, t⟩ := hX.symm
  by_cases hm : X.may
  · have hck := HCV.out X hm
    have hlf : leftC s = s7 := by unfold leftC; rw [hraw]; exact if_pos hm
    rw [hck]
    obtain ⟨s8, hs8⟩ : ∃ s8, s7 = s8 := ⟨_, rfl⟩
    rw [hs8] at hlf r7
    have r8 := r7
    subst hXc
    clear hck hm hs8 r7
    go_wp2_with fail
    refine (err_of b s8 _ r8).mono ?_
    rintro e w9 ⟨rfl, rfl⟩
    have fA0 := kA.frozen 0
    have cA0 := kA.cell 0
    have fA1 := kA.frozen 1
    have cA1 := kA.cell 1
    have fA2 := kA.frozen 2
    have cA2 := kA.cell 2
    have fA3 := kA.frozen 3
    have cA3 := kA.cell 3
    have fA4 := kA.frozen 4
    have cA4 := kA.cell 4
    have fA5 := kA.frozen 5
    have cA5 := kA.cell 5
    have fA6 := kA.frozen 6
    have cA6 := kA.cell 6
    have cB0 := kB.cell 0
    have cB1 := kB.cell 1
    have cB2 := kB.cell 2
    have cB3 := kB.cell 3
    have cB4 := kB.cell 4
    have cB5 := kB.cell 5
    have cB6 := kB.cell 6
    have zA := kA.lt
    by_cases he : s8.e = 0
    · have HV := Lib.hid (show takeC s = ((⟨c, n, k, bs K, bs O, bs N, t⟩ : Cm), s8) by unfold takeC; rw [hlf, hraw]; simp only [he, if_true])
      have q1 : ((s8.e : Int) != 0) = false := by simp [he]
      clear he
      go_wp2_with fail
      change bodyPost _ _ _ _ _ (st7 wE w.heap.size (⟨c, n, k, bs K, bs O, bs N, t⟩ : Cm))
      have kf := st7_blk (⟨c, n, k, bs K, bs O, bs N, t⟩ : Cm) kA
      have gf := st7_grown (⟨c, n, k, bs K, bs O, bs N, t⟩ : Cm) HG (Nat.le_refl _)
      have rf : Rdr (st7 wE w.heap.size (⟨c, n, k, bs K, bs O, bs N, t⟩ : Cm)) b s8 := st7_other (⟨c, n, k, bs K, bs O, bs N, t⟩ : Cm) r8 hA2
      obtain ⟨wf, hwf⟩ : ∃ wf, st7 wE w.heap.size (⟨c, n, k, bs K, bs O, bs N, t⟩ : Cm) = wf := ⟨_, rfl⟩
      rw [hwf] at kf gf rf ⊢
      clear hwf
      have y0 := kf.cell 0
      have y1 := kf.cell 1
      have y2 := kf.cell 2
      have y3 := kf.cell 3
      have y4 := kf.cell 4
      have y5 := kf.cell 5
      have y6 := kf.cell 6
      refine bodyPost_ret (v := Cm.val (⟨c, n, k, bs K, bs O, bs N, t⟩ : Cm)) (by simp [results, Try.results18, go_sem, zero, y0, y1, y2, y3, y4, y5, y6]) rfl ⟨by rw [HV.out], gf, by rw [HV.out]; exact rf⟩
    · have HV := Lib.hid (show takeC s = (zero, s8) by unfold takeC; rw [hlf]; simp only [he, if_false])
      have q1 : ((s8.e : Int) != 0) = true := by simp [he]
      clear he
      go_wp2_with fail
      change bodyPost _ _ _ _ _ (st7 wE w.heap.size zero)
      have kf := st7_blk zero kA
      have gf := st7_grown zero HG (Nat.le_refl _)
      have rf : Rdr (st7 wE w.heap.size zero) b s8 := st7_other zero r8 hA2
      obtain ⟨wf, hwf⟩ : ∃ wf, st7 wE w.heap.size zero = wf := ⟨_, rfl⟩
      rw [hwf] at kf gf rf ⊢
      clear hwf
      have y0 := kf.cell 0
      have y1 := kf.cell 1
      have y2 := kf.cell 2
      have y3 := kf.cell 3
      have y4 := kf.cell 4
      have y5 := kf.cell 5
      have y6 := kf.cell 6
      refine bodyPost_ret (v := Cm.val zero) (by simp [results, Try.results18, go_sem, zero, y0, y1, y2, y3, y4, y5, y6]) rfl ⟨by rw [HV.out], gf, by rw [HV.out]; exact rf⟩
  · have hck := HCW.out X hm
    have hlf : leftC s = badR s7 := by unfold leftC; rw [hraw]; exact if_neg hm
    rw [hck]
    go_wp2_with fail
    refine (bad_of b s7 wE r7).mono ?_
    rintro e wF ⟨rfl, gF, r8⟩
    have kA := kA.grown gF hA
    have kB := kB.grown gF hB
    have HG := gtrans HG gF
    obtain ⟨s8, hs8⟩ : ∃ s8, badR s7 = s8 := ⟨_, rfl⟩
    rw [hs8] at hlf r8
    subst hXc
    clear hck hm hs8 r7 gF
    go_wp2_with fail
    refine (err_of b s8 _ r8).mono ?_
    rintro e w9 ⟨rfl, rfl⟩
    have fA0 := kA.frozen 0
    have cA0 := kA.cell 0
    have fA1 := kA.frozen 1
    have cA1 := kA.cell 1
    have fA2 := kA.frozen 2
    have cA2 := kA.cell 2
    have fA3 := kA.frozen 3
    have cA3 := kA.cell 3
    have fA4 := kA.frozen 4
    have cA4 := kA.cell 4
    have fA5 := kA.frozen 5
    have cA5 := kA.cell 5
    have fA6 := kA.frozen 6
    have cA6 := kA.cell 6
    have cB0 := kB.cell 0
    have cB1 := kB.cell 1
    have cB2 := kB.cell 2
    have cB3 := kB.cell 3
    have cB4 := kB.cell 4
    have cB5 := kB.cell 5
    have cB6 := kB.cell 6
    have zA := kA.lt
    by_cases he : s8.e = 0
    · have HV := Lib.hid (show takeC s = ((⟨c, n, k, bs K, bs O, bs N, t⟩ : Cm), s8) by unfold takeC; rw [hlf, hraw]; simp only [he, if_true])
      have q1 : ((s8.e : Int) != 0) = false := by simp [he]
      clear he
      go_wp2_with fail
      change bodyPost _ _ _ _ _ (st7 wF w.heap.size (⟨c, n, k, bs K, bs O, bs N, t⟩ : Cm))
      have kf := st7_blk (⟨c, n, k, bs K, bs O, bs N, t⟩ : Cm) kA
      have gf := st7_grown (⟨c, n, k, bs K, bs O, bs N, t⟩ : Cm) HG (Nat.le_refl _)
      have rf : Rdr (st7 wF w.heap.size (⟨c, n, k, bs K, bs O, bs N, t⟩ : Cm)) b s8 := st7_other (⟨c, n, k, bs K, bs O, bs N, t⟩ : Cm) r8 hA2
      obtain ⟨wf, hwf⟩ : ∃ wf, st7 wF w.heap.size (⟨c, n, k, bs K, bs O, bs N, t⟩ : Cm) = wf := ⟨_, rfl⟩
      rw [hwf] at kf gf rf ⊢
      clear hwf
      have y0 := kf.cell 0
      have y1 := kf.cell 1
      have y2 := kf.cell 2
      have y3 := kf.cell 3
      have y4 := kf.cell 4
      have y5 := kf.cell 5
      have y6 := kf.cell 6
      refine bodyPost_ret (v := Cm.val (⟨c, n, k, bs K, bs O, bs N, t⟩ : Cm)) (by simp [results, Try.results18, go_sem, zero, y0, y1, y2, y3, y4, y5, y6]) rfl ⟨by rw [HV.out], gf, by rw [HV.out]; exact rf⟩
    · have HV := Lib.hid (show takeC s = (zero, s8) by unfold takeC; rw [hlf]; simp only [he, if_false])
      have q1 : ((s8.e : Int) != 0) = true := by simp [he]
      clear he
      go_wp2_with fail
      change bodyPost _ _ _ _ _ (st7 wF w.heap.size zero)
      have kf := st7_blk zero kA
      have gf := st7_grown zero HG (Nat.le_refl _)
      have rf : Rdr (st7 wF w.heap.size zero) b s8 := st7_other zero r8 hA2
      obtain ⟨wf, hwf⟩ : ∃ wf, st7 wF w.heap.size zero = wf := ⟨_, rfl⟩
      rw [hwf] at kf gf rf ⊢
      clear hwf
      have y0 := kf.cell 0
      have y1 := kf.cell 1
      have y2 := kf.cell 2
      have y3 := kf.cell 3
      have y4 := kf.cell 4
      have y5 := kf.cell 5
      have y6 := kf.cell 6
      refine bodyPost_ret (v := Cm.val zero) (by simp [results, Try.results18, go_sem, zero, y0, y1, y2, y3, y4, y5, y6]) rfl ⟨by rw [HV.out], gf, by rw [HV.out]; exact rf⟩
end Cm
end Go.Proofs.Ytdjddbidhaeekaa
