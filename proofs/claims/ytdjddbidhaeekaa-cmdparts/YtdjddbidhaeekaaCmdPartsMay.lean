/-
  CmdParts, walked: a command that may be.
-/
import Derived.Test.YtdjddbidhaeekaaCmdPartsPure
namespace Go.Proofs.Ytdjddbidhaeekaa
open Go.RowKit Go.WideShapes
namespace Cm
open Wire
set_option maxRecDepth 100000 in
set_option maxHeartbeats 1000000 in
theorem parts_may (c : Cm) (hok : c.ok) (hm : c.may) (w : World) :
    Calls Try.prog 6 #[c.val] w fun e w' => e = .returned (.bool true) ∧ Below w.heap.size w w' := by
  have HC := Lib.hid (show chk c = 0 from if_pos hm)
  have HP := Lib.hid (parts_bad c hok hm)
  have HS := Lib.hid (set_s c hm)
  have HO := Lib.hid (set_o c hm)
  have HN := Lib.hid (set_n c hm)
  obtain ⟨k5, hk5⟩ : ∃ k5, decide (c.kd = 5) = k5 := ⟨_, rfl⟩
  obtain ⟨k4, hk4⟩ : ∃ k4, decide (c.kd = 4) = k4 := ⟨_, rfl⟩
  obtain ⟨k2, hk2⟩ : ∃ k2, decide (c.kd = 2) = k2 := ⟨_, rfl⟩
  rw [hk5] at HS
  rw [hk4] at HO
  rw [hk4, hk2] at HN
  have q5 : ((c.kd : Int) == 5) = k5 := by rw [← hk5]; by_cases h : c.kd = 5 <;> simp [h]; omega
  have q4 : ((c.kd : Int) == 4) = k4 := by rw [← hk4]; by_cases h : c.kd = 4 <;> simp [h]; omega
  have q2 : ((c.kd : Int) == 2) = k2 := by rw [← hk2]; by_cases h : c.kd = 2 <;> simp [h]; omega
  have H7 := Lib.hid (show key7 c = if k5 = true then ⟨#[107]⟩ else ⟨#[]⟩ by unfold key7; rw [← hk5]; by_cases h : c.kd = 5 <;> simp [h])
  clear hk5 hk4 hk2
  have hcut := cut17
  have hz65 := z65_size
  have hz17 := z17_size
  have k0 := Blk.new w (.cells #[.int .u8 c.cl, .int .u32 c.sq, .int .u8 c.kd, .string c.key, .string c.old, .string c.new, .int .u8 c.set] 25)
  have b0 := below1 w (.cells #[.int .u8 c.cl, .int .u32 c.sq, .int .u8 c.kd, .string c.key, .string c.old, .string c.new, .int .u8 c.set] 25)
  obtain ⟨W, hW⟩ : ∃ W, w.alloc (.cells #[.int .u8 c.cl, .int .u32 c.sq, .int .u8 c.kd, .string c.key, .string c.old, .string c.new, .int .u8 c.set] 25) = W := ⟨_, rfl⟩
  rw [hW] at k0 b0
  go_enter Try.func6, Try.ntmps6
  go_upto_region 1 with (fail)
  clear hW
  have c0 := k0.cell 0
  have c1 := k0.cell 1
  have c2 := k0.cell 2
  have c3 := k0.cell 3
  have c4 := k0.cell 4
  have c5 := k0.cell 5
  have c6 := k0.cell 6
  go_wp2_with fail
  refine (check_any c hok _).mono ?_
  rintro e w1 ⟨rfl, b1⟩
  rw [HC.out]
  have k0 := k0.later b1
  have B1 := Below.later b0 b1 b0.size
  clear c0 c1 c2 c3 c4 c5 c6 b0 b1
  have hmk := mk65
  go_upto_region 4 with (fail)
  have kL := Blk.new w1 (.cells (Array.replicate 65 (.int .u8 0)) 5)
  have B2 := B1.alloc B1.size (.cells (Array.replicate 65 (.int .u8 0)) 5)
  have k0 := k0.alloc (.cells (Array.replicate 65 (.int .u8 0)) 5)
  have hL := text65 kL
  clear kL
  go_upto_region 5 with (fail)
  obtain ⟨W2, hW2⟩ : ∃ W2, w1.alloc (.cells (Array.replicate 65 (.int .u8 0)) 5) = W2 := ⟨_, rfl⟩
  rw [hW2] at k0 B2 ⊢
  clear hW2 hL hmk
  have c0 := k0.cell 0
  have c1 := k0.cell 1
  have c2 := k0.cell 2
  have c3 := k0.cell 3
  have c4 := k0.cell 4
  have c5 := k0.cell 5
  have c6 := k0.cell 6
  go_upto_region 6 with (fail)
  clear c0 c1 c2 c3 c4 c5 c6
  have hsz2 : W2.heap.size ≠ w.heap.size := by have := k0.lt; omega
  obtain ⟨cs, hcs⟩ : ∃ cs : Array Value, #[.int .u8 c.cl, .int .u32 c.sq, .int .u8 c.kd, .string c.key, .string c.old, .string c.new, .int .u8 c.set, .int .u8 c.cl, .int .u32 c.sq, .int .u8 c.kd, .string c.key, .string c.old, .string c.new, .int .u8 c.set, .int .u8 c.cl, .int .u32 c.sq, .int .u8 c.kd, .string c.key, .string c.old, .string c.new, .int .u8 c.set, .int .u8 c.cl, .int .u32 c.sq, .int .u8 c.kd, .string c.key, .string c.old, .string c.new, .int .u8 c.set, .int .u8 c.cl, .int .u32 c.sq, .int .u8 c.kd, .string c.key, .string c.old, .string c.new, .int .u8 c.set, .int .u8 c.cl, .int .u32 c.sq, .int .u8 c.kd, .string c.key, .string c.old, .string c.new, .int .u8 c.set, .int .u8 c.cl, .int .u32 c.sq, .int .u8 c.kd, .string c.key, .string c.old, .string c.new, .int .u8 c.set, .int .u8 c.cl, .int .u32 c.sq, .int .u8 c.kd, .string c.key, .string c.old, .string c.new, .int .u8 c.set] = cs := ⟨_, rfl⟩
  have kX := Blk.new W2 (.cells cs 25)
  have k0 := k0.alloc (.cells cs 25)
  have B3 := B2.alloc B2.size (.cells cs 25)
  have hlo : w.heap.size ≤ W2.heap.size := B2.size
  obtain ⟨W3, hW3⟩ : ∃ W3, W2.alloc (.cells cs 25) = W3 := ⟨_, rfl⟩
  rw [hW3] at k0 B3 kX
  rw [hcs, hW3]
  have HL : cs.toList = (List.replicate 8 c).flatMap cells := by rw [← hcs]; rfl
  have cx0 : W3.cell? ⟨W2.heap.size, 0, none⟩ = some (.int .u8 c.cl) := by rw [kX.cell, ← hcs]; rfl
  have cx8 : W3.cell? ⟨W2.heap.size, 8, none⟩ = some (.int .u32 c.sq) := by rw [kX.cell, ← hcs]; rfl
  have cx16 : W3.cell? ⟨W2.heap.size, 16, none⟩ = some (.int .u8 c.kd) := by rw [kX.cell, ← hcs]; rfl
  have cx23 : W3.cell? ⟨W2.heap.size, 23, none⟩ = some (.int .u8 c.kd) := by rw [kX.cell, ← hcs]; rfl
  have cx31 : W3.cell? ⟨W2.heap.size, 31, none⟩ = some (.string c.key) := by rw [kX.cell, ← hcs]; rfl
  have cx39 : W3.cell? ⟨W2.heap.size, 39, none⟩ = some (.string c.old) := by rw [kX.cell, ← hcs]; rfl
  have cx47 : W3.cell? ⟨W2.heap.size, 47, none⟩ = some (.string c.new) := by rw [kX.cell, ← hcs]; rfl
  have cx52 : W3.cell? ⟨W2.heap.size, 52, none⟩ = some (.string c.key) := by rw [kX.cell, ← hcs]; rfl
  have HCS := Lib.hid hcs
  clear hcs HL
  clear hW3
  obtain ⟨n2, hn2⟩ : ∃ n2, W2.heap.size = n2 := ⟨_, rfl⟩
  rw [hn2] at kX hsz2 hlo cx0 cx8 cx16 cx23 cx31 cx39 cx47 cx52 ⊢
  clear hn2 B2
  have fz0 := kX.frozen 0
  have fz8 := kX.frozen 8
  have fz16 := kX.frozen 16
  have fz23 := kX.frozen 23
  have fz31 := kX.frozen 31
  have fz39 := kX.frozen 39
  have fz47 := kX.frozen 47
  have fz52 := kX.frozen 52
  go_upto_region 10 with (fail)
  go_upto_region 11 with (fail)
  go_upto_region 14 with (fail)
  have kY := ((((((((kX.set 0 (.int .u8 4)).set 8 (.int .u32 0)).set 16 (.int .u8 0)).set 23 (.int .u8 6)).set 31 (.string z17)).set 39 (.string z65)).set 47 (.string z65)).set 52 (.string ⟨#[]⟩))
  have kQ := ((((((((k0.other (a := ⟨n2, 0, none⟩) (by dsimp only; omega) (.int .u8 4)).other (a := ⟨n2, 8, none⟩) (by dsimp only; omega) (.int .u32 0)).other (a := ⟨n2, 16, none⟩) (by dsimp only; omega) (.int .u8 0)).other (a := ⟨n2, 23, none⟩) (by dsimp only; omega) (.int .u8 6)).other (a := ⟨n2, 31, none⟩) (by dsimp only; omega) (.string z17)).other (a := ⟨n2, 39, none⟩) (by dsimp only; omega) (.string z65)).other (a := ⟨n2, 47, none⟩) (by dsimp only; omega) (.string z65)).other (a := ⟨n2, 52, none⟩) (by dsimp only; omega) (.string ⟨#[]⟩))
  have B4 := ((((((((B3.setCell (p := ⟨n2, 0, none⟩) (by dsimp only; omega) (.int .u8 4)).setCell (p := ⟨n2, 8, none⟩) (by dsimp only; omega) (.int .u32 0)).setCell (p := ⟨n2, 16, none⟩) (by dsimp only; omega) (.int .u8 0)).setCell (p := ⟨n2, 23, none⟩) (by dsimp only; omega) (.int .u8 6)).setCell (p := ⟨n2, 31, none⟩) (by dsimp only; omega) (.string z17)).setCell (p := ⟨n2, 39, none⟩) (by dsimp only; omega) (.string z65)).setCell (p := ⟨n2, 47, none⟩) (by dsimp only; omega) (.string z65)).setCell (p := ⟨n2, 52, none⟩) (by dsimp only; omega) (.string ⟨#[]⟩))
  obtain ⟨V, hV⟩ : ∃ V, ((((((((W3.setCell ⟨n2, 0, none⟩ (.int .u8 4)).setCell ⟨n2, 8, none⟩ (.int .u32 0)).setCell ⟨n2, 16, none⟩ (.int .u8 0)).setCell ⟨n2, 23, none⟩ (.int .u8 6)).setCell ⟨n2, 31, none⟩ (.string z17)).setCell ⟨n2, 39, none⟩ (.string z65)).setCell ⟨n2, 47, none⟩ (.string z65)).setCell ⟨n2, 52, none⟩ (.string ⟨#[]⟩)) = V := ⟨_, rfl⟩
  rw [hV] at kY kQ B4 ⊢
  rw [PA_made c cs HCS.out] at kY
  clear hV kX k0 B3 HCS cx0 cx8 cx16 cx23 cx31 cx39 cx47 cx52 fz0 fz8 fz16 fz23 fz31 fz39 fz47 fz52
  have c2 := kQ.cell 2
  go_upto_if 66 with (fail)
  go_cut [6] (fun s6 wx => s6 = .slice (some ⟨n2, 0, none⟩) 8 8 ∧ Blk wx n2 (.cells (PA c (key7 c)) 25) ∧ Blk wx w.heap.size (.cells #[.int .u8 c.cl, .int .u32 c.sq, .int .u8 c.kd, .string c.key, .string c.old, .string c.new, .int .u8 c.set] 25) ∧ Below w.heap.size w wx)
  case first =>
    have fy := kY.frozen 52
    have cy : V.cell? ⟨n2, 52, none⟩ = some (.string ⟨#[]⟩) := by rw [kY.cell]; exact PA_52 c _
    cases k5
    · go_wp2_with fail
      go_meet
      refine ⟨rfl, ?_, kQ, B4⟩
      rw [H7.out]
      exact kY
    · go_wp2_with fail
      go_meet
      refine ⟨rfl, ?_, kQ.other (by dsimp only; omega) _, B4.setCell (by dsimp only; omega) _⟩
      rw [H7.out]
      have := kY.set 52 (.string ⟨#[107]⟩)
      rw [PA_set] at this
      exact this
  case rest =>
    obtain ⟨rfl, kYb, kQb, B5⟩ := hcut
    clear kY kQ B4 c2
    have hrd : RdT cells wc (.slice (some ⟨n2, 0, none⟩) 8 8) (parts c) := rdT_blk kYb (by unfold PA parts; simp) (by rw [parts_len]; omega) 8 8 rfl
    have HR := Lib.hid hrd
    have HPL := Lib.hid (parts_len c)
    clear hrd kYb
    obtain ⟨l, hl⟩ : ∃ l, parts c = l := ⟨_, rfl⟩
    rw [hl] at HR HPL HP
    clear hl
    go_wp2_with fail
    go_loopw [7] (fun i wr => ∃ k : Nat, k ≤ 8 ∧ i = .int .i64 k ∧ Below wc.heap.size wc wr) (fun i _ => 8 - (intOf i).toNat)
    case atStart => exact ⟨0, Nat.zero_le _, rfl, Below.refl _ _⟩
    case round =>
      obtain ⟨k, hk, rfl, BB⟩ := hrel
      by_cases hlt : k < 8
      · have hd : decide ((k : Int) < 8) = true := decide_eq_true (by omega)
        have hd' : decide (k < 8) = true := decide_eq_true hlt
        obtain ⟨lb, off, cc, e0, g⟩ := rd_one (HR.out.later BB) k (by rw [HPL.out]; exact hlt)
        injection e0 with i1 i2 i3
        injection i1 with i1
        injection i1 with i4 i5 i6
        subst i4
        subst i5
        clear i2 i3
        have HX := Lib.hid (HP.out _ (List.getElem_mem (by rw [HPL.out]; exact hlt : k < l.length)))
        obtain ⟨x, hx⟩ : ∃ x, l[k]'(by rw [HPL.out]; exact hlt) = x := ⟨_, rfl⟩
        rw [hx] at g HX
        clear hx
        have g0 := g wr (Below.refl _ _) 0 (by decide)
        have g1 := g wr (Below.refl _ _) 1 (by decide)
        have g2 := g wr (Below.refl _ _) 2 (by decide)
        have g3 := g wr (Below.refl _ _) 3 (by decide)
        have g4 := g wr (Below.refl _ _) 4 (by decide)
        have g5 := g wr (Below.refl _ _) 5 (by decide)
        have g6 := g wr (Below.refl _ _) 6 (by decide)
        simp only [Cm.cells, Nat.add_zero, Nat.zero_add] at g0 g1 g2 g3 g4 g5 g6
        clear g
        go_wp2_with fail
        refine (check_any x HX.out.1 _).mono ?_
        rintro e w9 ⟨rfl, b9⟩
        rw [show chk x = 2 from if_neg HX.out.2]
        clear g0 g1 g2 g3 g4 g5 g6
        go_wp2_with fail
        go_roundw
        case rel => exact ⟨k + 1, by omega, by go_num, Below.later' BB b9⟩
        case measure => simp [intOf]; omega
      · have hd : decide ((k : Int) < 8) = false := decide_eq_false (by omega)
        have hd' : decide (k < 8) = false := decide_eq_false hlt
        have k0 := kQb.later BB
        have B6 := B5.trans (BB.mono B5.size)
        clear HR HPL HP kQb BB B5
        go_upto_region 21 with (fail)
        clear hz17 hz65 hcut H7 hd hd' hk hlt
        have kz := k0.lt
        have c0 := k0.cell 0
        have c1 := k0.cell 1
        have c2 := k0.cell 2
        have c3 := k0.cell 3
        have c4 := k0.cell 4
        have c5 := k0.cell 5
        have c6 := k0.cell 6
        go_upto_region 22 with (fail)
        have k0 := k0.alloc (.cells #[.int .u8 c.cl, .int .u32 c.sq, .int .u8 c.kd, .string c.key, .string c.old, .string c.new, .int .u8 c.set] 25)
        have kS := Blk.new wr (.cells #[.int .u8 c.cl, .int .u32 c.sq, .int .u8 c.kd, .string c.key, .string c.old, .string c.new, .int .u8 c.set] 25)
        have B7 := B6.alloc B6.size (.cells #[.int .u8 c.cl, .int .u32 c.sq, .int .u8 c.kd, .string c.key, .string c.old, .string c.new, .int .u8 c.set] 25)
        have hlo1 : w.heap.size ≤ wr.heap.size := B6.size
        obtain ⟨V1, hV1⟩ : ∃ V1, wr.alloc (.cells #[.int .u8 c.cl, .int .u32 c.sq, .int .u8 c.kd, .string c.key, .string c.old, .string c.new, .int .u8 c.set] 25) = V1 := ⟨_, rfl⟩
        rw [hV1] at k0 kS B7 ⊢
        clear hV1 c0 c1 c2 c3 c4 c5 c6
        have h1lt := kS.lt
        have hne1 : w.heap.size ≠ wr.heap.size := by omega
        obtain ⟨n3, hn3⟩ : ∃ n, wr.heap.size = n := ⟨_, rfl⟩
        rw [hn3] at kS hlo1 h1lt hne1 ⊢
        clear hn3 B6 kz
        have fz := kS.frozen 6
        have cz := kS.cell 6
        go_upto_region 23 with (fail)
        have k0 := k0.other (a := ⟨n3, 6, none⟩) (by dsimp only; omega) (.int .u8 1)
        have kS := kS.set 6 (.int .u8 1)
        have B8 := B7.setCell (p := ⟨n3, 6, none⟩) (by dsimp only; omega) (.int .u8 1)
        obtain ⟨V2, hV2⟩ : ∃ V2, V1.setCell ⟨n3, 6, none⟩ (.int .u8 1) = V2 := ⟨_, rfl⟩
        rw [hV2] at k0 kS B8 ⊢
        have kS : Blk V2 n3 (.cells #[.int .u8 c.cl, .int .u32 c.sq, .int .u8 c.kd, .string c.key, .string c.old, .string c.new, .int .u8 1] 25) := kS
        have hs2 : n3 < V2.heap.size := kS.lt
        clear hV2 fz cz B7 h1lt
        have c0 := k0.cell 0
        have c1 := k0.cell 1
        have c2 := k0.cell 2
        have c3 := k0.cell 3
        have c4 := k0.cell 4
        have c5 := k0.cell 5
        have c6 := k0.cell 6
        go_upto_region 24 with (fail)
        have k0 := k0.alloc (.cells #[.int .u8 c.cl, .int .u32 c.sq, .int .u8 c.kd, .string c.key, .string c.old, .string c.new, .int .u8 c.set] 25)
        have kS := kS.alloc (.cells #[.int .u8 c.cl, .int .u32 c.sq, .int .u8 c.kd, .string c.key, .string c.old, .string c.new, .int .u8 c.set] 25)
        have kO := Blk.new V2 (.cells #[.int .u8 c.cl, .int .u32 c.sq, .int .u8 c.kd, .string c.key, .string c.old, .string c.new, .int .u8 c.set] 25)
        have B9 := B8.alloc B8.size (.cells #[.int .u8 c.cl, .int .u32 c.sq, .int .u8 c.kd, .string c.key, .string c.old, .string c.new, .int .u8 c.set] 25)
        have hlo2 : w.heap.size ≤ V2.heap.size := B8.size
        have hne2 : w.heap.size < V2.heap.size := by omega
        obtain ⟨V3, hV3⟩ : ∃ V3, V2.alloc (.cells #[.int .u8 c.cl, .int .u32 c.sq, .int .u8 c.kd, .string c.key, .string c.old, .string c.new, .int .u8 c.set] 25) = V3 := ⟨_, rfl⟩
        rw [hV3] at k0 kS kO B9 ⊢
        clear hV3 c0 c1 c2 c3 c4 c5 c6 B8
        obtain ⟨n4, hn4⟩ : ∃ n, V2.heap.size = n := ⟨_, rfl⟩
        rw [hn4] at kO hs2 hlo2 hne2 ⊢
        clear hn4
        have fz := kO.frozen 4
        have cz := kO.cell 4
        go_upto_region 25 with (fail)
        have k0 := k0.other (a := ⟨n4, 4, none⟩) (by dsimp only; omega) (.string ⟨#[111]⟩)
        have kS := kS.other (a := ⟨n4, 4, none⟩) (by dsimp only; omega) (.string ⟨#[111]⟩)
        have kO := kO.set 4 (.string ⟨#[111]⟩)
        have B10 := B9.setCell (p := ⟨n4, 4, none⟩) (by dsimp only; omega) (.string ⟨#[111]⟩)
        obtain ⟨V4, hV4⟩ : ∃ V4, V3.setCell ⟨n4, 4, none⟩ (.string ⟨#[111]⟩) = V4 := ⟨_, rfl⟩
        rw [hV4] at k0 kS kO B10 ⊢
        have kO : Blk V4 n4 (.cells #[.int .u8 c.cl, .int .u32 c.sq, .int .u8 c.kd, .string c.key, .string ⟨#[111]⟩, .string c.new, .int .u8 c.set] 25) := kO
        have hs4 : n4 < V4.heap.size := kO.lt
        clear hV4 fz cz B9
        have c0 := k0.cell 0
        have c1 := k0.cell 1
        have c2 := k0.cell 2
        have c3 := k0.cell 3
        have c4 := k0.cell 4
        have c5 := k0.cell 5
        have c6 := k0.cell 6
        go_upto_region 26 with (fail)
        have k0 := k0.alloc (.cells #[.int .u8 c.cl, .int .u32 c.sq, .int .u8 c.kd, .string c.key, .string c.old, .string c.new, .int .u8 c.set] 25)
        have kS := kS.alloc (.cells #[.int .u8 c.cl, .int .u32 c.sq, .int .u8 c.kd, .string c.key, .string c.old, .string c.new, .int .u8 c.set] 25)
        have kO := kO.alloc (.cells #[.int .u8 c.cl, .int .u32 c.sq, .int .u8 c.kd, .string c.key, .string c.old, .string c.new, .int .u8 c.set] 25)
        have kN := Blk.new V4 (.cells #[.int .u8 c.cl, .int .u32 c.sq, .int .u8 c.kd, .string c.key, .string c.old, .string c.new, .int .u8 c.set] 25)
        have B11 := B10.alloc B10.size (.cells #[.int .u8 c.cl, .int .u32 c.sq, .int .u8 c.kd, .string c.key, .string c.old, .string c.new, .int .u8 c.set] 25)
        have hlo4 : w.heap.size ≤ V4.heap.size := B10.size
        obtain ⟨V5, hV5⟩ : ∃ V5, V4.alloc (.cells #[.int .u8 c.cl, .int .u32 c.sq, .int .u8 c.kd, .string c.key, .string c.old, .string c.new, .int .u8 c.set] 25) = V5 := ⟨_, rfl⟩
        rw [hV5] at k0 kS kO kN B11 ⊢
        clear hV5 c0 c1 c2 c3 c4 c5 c6 B10
        obtain ⟨n5, hn5⟩ : ∃ n, V4.heap.size = n := ⟨_, rfl⟩
        rw [hn5] at kN hs4 hlo4 ⊢
        clear hn5
        have fz := kN.frozen 5
        have cz := kN.cell 5
        go_upto_region 27 with (fail)
        have k0 := k0.other (a := ⟨n5, 5, none⟩) (by dsimp only; omega) (.string ⟨#[110]⟩)
        have kS := kS.other (a := ⟨n5, 5, none⟩) (by dsimp only; omega) (.string ⟨#[110]⟩)
        have kO := kO.other (a := ⟨n5, 5, none⟩) (by dsimp only; omega) (.string ⟨#[110]⟩)
        have kN := kN.set 5 (.string ⟨#[110]⟩)
        have B12 := B11.setCell (p := ⟨n5, 5, none⟩) (by dsimp only; omega) (.string ⟨#[110]⟩)
        obtain ⟨V6, hV6⟩ : ∃ V6, V5.setCell ⟨n5, 5, none⟩ (.string ⟨#[110]⟩) = V6 := ⟨_, rfl⟩
        rw [hV6] at k0 kS kO kN B12 ⊢
        have kN : Blk V6 n5 (.cells #[.int .u8 c.cl, .int .u32 c.sq, .int .u8 c.kd, .string c.key, .string c.old, .string ⟨#[110]⟩, .int .u8 c.set] 25) := kN
        clear hV6 fz cz B11 hs2 hlo2 hne2 hs4 hlo4 hne1 hlo1
        obtain ⟨okS, okO, okN⟩ := set_ok c hok
        have F0 := k0.held
        have FS := kS.held
        have FO := kO.held
        have FN := kN.held
        clear k0 kS kO kN
        have B0 : Below V6.heap.size V6 V6.drew := Below.drew (Below.refl _ _)
        cases k4
        all_goals
          refine wp_region_ord (fun w' => Below V6.heap.size V6 w') (0 :: 3 :: 4 :: 5 :: 1 :: 2 :: 6 :: 7 :: 8 :: 11 :: 12 :: 13 :: 9 :: 10 :: 14 :: 15 :: 16 :: 17 :: 20 :: 21 :: 22 :: 18 :: 19 :: 23 :: 24 :: 25 :: 26 :: 27 :: 28 :: 29 :: 30 :: 31 :: 32 :: 33 :: []) [1, 9, 18, 31] (by kernel_rfl) (by kernel_rfl) (by intro c d v a w h; cases d <;> exact h) B0 ?_
          repeat (first
            | (refine wpOrd_take (v := ?_) rfl rfl ?_ ?_ ?_; rotate_left; rfl; (· intro w' hSw; (try dsimp only at hSw); go_simp <;> with_reducible rfl); simp only [Act.put, List.setIfInBounds_toArray, List.set_cons_zero, List.set_cons_succ])
            | (refine wpOrd_skip rfl rfl ?_ ?_; rfl; simp only [Act.put, List.setIfInBounds_toArray, List.set_cons_zero, List.set_cons_succ]))
          refine wpOrd_eff rfl rfl (fun K hK => ?_)
          go_wp2_with fail
          refine (check_any (setS c) okS _).mono ?_
          rintro e x1 ⟨rfl, b1⟩
          have B1 := B0.trans (b1.mono B0.size)
          have HSo := HS.out
          go_wp2_with fail
          refine hK.out _ _ B1 ?_
          clear hK K
          repeat (first
            | (refine wpOrd_take (v := ?_) rfl rfl ?_ ?_ ?_; rotate_left; rfl; (· intro w' hSw; (try dsimp only at hSw); go_simp <;> with_reducible rfl); simp only [Act.put, List.setIfInBounds_toArray, List.set_cons_zero, List.set_cons_succ])
            | (refine wpOrd_skip rfl rfl ?_ ?_; rfl; simp only [Act.put, List.setIfInBounds_toArray, List.set_cons_zero, List.set_cons_succ]))
          refine wpOrd_eff rfl rfl (fun K hK => ?_)
          go_wp2_with fail
          refine (check_any (setO c) okO _).mono ?_
          rintro e x2 ⟨rfl, b2⟩
          have B2 := B1.trans (b2.mono B1.size)
          have HOo := HO.out
          go_wp2_with fail
          refine hK.out _ _ B2 ?_
          clear hK K
          repeat (first
            | (refine wpOrd_take (v := ?_) rfl rfl ?_ ?_ ?_; rotate_left; rfl; (· intro w' hSw; (try dsimp only at hSw); go_simp <;> with_reducible rfl); simp only [Act.put, List.setIfInBounds_toArray, List.set_cons_zero, List.set_cons_succ])
            | (refine wpOrd_skip rfl rfl ?_ ?_; rfl; simp only [Act.put, List.setIfInBounds_toArray, List.set_cons_zero, List.set_cons_succ]))
          refine wpOrd_eff rfl rfl (fun K hK => ?_)
          go_wp2_with fail
          refine (check_any (setN c) okN _).mono ?_
          rintro e x3 ⟨rfl, b3⟩
          have B3 := B2.trans (b3.mono B2.size)
          have HNo := HN.out
          go_wp2_with fail
          refine hK.out _ _ B3 ?_
          clear hK K
          repeat (first
            | (refine wpOrd_take (v := ?_) rfl rfl ?_ ?_ ?_; rotate_left; rfl; (· intro w' hSw; (try dsimp only at hSw); go_simp <;> with_reducible rfl); simp only [Act.put, List.setIfInBounds_toArray, List.set_cons_zero, List.set_cons_succ])
            | (refine wpOrd_skip rfl rfl ?_ ?_; rfl; simp only [Act.put, List.setIfInBounds_toArray, List.set_cons_zero, List.set_cons_succ]))
          refine wpOrd_eff rfl rfl (fun K hK => ?_)
          go_wp2_with fail
          refine (wakes_any _).mono ?_
          rintro e x4 ⟨rfl, b4⟩
          have B4 := B3.trans (b4.mono B3.size)
          go_wp2_with fail
          refine hK.out _ _ B4 ?_
          clear hK K
          repeat (first
            | (refine wpOrd_take (v := ?_) rfl rfl ?_ ?_ ?_; rotate_left; rfl; (· intro w' hSw; (try dsimp only at hSw); go_simp <;> with_reducible rfl); simp only [Act.put, List.setIfInBounds_toArray, List.set_cons_zero, List.set_cons_succ])
            | (refine wpOrd_skip rfl rfl ?_ ?_; rfl; simp only [Act.put, List.setIfInBounds_toArray, List.set_cons_zero, List.set_cons_succ]))
          refine wpOrd_nil ?_
          go_wp2_with fail
          go_ret
          exact ⟨rfl, Below.later' B12 B4⟩
end Cm
end Go.Proofs.Ytdjddbidhaeekaa
