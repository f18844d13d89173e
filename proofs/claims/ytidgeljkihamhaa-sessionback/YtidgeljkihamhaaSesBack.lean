/-
  The walk of SessionBack.
-/
import Derived.Test.YtidgeljkihamhaaSesBackPure
import Derived.Test.YtidgeljkihamhaaSesReads
import Derived.ChangeKeysEq
namespace Go.Proofs.Ytidgeljkihamhaa
open Go.RowKit Go.WideShapes
namespace Ses
open Wire
theorem L_ext {x y : L} (h1 : x.q = y.q) (h2 : x.c = y.c) (h3 : x.t = y.t) : x = y := by cases x; cases y; cases h1; cases h2; cases h3; rfl
theorem list_inj {a b : ByteArray} (h : a.toList = b.toList) : a = b := by
  rw [ByteArray.toList_eq, ByteArray.toList_eq] at h
  rw [← bs_list a, ← bs_list b, h]
theorem infoLast : ∃ i, Try.prog.info? 29 = some i := Option.isSome_iff_exists.1 (by kernel_rfl)
theorem cellsLast : Try.prog.cellsOf 29 = 3 := by kernel_rfl
theorem tab_equal (T U : Nat → L) (f : Bool) (hf : f = true ↔ ∀ i < 4, T i = U i) (w : World) : (Op.equalIn 10000 31 (.agg #[.int .u32 (T 0).q, .int .u8 (T 0).c, .string (T 0).t, .int .u32 (T 1).q, .int .u8 (T 1).c, .string (T 1).t, .int .u32 (T 2).q, .int .u8 (T 2).c, .string (T 2).t, .int .u32 (T 3).q, .int .u8 (T 3).c, .string (T 3).t]) (.agg #[.int .u32 (U 0).q, .int .u8 (U 0).c, .string (U 0).t, .int .u32 (U 1).q, .int .u8 (U 1).c, .string (U 1).t, .int .u32 (U 2).q, .int .u8 (U 2).c, .string (U 2).t, .int .u32 (U 3).q, .int .u8 (U 3).c, .string (U 3).t])).run Try.prog w = .ok f w := by
  have H := Lib.hid hf
  clear hf
  obtain ⟨i, hi⟩ := infoLast
  rw [run_equalIn_array w 9999 _ _ Try.underlying31 hi, cellsLast, show List.range 4 = [0, 1, 2, 3] from rfl]
  simp only [Op.eqItems]
  go_simp
  cases f
  · by_cases a0 : ((T 0).q : Int) = ((U 0).q : Int)
    rotate_left
    · rw [if_neg a0]
    rw [if_pos a0]
    by_cases a1 : ((T 0).c : Int) = ((U 0).c : Int)
    rotate_left
    · rw [if_neg a1]
    rw [if_pos a1]
    by_cases a2 : (T 0).t.toList = (U 0).t.toList
    rotate_left
    · rw [if_neg a2]
    rw [if_pos a2]
    by_cases b0 : ((T 1).q : Int) = ((U 1).q : Int)
    rotate_left
    · rw [if_neg b0]
    rw [if_pos b0]
    by_cases b1 : ((T 1).c : Int) = ((U 1).c : Int)
    rotate_left
    · rw [if_neg b1]
    rw [if_pos b1]
    by_cases b2 : (T 1).t.toList = (U 1).t.toList
    rotate_left
    · rw [if_neg b2]
    rw [if_pos b2]
    by_cases c0 : ((T 2).q : Int) = ((U 2).q : Int)
    rotate_left
    · rw [if_neg c0]
    rw [if_pos c0]
    by_cases c1 : ((T 2).c : Int) = ((U 2).c : Int)
    rotate_left
    · rw [if_neg c1]
    rw [if_pos c1]
    by_cases c2 : (T 2).t.toList = (U 2).t.toList
    rotate_left
    · rw [if_neg c2]
    rw [if_pos c2]
    by_cases d0 : ((T 3).q : Int) = ((U 3).q : Int)
    rotate_left
    · rw [if_neg d0]
    rw [if_pos d0]
    by_cases d1 : ((T 3).c : Int) = ((U 3).c : Int)
    rotate_left
    · rw [if_neg d1]
    rw [if_pos d1]
    by_cases d2 : (T 3).t.toList = (U 3).t.toList
    rotate_left
    · rw [if_neg d2]
    rw [if_pos d2]
    exfalso
    have h := H.out.2 (fun i hi => by
      have : i = 0 ∨ i = 1 ∨ i = 2 ∨ i = 3 := by omega
      rcases this with rfl | rfl | rfl | rfl
      · exact L_ext (by omega) (by omega) (list_inj a2)
      · exact L_ext (by omega) (by omega) (list_inj b2)
      · exact L_ext (by omega) (by omega) (list_inj c2)
      · exact L_ext (by omega) (by omega) (list_inj d2))
    cases h
  · have h := H.out.1 rfl
    rw [h 0 (by decide), h 1 (by decide), h 2 (by decide), h 3 (by decide)]
    simp
theorem tab_same' (T : Nat → L) (w : World) : (binOp .neq 31 (.agg #[.int .u32 (T 0).q, .int .u8 (T 0).c, .string (T 0).t, .int .u32 (T 1).q, .int .u8 (T 1).c, .string (T 1).t, .int .u32 (T 2).q, .int .u8 (T 2).c, .string (T 2).t, .int .u32 (T 3).q, .int .u8 (T 3).c, .string (T 3).t]) (.agg #[.int .u32 (T 0).q, .int .u8 (T 0).c, .string (T 0).t, .int .u32 (T 1).q, .int .u8 (T 1).c, .string (T 1).t, .int .u32 (T 2).q, .int .u8 (T 2).c, .string (T 2).t, .int .u32 (T 3).q, .int .u8 (T 3).c, .string (T 3).t])).run Try.prog w = .ok (.bool false) w := by
  rw [run_neq_struct, tab_equal T T true (by simp)]; rfl
theorem tab_eql (T U : Nat → L) (f : Bool) (hf : f = true ↔ ∀ i < 4, T i = U i) (w : World) : (binOp .eql 31 (.agg #[.int .u32 (T 0).q, .int .u8 (T 0).c, .string (T 0).t, .int .u32 (T 1).q, .int .u8 (T 1).c, .string (T 1).t, .int .u32 (T 2).q, .int .u8 (T 2).c, .string (T 2).t, .int .u32 (T 3).q, .int .u8 (T 3).c, .string (T 3).t]) (.agg #[.int .u32 (U 0).q, .int .u8 (U 0).c, .string (U 0).t, .int .u32 (U 1).q, .int .u8 (U 1).c, .string (U 1).t, .int .u32 (U 2).q, .int .u8 (U 2).c, .string (U 2).t, .int .u32 (U 3).q, .int .u8 (U 3).c, .string (U 3).t])).run Try.prog w = .ok (.bool f) w := by
  rw [run_eql_struct, tab_equal T U f hf]; rfl
theorem bool_of (p : Prop) : ∃ g : Bool, (g = true ↔ p) := by
  by_cases h : p
  · exact ⟨true, by simp [h]⟩
  · exact ⟨false, by simp [h]⟩
/-- Is a client's entry one that is looked at? -/
def okL (x : L) : Prop := x.t.size ≤ 64 ∧ x.c ≤ 3 ∧ (x.q = 0 → x.c = 0 ∧ x.t = ⟨#[]⟩)
theorem rep_neq (c : Nat) (t : ByteArray) (f : Bool) (hf : f = false ↔ (c = 0 ∧ t = ⟨#[]⟩)) (w : World) : (binOp .neq 25 (.agg #[.int .u8 c, .string t]) (.agg #[.int .u8 0, .string ⟨#[]⟩])).run Try.prog w = .ok (.bool f) w := by
  have H := Lib.hid hf
  clear hf
  go_simp
  cases f
  · have h := H.out.1 rfl
    simp [h.1, h.2]
  · have h : ¬ (c = 0 ∧ t = ⟨#[]⟩) := fun h => by have := H.out.2 h; cases this
    by_cases h1 : c = 0
    · have h2 : ¬ t.toList = [] := fun e => h ⟨h1, by rw [← bs_list t, ← ByteArray.toList_eq, e]; rfl⟩
      simp [h1, h2]
    · simp [h1]
set_option maxRecDepth 100000 in
set_option maxHeartbeats 8000000 in
theorem back_walk (T U : Nat → L) (hT : ∀ i, (T i).q ≤ 4294967295 ∧ (T i).c ≤ 255 ∧ (T i).t.size ≤ 9223372036854775807) (hU : ∀ i, (U i).q ≤ 4294967295 ∧ (U i).c ≤ 255 ∧ (U i).t.size ≤ 9223372036854775807) (hT4 : ∀ i, 4 ≤ i → T i = zero) (hU4 : ∀ i, 4 ≤ i → U i = zero) (s : List UInt8) (hl : ¬ 2000 < s.length) (w : World) :
    Calls Try.prog 6 #[tab T, tab U, .string (bs s)] w fun e w' => e = .returned (.bool true) ∧ Below w.heap.size w w' := by
  have hs := bs_size s
  have d1 : decide (2000 < s.length) = false := decide_eq_false hl
  have d1' : decide ((2000 : Int) < (s.length : Int)) = false := decide_eq_false (by omega)
  have HT := Lib.hid hT
  have HU := Lib.hid hU
  have HT4 := Lib.hid hT4
  have HU4 := Lib.hid hU4
  clear hT hU hT4 hU4
  unfold tab
  go_enter Try.func6, Try.ntmps6
  go_wp2_with fail
  go_loopw [7] (fun i wr => ∃ k : Nat, k ≤ 4 ∧ i = .int .i64 k ∧ (∀ j < k, okL (T j) ∧ okL (U j)) ∧ Blk wr w.heap.size (.cells (tabA T) 31) ∧ Blk wr (w.heap.size + 1) (.cells (tabA U) 31) ∧ Below w.heap.size w wr) (fun i _ => 4 - (intOf i).toNat)
  case atStart => exact ⟨0, by omega, rfl, by simp, Blk.alloc (Blk.new _ _) _, Blk.newAt _ (by simp), below2 _ _ _⟩
  case round =>
    obtain ⟨k, hk, rfl, hok, kT, kU, hB⟩ := hrel
    by_cases hlt : k < 4
    · have hd : decide ((k : Int) < 4) = true := decide_eq_true (by omega)
      have hlt' : (k : Int) < 4 := by omega
      obtain ⟨a0, a1, a2⟩ := tab_cell hlt kT
      obtain ⟨b0, b1, b2⟩ := tab_cell hlt kU
      have hx := HT.out k
      have hy := HU.out k
      have HOK := Lib.hid hok
      clear hok
      obtain ⟨x, hxe⟩ : ∃ x, T k = x := ⟨_, rfl⟩
      obtain ⟨y, hye⟩ : ∃ y, U k = y := ⟨_, rfl⟩
      rw [hxe] at a0 a1 a2 hx
      rw [hye] at b0 b1 b2 hy
      have EX := Lib.hid hxe
      have EY := Lib.hid hye
      clear hxe hye
      obtain ⟨xq, xc, xt⟩ := x
      obtain ⟨yq, yc, yt⟩ := y
      dsimp only at a0 a1 a2 b0 b1 b2 hx hy
      by_cases hX : okL ⟨xq, xc, xt⟩
      · by_cases hY : okL ⟨yq, yc, yt⟩
        · have hX' := Lib.hid hX
          have hY' := Lib.hid hY
          obtain ⟨x1, x2, x3⟩ := hX
          obtain ⟨y1, y2, y3⟩ := hY
          dsimp only at x1 x2 x3 y1 y2 y3
          have t1 : decide (64 < xt.size) = false := decide_eq_false (by omega)
          have t1' : decide ((64 : Int) < (xt.size : Int)) = false := decide_eq_false (by omega)
          have t2 : decide (3 < xc) = false := decide_eq_false (by omega)
          have t2' : decide ((3 : Int) < (xc : Int)) = false := decide_eq_false (by omega)
          have u1 : decide (64 < yt.size) = false := decide_eq_false (by omega)
          have u1' : decide ((64 : Int) < (yt.size : Int)) = false := decide_eq_false (by omega)
          have u2 : decide (3 < yc) = false := decide_eq_false (by omega)
          have u2' : decide ((3 : Int) < (yc : Int)) = false := decide_eq_false (by omega)
          by_cases ex : xq = 0
          · by_cases ey : yq = 0
            · have rx := rep_neq xc xt false (by simp [x3 ex])
              have tx : ((xq : Int) == 0) = true := by simp [ex]
              have ry := rep_neq yc yt false (by simp [y3 ey])
              have ty : ((yq : Int) == 0) = true := by simp [ey]
              clear ex ey x3 y3
              go_wp2
              go_roundw
              case rel => exact ⟨k + 1, by omega, by go_num, fun j hj => by
                  rcases Nat.lt_succ_iff_lt_or_eq.1 hj with h | h
                  · exact HOK.out j h
                  · subst h; rw [EX.out, EY.out]; exact ⟨hX'.out, hY'.out⟩, kT, kU, hB⟩
              case measure => simp [intOf]; omega
            · have rx := rep_neq xc xt false (by simp [x3 ex])
              have tx : ((xq : Int) == 0) = true := by simp [ex]
              have ty : ((yq : Int) == 0) = false := by rw [beq_eq_false_iff_ne]; omega
              clear ex ey x3 y3
              go_wp2
              go_roundw
              case rel => exact ⟨k + 1, by omega, by go_num, fun j hj => by
                  rcases Nat.lt_succ_iff_lt_or_eq.1 hj with h | h
                  · exact HOK.out j h
                  · subst h; rw [EX.out, EY.out]; exact ⟨hX'.out, hY'.out⟩, kT, kU, hB⟩
              case measure => simp [intOf]; omega
          · by_cases ey : yq = 0
            · have tx : ((xq : Int) == 0) = false := by rw [beq_eq_false_iff_ne]; omega
              have ry := rep_neq yc yt false (by simp [y3 ey])
              have ty : ((yq : Int) == 0) = true := by simp [ey]
              clear ex ey x3 y3
              go_wp2
              go_roundw
              case rel => exact ⟨k + 1, by omega, by go_num, fun j hj => by
                  rcases Nat.lt_succ_iff_lt_or_eq.1 hj with h | h
                  · exact HOK.out j h
                  · subst h; rw [EX.out, EY.out]; exact ⟨hX'.out, hY'.out⟩, kT, kU, hB⟩
              case measure => simp [intOf]; omega
            · have tx : ((xq : Int) == 0) = false := by rw [beq_eq_false_iff_ne]; omega
              have ty : ((yq : Int) == 0) = false := by rw [beq_eq_false_iff_ne]; omega
              clear ex ey x3 y3
              go_wp2
              go_roundw
              case rel => exact ⟨k + 1, by omega, by go_num, fun j hj => by
                  rcases Nat.lt_succ_iff_lt_or_eq.1 hj with h | h
                  · exact HOK.out j h
                  · subst h; rw [EX.out, EY.out]; exact ⟨hX'.out, hY'.out⟩, kT, kU, hB⟩
              case measure => simp [intOf]; omega
        · obtain ⟨x1, x2, x3⟩ := hX
          dsimp only at x1 x2 x3
          have t1 : decide (64 < xt.size) = false := decide_eq_false (by omega)
          have t1' : decide ((64 : Int) < (xt.size : Int)) = false := decide_eq_false (by omega)
          have t2 : decide (3 < xc) = false := decide_eq_false (by omega)
          have t2' : decide ((3 : Int) < (xc : Int)) = false := decide_eq_false (by omega)
          by_cases ex : xq = 0
          · have rx := rep_neq xc xt false (by simp [x3 ex])
            have tx : ((xq : Int) == 0) = true := by simp [ex]
            clear ex x3
            by_cases gy1 : 64 < yt.size
            · have ty1 : decide (64 < yt.size) = true := decide_eq_true gy1
              have ty1' : decide ((64 : Int) < (yt.size : Int)) = true := decide_eq_true (by omega)
              clear gy1 hY
              go_wp2_with fail
              refine (wakes_any _).mono ?_
              rintro e w2 ⟨rfl, b2⟩
              go_wp2
              go_ret
              exact ⟨rfl, Below.later' hB b2⟩
            · by_cases gy2 : 3 < yc
              · have ty1 : decide (64 < yt.size) = false := decide_eq_false gy1
                have ty1' : decide ((64 : Int) < (yt.size : Int)) = false := decide_eq_false (by omega)
                have ty2 : decide (3 < yc) = true := decide_eq_true gy2
                have ty2' : decide ((3 : Int) < (yc : Int)) = true := decide_eq_true (by omega)
                clear gy1 gy2 hY
                go_wp2_with fail
                refine (wakes_any _).mono ?_
                rintro e w2 ⟨rfl, b2⟩
                go_wp2
                go_ret
                exact ⟨rfl, Below.later' hB b2⟩
              · have ty1 : decide (64 < yt.size) = false := decide_eq_false gy1
                have ty1' : decide ((64 : Int) < (yt.size : Int)) = false := decide_eq_false (by omega)
                have ty2 : decide (3 < yc) = false := decide_eq_false gy2
                have ty2' : decide ((3 : Int) < (yc : Int)) = false := decide_eq_false (by omega)
                have gy3 : yq = 0 ∧ ¬ (yc = 0 ∧ yt = ⟨#[]⟩) := Classical.byContradiction fun h => hY ⟨by dsimp only; omega, by dsimp only; omega, fun e => Classical.byContradiction fun e2 => h ⟨e, e2⟩⟩
                have ry := rep_neq yc yt true (by simp [gy3.2])
                have ty3 : ((yq : Int) == 0) = true := by simp [gy3.1]
                clear gy3
                clear gy1 gy2 hY
                go_wp2_with fail
                refine (wakes_any _).mono ?_
                rintro e w2 ⟨rfl, b2⟩
                go_wp2
                go_ret
                exact ⟨rfl, Below.later' hB b2⟩
          · have tx : ((xq : Int) == 0) = false := by rw [beq_eq_false_iff_ne]; omega
            clear ex x3
            by_cases gy1 : 64 < yt.size
            · have ty1 : decide (64 < yt.size) = true := decide_eq_true gy1
              have ty1' : decide ((64 : Int) < (yt.size : Int)) = true := decide_eq_true (by omega)
              clear gy1 hY
              go_wp2_with fail
              refine (wakes_any _).mono ?_
              rintro e w2 ⟨rfl, b2⟩
              go_wp2
              go_ret
              exact ⟨rfl, Below.later' hB b2⟩
            · by_cases gy2 : 3 < yc
              · have ty1 : decide (64 < yt.size) = false := decide_eq_false gy1
                have ty1' : decide ((64 : Int) < (yt.size : Int)) = false := decide_eq_false (by omega)
                have ty2 : decide (3 < yc) = true := decide_eq_true gy2
                have ty2' : decide ((3 : Int) < (yc : Int)) = true := decide_eq_true (by omega)
                clear gy1 gy2 hY
                go_wp2_with fail
                refine (wakes_any _).mono ?_
                rintro e w2 ⟨rfl, b2⟩
                go_wp2
                go_ret
                exact ⟨rfl, Below.later' hB b2⟩
              · have ty1 : decide (64 < yt.size) = false := decide_eq_false gy1
                have ty1' : decide ((64 : Int) < (yt.size : Int)) = false := decide_eq_false (by omega)
                have ty2 : decide (3 < yc) = false := decide_eq_false gy2
                have ty2' : decide ((3 : Int) < (yc : Int)) = false := decide_eq_false (by omega)
                have gy3 : yq = 0 ∧ ¬ (yc = 0 ∧ yt = ⟨#[]⟩) := Classical.byContradiction fun h => hY ⟨by dsimp only; omega, by dsimp only; omega, fun e => Classical.byContradiction fun e2 => h ⟨e, e2⟩⟩
                have ry := rep_neq yc yt true (by simp [gy3.2])
                have ty3 : ((yq : Int) == 0) = true := by simp [gy3.1]
                clear gy3
                clear gy1 gy2 hY
                go_wp2_with fail
                refine (wakes_any _).mono ?_
                rintro e w2 ⟨rfl, b2⟩
                go_wp2
                go_ret
                exact ⟨rfl, Below.later' hB b2⟩
      · by_cases gx1 : 64 < xt.size
        · have tx1 : decide (64 < xt.size) = true := decide_eq_true gx1
          have tx1' : decide ((64 : Int) < (xt.size : Int)) = true := decide_eq_true (by omega)
          clear gx1 hX
          go_wp2_with fail
          refine (wakes_any _).mono ?_
          rintro e w2 ⟨rfl, b2⟩
          go_wp2
          go_ret
          exact ⟨rfl, Below.later' hB b2⟩
        · by_cases gx2 : 3 < xc
          · have tx1 : decide (64 < xt.size) = false := decide_eq_false gx1
            have tx1' : decide ((64 : Int) < (xt.size : Int)) = false := decide_eq_false (by omega)
            have tx2 : decide (3 < xc) = true := decide_eq_true gx2
            have tx2' : decide ((3 : Int) < (xc : Int)) = true := decide_eq_true (by omega)
            clear gx1 gx2 hX
            go_wp2_with fail
            refine (wakes_any _).mono ?_
            rintro e w2 ⟨rfl, b2⟩
            go_wp2
            go_ret
            exact ⟨rfl, Below.later' hB b2⟩
          · have tx1 : decide (64 < xt.size) = false := decide_eq_false gx1
            have tx1' : decide ((64 : Int) < (xt.size : Int)) = false := decide_eq_false (by omega)
            have tx2 : decide (3 < xc) = false := decide_eq_false gx2
            have tx2' : decide ((3 : Int) < (xc : Int)) = false := decide_eq_false (by omega)
            have gx3 : xq = 0 ∧ ¬ (xc = 0 ∧ xt = ⟨#[]⟩) := Classical.byContradiction fun h => hX ⟨by dsimp only; omega, by dsimp only; omega, fun e => Classical.byContradiction fun e2 => h ⟨e, e2⟩⟩
            have rx := rep_neq xc xt true (by simp [gx3.2])
            have tx3 : ((xq : Int) == 0) = true := by simp [gx3.1]
            clear gx3
            clear gx1 gx2 hX
            go_wp2_with fail
            refine (wakes_any _).mono ?_
            rintro e w2 ⟨rfl, b2⟩
            go_wp2
            go_ret
            exact ⟨rfl, Below.later' hB b2⟩
    · have hd : decide ((k : Int) < 4) = false := decide_eq_false (by omega)
      have hd' : decide (k < 4) = false := decide_eq_false hlt
      have hk4 : k = 4 := by omega
      subst hk4
      have fT : fair T := fun i hi => ⟨(HT.out i).1, (hok i hi).1.2.1, (hok i hi).1.1, fun e => by
        have h := (hok i hi).1.2.2 e
        exact L_ext e h.1 h.2⟩
      have fU : fair U := fun i hi => ⟨(HU.out i).1, (hok i hi).2.2.1, (hok i hi).2.1, fun e => by
        have h := (hok i hi).2.2.2 e
        exact L_ext e h.1 h.2⟩
      have sT : ∀ i, small (T i) := fun i => by
        by_cases hi : i < 4
        · exact ⟨(fT i hi).1, by have := (fT i hi).2.1; omega, by have := (fT i hi).2.2.1; omega⟩
        · rw [HT4.out i (by omega)]; exact ⟨by decide, by decide, by decide⟩
      have sU : ∀ i, small (U i) := fun i => by
        by_cases hi : i < 4
        · exact ⟨(fU i hi).1, by have := (fU i hi).2.1; omega, by have := (fU i hi).2.2.1; omega⟩
        · rw [HU4.out i (by omega)]; exact ⟨by decide, by decide, by decide⟩
      have HPA := Lib.hid (fun base vb n0 xs w h1 h2 h3 => put_any base vb n0 xs T sT w h1 h2 h3)
      have HPB := Lib.hid (fun base vb n0 xs w h1 h2 h3 => put_any base vb n0 xs U sU w h1 h2 h3)
      have hXl := tabB_le T sT 4
      have HTK := Lib.hid (fun b w h => take_walk b ⟨tabB T 4, 0⟩ w h (by dsimp only; omega))
      have htt : tab (tabK (takeK ⟨tabB T 4, 0⟩)) = tab T := by
        have h := takeK_tabB T fT
        unfold tab
        rw [h 0 (by decide), h 1 (by decide), h 2 (by decide), h 3 (by decide)]
      rw [docK_left T fT, htt] at HTK
      obtain ⟨g, hg⟩ := bool_of (∀ i < 4, T i = U i)
      have q2 : ((bs (tabB T 4)).toList == (bs (tabB U 4)).toList) = g := by
        rw [bs_toList, bs_toList]
        cases g
        · rw [beq_eq_false_iff_ne]
          intro e
          have := hg.2 (tabB_inj T U fT fU e)
          cases this
        · rw [beq_iff_eq]
          exact tabB_congr T U 4 (hg.1 rfl)
      have q3 := tab_eql T U g hg
      have q1 := tab_same' T
      have HTS := Lib.hid (fun b w h => take_walk b ⟨s, 0⟩ w h (by dsimp only; omega))
      have hsm := takeK_small ⟨s, 0⟩
      have HPS := Lib.hid (fun base vb n0 xs w h1 h2 h3 => put_any base vb n0 xs (tabK (takeK ⟨s, 0⟩)) hsm w h1 h2 h3)
      have hsl := tabB_le _ hsm 4
      have HBO := Lib.hid (back_own s)
      generalize takeK ⟨s, 0⟩ = lS at HTS HPS HBO hsl
      generalize (docK ⟨s, 0⟩ 4).2 = sS at HTS HBO
      generalize tabK lS = V at HTS HPS HBO hsl
      clear hg hsm htt fT fU sT sU hok
      generalize tabB T 4 = X at HPA HTK q2 hXl
      generalize tabB U 4 = Y at HPB q2
      unfold tab at HPA HPB HTK HTS HPS
      simp only [tabA] at kT kU
      have F4 := kT.held
      have F5 := kU.held
      have B0 : Below wr.heap.size wr wr.drew := Below.drew (Below.refl _ _)
      obtain ⟨wo, rfl⟩ : ∃ wo : World, wo = wr := ⟨_, rfl⟩
      go_wp2_with fail
      refine wp_region_ord (fun w' => Below wo.heap.size wo w') (0 :: 3 :: 1 :: 2 :: 4 :: 5 :: 6 :: 7 :: []) [1, 4] (by kernel_rfl) (by kernel_rfl) (by intro c d v a w h; cases d <;> exact h) B0 ?_
      repeat (first
        | (refine wpOrd_take (v := ?_) rfl rfl ?_ ?_ ?_; rotate_left; rfl; (· intro w' hSw; (try dsimp only at hSw); go_simp <;> with_reducible rfl); simp only [Act.put, List.setIfInBounds_toArray, List.set_cons_zero, List.set_cons_succ])
        | (refine wpOrd_skip rfl rfl ?_ ?_; rfl; simp only [Act.put, List.setIfInBounds_toArray, List.set_cons_zero, List.set_cons_succ]))
      refine wpOrd_effS rfl rfl (fun K hK => ?_)
      go_wp2_with fail
      refine (HPA.out wo.heap.size _ 0 [] _ (.inl (own_nil _ _)) (by omega) B0.size).mono ?_
      rintro e wb ⟨v1, rfl, ho1, gr1⟩
      rw [Nat.zero_add, List.nil_append] at ho1
      have B1 := gr1.below B0 B0.size (fun c hc => by cases hc)
      have cv1 : ∀ w', Below wb.heap.size wb w' → (convert 41 9 v1).run Try.prog w' = .ok (.string (bs X)) w' := fun w' h => own_text (ownsRow_below ho1 h)
      have kU1 := kU.later B1
      have kT1 := kT.later B1
      have F4 := kT1.held
      have F5 := kU1.held
      have CV1 := Lib.hid cv1
      go_wp2_with fail
      refine hK.out (fun w' => Below wb.heap.size wb w') _ _ (fun w' h => B1.trans (h.mono B1.size)) (Below.refl _ _) ?_
      clear hK K
      repeat (first
        | (refine wpOrd_take (v := ?_) rfl rfl ?_ ?_ ?_; rotate_left; rfl; (· intro w' hSw; (try dsimp only at hSw); go_simp <;> with_reducible rfl); simp only [Act.put, List.setIfInBounds_toArray, List.set_cons_zero, List.set_cons_succ])
        | (refine wpOrd_skip rfl rfl ?_ ?_; rfl; simp only [Act.put, List.setIfInBounds_toArray, List.set_cons_zero, List.set_cons_succ]))
      refine wpOrd_effS rfl rfl (fun K hK => ?_)
      go_wp2_with fail
      refine (HPB.out wb.heap.size _ 0 [] _ (.inl (own_nil _ _)) (by omega) (Nat.le_refl _)).mono ?_
      rintro e wc ⟨v2, rfl, ho2, gr2⟩
      rw [Nat.zero_add, List.nil_append] at ho2
      have B2 := gr2.below (Below.refl wb.heap.size wb) (Nat.le_refl _) (fun c hc => by cases hc)
      have cv2 : ∀ w', Below wc.heap.size wc w' → (convert 41 9 v2).run Try.prog w' = .ok (.string (bs Y)) w' := fun w' h => own_text (ownsRow_below ho2 h)
      clear cv1
      have cv1 : ∀ w', Below wc.heap.size wc w' → (convert 41 9 v1).run Try.prog w' = .ok (.string (bs X)) w' := fun w' h => CV1.out w' (B2.trans (h.mono B2.size))
      have kT2 := kT1.later B2
      have kU2 := kU1.later B2
      go_wp2_with fail
      refine hK.out (fun w' => Below wc.heap.size wc w') _ _ (fun w' h => B2.trans (h.mono B2.size)) (Below.refl _ _) ?_
      clear hK K
      repeat (first
        | (refine wpOrd_take (v := ?_) rfl rfl ?_ ?_ ?_; rotate_left; rfl; (· intro w' hSw; (try dsimp only at hSw); go_simp <;> with_reducible rfl); simp only [Act.put, List.setIfInBounds_toArray, List.set_cons_zero, List.set_cons_succ])
        | (refine wpOrd_skip rfl rfl ?_ ?_; rfl; simp only [Act.put, List.setIfInBounds_toArray, List.set_cons_zero, List.set_cons_succ]))
      refine wpOrd_nil ?_
      have hBc := hB.trans ((Below.later' B1 B2).mono hB.size)
      clear ho1 ho2 cv1 cv2 CV1 F4 F5 kT kU kT1 kU1 gr1 gr2 B0 B1 B2 hB
      go_wp2_with fail
      refine (of_any X wc).mono ?_
      rintro e w1 ⟨br, rfl, hbr, b1, hr1⟩
      have hB1 := Below.later' hBc b1
      have zc : w.heap.size ≤ wc.heap.size := hBc.size
      have zT := kT2.lt
      have zU := kU2.lt
      have kT3 := kT2.later b1
      have kU3 := kU2.later b1
      have zb1 : wc.heap.size ≤ w1.heap.size := b1.size
      clear kT2 kU2 hBc b1
      have F4 := fun (w' : World) (j : Nat) (hb : Below wc.heap.size w1 w') => (kT3.below hb zT).cell j
      have F5 := fun (w' : World) (j : Nat) (hb : Below wc.heap.size w1 w') => (kU3.below hb zU).cell j
      have B0 : Below wc.heap.size w1 w1.drew := Below.drew (Below.refl _ _)
      have HE := Lib.hid (show endR ⟨[], 0⟩ = ⟨[], 0⟩ from rfl)
      have q5 : (((0 : Nat) : Int) != 0) = false := rfl
      go_wp2_with fail
      refine wp_region_ord (fun w' => Below wc.heap.size w1 w') (0 :: 2 :: 1 :: 3 :: 4 :: 5 :: 6 :: 7 :: 8 :: 9 :: 10 :: 11 :: 12 :: 13 :: 14 :: 15 :: 16 :: 17 :: []) [1, 6] (by kernel_rfl) (by kernel_rfl) (by intro c d v a w h; cases d <;> exact h) B0 ?_
      repeat (first
        | (refine wpOrd_take (v := ?_) rfl rfl ?_ ?_ ?_; rotate_left; rfl; (· intro w' hSw; (try dsimp only at hSw); go_simp <;> with_reducible rfl); simp only [Act.put, List.setIfInBounds_toArray, List.set_cons_zero, List.set_cons_succ])
        | (refine wpOrd_skip rfl rfl ?_ ?_; rfl; simp only [Act.put, List.setIfInBounds_toArray, List.set_cons_zero, List.set_cons_succ]))
      refine wpOrd_eff rfl rfl (fun K hK => ?_)
      go_wp2_with fail
      refine (HTK.out br _ (Blk.drew hr1)).mono ?_
      rintro e wd ⟨rfl, gd, hrd⟩
      have Bd := Below.grew B0 gd zb1 hbr
      have zd := Bd.size
      go_wp2_with fail
      refine hK.out _ _ Bd ?_
      clear hK K
      repeat (first
        | (refine wpOrd_take (v := ?_) rfl rfl ?_ ?_ ?_; rotate_left; rfl; (· intro w' hSw; (try dsimp only at hSw); go_simp <;> with_reducible rfl); simp only [Act.put, List.setIfInBounds_toArray, List.set_cons_zero, List.set_cons_succ])
        | (refine wpOrd_skip rfl rfl ?_ ?_; rfl; simp only [Act.put, List.setIfInBounds_toArray, List.set_cons_zero, List.set_cons_succ]))
      refine wpOrd_eff rfl rfl (fun K hK => ?_)
      go_wp2_with fail
      refine (end_of br _ _ hrd).mono ?_
      rintro e we ⟨rfl, ge, hre⟩
      rw [HE.out]
      have Be := Below.grew Bd ge (by omega) hbr
      go_wp2_with fail
      refine hK.out _ _ Be ?_
      clear hK K
      repeat (first
        | (refine wpOrd_take (v := ?_) rfl rfl ?_ ?_ ?_; rotate_left; rfl; (· intro w' hSw; (try dsimp only at hSw); go_simp <;> with_reducible rfl); simp only [Act.put, List.setIfInBounds_toArray, List.set_cons_zero, List.set_cons_succ])
        | (refine wpOrd_skip rfl rfl ?_ ?_; rfl; simp only [Act.put, List.setIfInBounds_toArray, List.set_cons_zero, List.set_cons_succ]))
      refine wpOrd_nil ?_
      have hBe := hB1.trans (Be.mono (by omega))
      clear hr1 hrd hre gd ge B0 Bd Be F4 F5 kT3 kU3 hB1 HTK HPA HPB
      go_wp2_with fail
      refine (of_any s we).mono ?_
      rintro e w2 ⟨b2, rfl, hb2, bb2, hr2⟩
      have hB2 := Below.later' hBe bb2
      have z2 : we.heap.size ≤ w2.heap.size := bb2.size
      have ze : w.heap.size ≤ we.heap.size := hBe.size
      clear hBe bb2
      go_wp2_with fail
      refine (HTS.out b2 w2 hr2).mono ?_
      rintro e w3 ⟨rfl, g3, hr3⟩
      have hB3 := Below.grew hB2 g3 (by omega) (by omega)
      have hz := hB3.size
      have zr := hr3.lt
      clear hB2 hr2 g3
      go_wp2_with fail
      have k4 := Blk.new w3 (.cells (tabA V) 31)
      have hr4 : Rdr (w3.alloc (.cells (tabA V) 31)) b2 sS := Blk.alloc hr3 _
      have hB4 := hB3.alloc hz (.cells (tabA V) 31)
      simp only [tabA] at k4 hr4 hB4
      clear hB3 hr3
      refine (end_of b2 sS _ hr4).mono ?_
      rintro e w5 ⟨rfl, g5, hr5⟩
      have hB5 := Below.grew hB4 g5 hB4.size (by omega)
      have k5 := k4.grown g5 (by simp; omega)
      by_cases he : (endR sS).e = 0
      · have hown := HBO.out he
        rw [he]
        have c0 := k5.cell 0
        have c1 := k5.cell 1
        have c2 := k5.cell 2
        have c3 := k5.cell 3
        have c4 := k5.cell 4
        have c5 := k5.cell 5
        have c6 := k5.cell 6
        have c7 := k5.cell 7
        have c8 := k5.cell 8
        have c9 := k5.cell 9
        have c10 := k5.cell 10
        have c11 := k5.cell 11
        clear HBO he
        go_wp2_with fail
        refine (HPS.out w5.heap.size _ 0 [] w5 (.inl (own_nil _ _)) (by omega) (Nat.le_refl _)).mono ?_
        rintro e w6 ⟨v6, rfl, ho6, gr6⟩
        rw [hown, Nat.zero_add, List.nil_append] at ho6
        have B6 := gr6.below (Below.refl w5.heap.size w5) (Nat.le_refl _) (fun c hc => by cases hc)
        have cv := own_text ho6
        have q9 : ((bs s).toList == (bs s).toList) = true := beq_self_eq_true _
        have hB6 := Below.later' hB5 B6
        clear ho6 gr6 hown
        go_wp2_with fail
        refine (wakes_any _).mono ?_
        rintro e w7 ⟨rfl, b7⟩
        go_wp2
        go_ret
        exact ⟨rfl, Below.later' hB6 b7⟩
      · have q8 : (((endR sS).e : Int) != 0) = true := by simp; omega
        have q8' : (((endR sS).e : Int) == 0) = false := by simp; omega
        clear HBO he
        go_wp2_with fail
        refine (wakes_any _).mono ?_
        rintro e w7 ⟨rfl, b7⟩
        go_wp2
        go_ret
        exact ⟨rfl, Below.later' hB5 b7⟩
/-- Twelve leaves as a table. -/
def tabO (l : List L) : Nat → L := fun i => l.getD i zero
theorem tabO_out (l : List L) (i : Nat) (h : l.length ≤ i) : tabO l i = zero := by
  unfold tabO; rw [List.getD, List.getElem?_eq_none h]; rfl
theorem open_tab {H : Type} {enc : TypeId × Value → H} {base : Nat} {d : DataW H} {ps : List MemPlace} {v : Value} {w : World}
    (hok : Value.okWide Try.prog w .any base 31 v) (ht : DataW.Trod enc Try.prog w 0 (fun _ => true) true 31 v d ps) :
    ∃ T : Nat → L, v = tab T ∧ (∀ i, (T i).q ≤ 4294967295 ∧ (T i).c ≤ 255 ∧ (T i).t.size ≤ 9223372036854775807) ∧ ∀ i, 4 ≤ i → T i = zero := by
  have hf := fit_Trod 4 (ks := [Leaf.int .u32, .int .u8, .str, .int .u32, .int .u8, .str, .int .u32, .int .u8, .str, .int .u32, .int .u8, .str]) (by kernel_rfl) ht
  obtain ⟨cs, rfl⟩ := okWide_array Try.underlying31 hok
  obtain ⟨cs⟩ := cs
  have hl := hf.length
  match cs, hl, hf with
  | [a0, a1, a2, b0, b1, b2, c0, c1, c2, d0, d1, d2], _, h =>
    obtain ⟨⟨x0, rfl, h0⟩, ⟨x1, rfl, h1⟩, ⟨x2, rfl, h2⟩, ⟨y0, rfl, i0⟩, ⟨y1, rfl, i1⟩, ⟨y2, rfl, i2⟩, ⟨z0, rfl, j0⟩, ⟨z1, rfl, j1⟩, ⟨z2, rfl, j2⟩, ⟨u0, rfl, k0⟩, ⟨u1, rfl, k1⟩, ⟨u2, rfl, k2⟩, _⟩ := h
    obtain ⟨p0, p1⟩ := bounds_u32 h0
    obtain ⟨p2, p3⟩ := bounds_u8 h1
    obtain ⟨q0, q1⟩ := bounds_u32 i0
    obtain ⟨q2, q3⟩ := bounds_u8 i1
    obtain ⟨r0, r1⟩ := bounds_u32 j0
    obtain ⟨r2, r3⟩ := bounds_u8 j1
    obtain ⟨s0, s1⟩ := bounds_u32 k0
    obtain ⟨s2, s3⟩ := bounds_u8 k1
    simp only [maxLen] at h2 i2 j2 k2
    refine ⟨tabO [⟨x0.toNat, x1.toNat, x2⟩, ⟨y0.toNat, y1.toNat, y2⟩, ⟨z0.toNat, z1.toNat, z2⟩, ⟨u0.toNat, u1.toNat, u2⟩], ?_, fun i => ?_, fun i hi => ?_⟩
    · unfold tab tabO; simp only [List.getD_cons_zero, List.getD_cons_succ, Int.toNat_of_nonneg p0, Int.toNat_of_nonneg p2, Int.toNat_of_nonneg q0, Int.toNat_of_nonneg q2, Int.toNat_of_nonneg r0, Int.toNat_of_nonneg r2, Int.toNat_of_nonneg s0, Int.toNat_of_nonneg s2]
    · by_cases hi : i < 4
      · have : i = 0 ∨ i = 1 ∨ i = 2 ∨ i = 3 := by omega
        rcases this with rfl | rfl | rfl | rfl <;> simp only [tabO, List.getD_cons_zero, List.getD_cons_succ] <;> refine ⟨?_, ?_, ?_⟩ <;> omega
      · have e : tabO [⟨x0.toNat, x1.toNat, x2⟩, ⟨y0.toNat, y1.toNat, y2⟩, ⟨z0.toNat, z1.toNat, z2⟩, ⟨u0.toNat, u1.toNat, u2⟩] i = zero := tabO_out _ _ (by simp; omega)
        rw [e]; exact ⟨by decide, by decide, by decide⟩
    · exact tabO_out _ _ (by simp; omega)
theorem back_law {H : Type} {enc : TypeId × Value → H} {base : Nat} {d d2 : DataW H} {ps ps2 : List MemPlace} (v u : Value) (s : ByteArray) (w : World)
    (hok : Value.okWide Try.prog w .any base 31 v) (ht : DataW.Trod enc Try.prog w 0 (fun _ => true) true 31 v d ps)
    (hok2 : Value.okWide Try.prog w .any base 31 u) (ht2 : DataW.Trod enc Try.prog w 0 (fun _ => true) true 31 u d2 ps2) (_ : s.size ≤ maxLen) :
    Calls Try.prog 6 #[v, u, .string s] w fun e w' => e = .returned (.bool true) ∧ Below w.heap.size w w' := by
  obtain ⟨T, rfl, hT, hT4⟩ := open_tab hok ht
  obtain ⟨U, rfl, hU, hU4⟩ := open_tab hok2 ht2
  rw [← bs_list s]
  by_cases h : 2000 < s.data.toList.length
  · have hs := bs_size s.data.toList
    have d1 : decide (2000 < s.data.toList.length) = true := decide_eq_true h
    have d1' : decide ((2000 : Int) < (s.data.toList.length : Int)) = true := decide_eq_true (by omega)
    generalize s.data.toList = l at hs d1 d1' h ⊢
    unfold tab
    go_enter Try.func6, Try.ntmps6
    go_wp2_with fail
    refine (wakes_any _).mono ?_
    rintro e w2 ⟨rfl, b2⟩
    go_wp2
    go_ret
    exact ⟨rfl, Below.later' (below2 w _ _) b2⟩
  · exact back_walk T U hT hU hT4 hU4 _ h w
end Ses
end Go.Proofs.Ytidgeljkihamhaa
