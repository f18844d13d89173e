/-
  Tables of sessions, read: what session.Take answers and leaves.
-/
import Derived.Test.YtidgeljkihamhaaSesPut
namespace Go.Proofs.Ytidgeljkihamhaa
open Go.RowKit Go.WideShapes
namespace Ses
open Wire
theorem belowR_lt (s : R) (n : Nat) (h : 0 < n) : (belowR s n).1 < n := by
  unfold belowR
  split
  · exact h
  · split
    · assumption
    · exact h
theorem belowR_len' (s : R) (n : Nat) : (belowR s n).2.rest.length ≤ s.rest.length := by
  have := numR_len s
  unfold belowR
  split
  · exact this
  · split
    · exact this
    · simp
theorem strR_len' (s : R) (m : Nat) : (strR s m).2.rest.length ≤ s.rest.length := Nat.le_trans (takeR_len _ _) (Nat.le_trans (belR_len _ _ _) (numR_len s))
theorem badR_len (s : R) : (badR s).rest.length ≤ s.rest.length := by
  unfold badR
  split
  · simp
  · exact Nat.le_refl _
/-- What is read of one client, its number known. -/
def entK (c n : Nat) (s2 : R) : K × R :=
  (⟨c, n, (byteR s2).1, bs (strR (byteR s2).2 64).1⟩, if 3 < (byteR s2).1 then badR (strR (byteR s2).2 64).2 else (strR (byteR s2).2 64).2)
theorem entK_len (c n : Nat) (s2 : R) : (entK c n s2).2.rest.length ≤ s2.rest.length := by
  have h1 := byteR_len s2
  have h2 := strR_len' (byteR s2).2 64
  have h3 := badR_len (strR (byteR s2).2 64).2
  unfold entK
  dsimp only
  split <;> omega
/-- What is read of the first clients, and what is left. -/
def docK (s : R) : Nat → List K × R
  | 0 => ([], s)
  | k + 1 => if (belowR (docK s k).2 4294967296).1 = 0 then ((docK s k).1, (belowR (docK s k).2 4294967296).2) else ((docK s k).1 ++ [(entK k (belowR (docK s k).2 4294967296).1 (belowR (docK s k).2 4294967296).2).1], (entK k (belowR (docK s k).2 4294967296).1 (belowR (docK s k).2 4294967296).2).2)
def takeK (s : R) : List K := if (docK s 4).2.e = 0 then (docK s 4).1 else []
theorem docK_len (s : R) : ∀ k, (docK s k).2.rest.length ≤ s.rest.length
  | 0 => Nat.le_refl _
  | k + 1 => by
    have h := docK_len s k
    have h1 := belowR_len' (docK s k).2 4294967296
    unfold docK
    split
    · exact Nat.le_trans h1 h
    · exact Nat.le_trans (entK_len k (belowR (docK s k).2 4294967296).1 (belowR (docK s k).2 4294967296).2) (Nat.le_trans h1 h)
theorem docK_c (s : R) : ∀ k, ∀ x ∈ (docK s k).1, x.c < k
  | 0 => by simp [docK]
  | k + 1 => by
    have h := docK_c s k
    unfold docK
    split
    · intro x hx; exact Nat.lt_succ_of_lt (h x hx)
    · intro x hx
      rcases List.mem_append.1 hx with h1 | h1
      · exact Nat.lt_succ_of_lt (h x h1)
      · rw [List.mem_singleton] at h1
        rw [h1]; exact Nat.lt_succ_self k
theorem last_none (l : List K) (c : Nat) (h : ∀ x ∈ l, x.c ≠ c) : lastK l c = none0 c := by
  rcases lastK_mem l c with e | e
  · exact e
  · exfalso
    have key : ∀ (l : List K) (o : K), (∀ x ∈ l, x.c ≠ c) → l.foldl (fun o x => if x.c = c then x else o) o = o := by
      intro l
      induction l with
      | nil => intro o _; rfl
      | cons a l ih => intro o ha; rw [List.foldl_cons, if_neg (ha a (by simp))]; exact ih o (fun x hx => ha x (List.mem_cons_of_mem _ hx))
    have e2 : lastK l c = none0 c := key l _ h
    rw [e2] at e
    exact h _ e rfl
def setQ (T : Nat → L) (k q : Nat) : Nat → L := fun i => if i = k then ⟨q, (T i).c, (T i).t⟩ else T i
def setR (T : Nat → L) (k c : Nat) (t : ByteArray) : Nat → L := fun i => if i = k then ⟨(T i).q, c, t⟩ else T i
theorem tab_setq {w : World} {n : Nat} {T : Nat → L} {k : Nat} (hk : k < 4) (h : Blk w n (.cells (tabA T) 31)) (q : Nat) : Blk (w.setCell ⟨n, k * 3, none⟩ (.int .u32 q)) n (.cells (tabA (setQ T k q)) 31) := by
  have h1 := h.set (k * 3) (.int .u32 q)
  have : k = 0 ∨ k = 1 ∨ k = 2 ∨ k = 3 := by omega
  rcases this with rfl | rfl | rfl | rfl <;> simpa [tabA, setQ] using h1
theorem tab_setr {w : World} {n : Nat} {T : Nat → L} {k : Nat} (hk : k < 4) (h : Blk w n (.cells (tabA T) 31)) (c : Nat) (t : ByteArray) : Blk ((w.setCell ⟨n, k * 3 + 1, none⟩ (.int .u8 c)).setCell ⟨n, k * 3 + 2, none⟩ (.string t)) n (.cells (tabA (setR T k c t)) 31) := by
  have h1 := (h.set (k * 3 + 1) (.int .u8 c)).set (k * 3 + 2) (.string t)
  have : k = 0 ∨ k = 1 ∨ k = 2 ∨ k = 3 := by omega
  rcases this with rfl | rfl | rfl | rfl <;> simpa [tabA, setR] using h1
theorem setQ_zero (l : List K) (k : Nat) (h : lastK l k = none0 k) : setQ (tabK l) k 0 = tabK l := by
  funext i
  unfold setQ
  split
  · rename_i e; subst e; unfold tabK; rw [h]; rfl
  · rfl
theorem setR_snoc (l : List K) (k n c : Nat) (t : ByteArray) : setR (setQ (tabK l) k n) k c t = tabK (l ++ [⟨k, n, c, t⟩]) := by
  funext i
  unfold setR setQ
  by_cases e : i = k
  · subst e; simp [tabK, last_snoc]
  · simp [tabK, last_snoc, e, show k ≠ i from fun h => e h.symm]
theorem gnew {w w1 : World} {r : Option Nat} {n j : Nat} (g : w.grownBy w1 r) (hn : w.heap.size ≤ n) (v : Value) : w.grownBy (w1.setCell ⟨n, j, none⟩ v) r :=
  ⟨g.os, g.tape, g.output, by simpa using g.size, fun k hk hne => (Below.heap_setCell _ _ _ _ (by dsimp only; omega)).trans (g.block k hk hne)⟩
theorem gnew12 {w w1 : World} {r : Option Nat} {n : Nat} (g : w.grownBy w1 r) (hn : w.heap.size ≤ n) (T : Nat → L) : w.grownBy (put12 w1 n T) r :=
  gnew (gnew (gnew (gnew (gnew (gnew (gnew (gnew (gnew (gnew (gnew (gnew g hn _) hn _) hn _) hn _) hn _) hn _) hn _) hn _) hn _) hn _) hn _) hn _
theorem put12_rdr {w : World} {b n : Nat} {s : R} (h : Rdr w b s) (hne : b ≠ n) (T : Nat → L) : Rdr (put12 w n T) b s := put12_other T h hne
set_option maxRecDepth 100000 in
set_option maxHeartbeats 400000 in
theorem take_walk (b : Nat) (s : R) (w : World) (h : Rdr w b s) (hl : s.rest.length < 9223372036854775808) :
    Calls Try.prog 17 #[rp b] w (Reads w b (tab (tabK (takeK s))) (docK s 4).2) := by
  have HDL := Lib.hid (docK_len s)
  have HDC := Lib.hid (docK_c s)
  have HDS := Lib.hid (show ∀ k, docK s (k + 1) = if (belowR (docK s k).2 4294967296).1 = 0 then ((docK s k).1, (belowR (docK s k).2 4294967296).2) else ((docK s k).1 ++ [(entK k (belowR (docK s k).2 4294967296).1 (belowR (docK s k).2 4294967296).2).1], (entK k (belowR (docK s k).2 4294967296).1 (belowR (docK s k).2 4294967296).2).2) by intro k; rw [docK])
  have hb := h.lt
  go_enter Try.func17, Try.ntmps17
  go_wp2_with fail
  go_loopw [4, 5, 6] (fun _ _ i wr => ∃ k : Nat, k ≤ 4 ∧ i = .int .i64 k ∧ Rdr wr b (docK s k).2 ∧ Blk wr (w.heap.size + 1) (.cells (tabA (tabK (docK s k).1)) 31) ∧ Blk wr w.heap.size (.cells #[.int .u32 0, .int .u8 0, .string ⟨#[]⟩, .int .u32 0, .int .u8 0, .string ⟨#[]⟩, .int .u32 0, .int .u8 0, .string ⟨#[]⟩, .int .u32 0, .int .u8 0, .string ⟨#[]⟩] 31) ∧ w.grownBy wr (some b)) (fun _ _ i _ => 4 - (intOf i).toNat)
  case atStart =>
    have g1 := gbelow (r := some b) (below2 w (.cells #[.int .u32 0, .int .u8 0, .string ⟨#[]⟩, .int .u32 0, .int .u8 0, .string ⟨#[]⟩, .int .u32 0, .int .u8 0, .string ⟨#[]⟩, .int .u32 0, .int .u8 0, .string ⟨#[]⟩] 31) (.cells #[.int .u32 0, .int .u8 0, .string ⟨#[]⟩, .int .u32 0, .int .u8 0, .string ⟨#[]⟩, .int .u32 0, .int .u8 0, .string ⟨#[]⟩, .int .u32 0, .int .u8 0, .string ⟨#[]⟩] 31))
    exact ⟨0, by omega, rfl, Blk.alloc (Blk.alloc h _) _, Blk.newAt _ (by simp), Blk.alloc (Blk.new _ _) _, g1⟩
  case round =>
    obtain ⟨k, hk, rfl, hr, k3, k2, g⟩ := hrel
    by_cases hlt : k < 4
    · have hd : decide ((k : Int) < 4) = true := decide_eq_true (by omega)
      have hlt' : (k : Int) < 4 := by omega
      have hds := HDS.out k
      have hdl := HDL.out k
      have hdc := HDC.out k
      obtain ⟨l1, s1, hdk⟩ : ∃ l1 s1, docK s k = (l1, s1) := ⟨_, _, rfl⟩
      rw [hdk] at hr k3 hds hdl hdc
      clear hdk
      dsimp only at hr k3 hds hdl hdc
      have hlk : lastK l1 k = none0 k := last_none l1 k (fun x hx e => by have := hdc x hx; omega)
      have HB := Lib.hid (below_any b s1 4294967296 (by decide) wr hr (by omega))
      have hnl := belowR_lt s1 4294967296 (by decide)
      have hsl := belowR_len' s1 4294967296
      obtain ⟨n, s2, hn⟩ : ∃ n s2, belowR s1 4294967296 = (n, s2) := ⟨_, _, rfl⟩
      rw [hn] at HB hds hnl hsl
      clear hn
      dsimp only at HB hds hnl hsl
      have hw32 : IntKind.u32.wrap (n : Int) = (n : Int) := by rw [IntKind.wrap_u32]; omega
      have hne3 : b ≠ w.heap.size + 1 := by omega
      have hne2 : b ≠ w.heap.size := by omega
      have l3 := k3.lt
      go_wp2_with fail
      refine HB.out.mono ?_
      rintro e w1 ⟨rfl, g1, hr1⟩
      have k31 := k3.grown g1 (by simp; omega)
      have k21 := k2.grown g1 (by simp; omega)
      have hg1 := gtrans g g1
      have a0 := (tab_cell hlt k31).1
      have f0 := k31.frozen (k * 3)
      have l31 := k31.lt
      clear hr k3 k2 g g1 HB l3
      have k32 := tab_setq hlt k31 n
      have k22 := k21.other (a := ⟨w.heap.size + 1, k * 3, none⟩) (by simp) (.int .u32 n)
      have hr2 : Rdr _ b s2 := Blk.other hr1 (a := ⟨w.heap.size + 1, k * 3, none⟩) (by simpa using hne3) (.int .u32 n)
      have hg2 := gnew (j := k * 3) hg1 (show w.heap.size ≤ w.heap.size + 1 by omega) (.int .u32 n)
      clear hr1 k31 k21 hg1
      by_cases h0 : n = 0
      · subst h0
        rw [if_pos rfl] at hds
        rw [setQ_zero l1 k hlk] at k32
        have HD := Lib.hid hds
        clear hds hdc hlk
        go_wp2
        go_roundw
        case rel => exact ⟨k + 1, by omega, by go_num, by rw [HD.out]; exact hr2, by rw [HD.out]; exact k32, k22, hg2⟩
        case measure => simp [intOf]; omega
      · rw [if_neg h0] at hds
        have HD := Lib.hid hds
        have h0' : ((n : Int) == 0) = false := beq_eq_false_iff_ne.2 (by omega)
        clear hds hdc hlk
        obtain ⟨T1, hT1⟩ : ∃ T1, setQ (tabK l1) k n = T1 := ⟨_, rfl⟩
        have HT1 := Lib.hid (fun c t => setR_snoc l1 k n c t)
        rw [hT1] at k32 HT1
        clear hT1
        have HE := Lib.hid (show entK k n s2 = (⟨k, n, (byteR s2).1, bs (strR (byteR s2).2 64).1⟩, if 3 < (byteR s2).1 then badR (strR (byteR s2).2 64).2 else (strR (byteR s2).2 64).2) by rw [entK])
        rw [HE.out] at HD
        have HBy := Lib.hid (fun w h => byte_any b s2 w h (by omega))
        have hbl := byteR_len s2
        obtain ⟨c, s3, hc⟩ : ∃ c s3, byteR s2 = (c, s3) := ⟨_, _, rfl⟩
        rw [hc] at HD HBy hbl
        clear hc HE
        dsimp only at HD HBy hbl
        have HSt := Lib.hid (fun w h => str_any b s3 64 (by decide) w h (by omega))
        obtain ⟨t, s4, ht⟩ : ∃ t s4, strR s3 64 = (t, s4) := ⟨_, _, rfl⟩
        have e64 : (64 : Int).toNat = 64 := rfl
        rw [e64, ht] at HSt
        rw [ht] at HD
        clear ht e64
        dsimp only at HD HSt
        go_wp2_with fail
        generalize w1.setCell ⟨w.heap.size + 1, k * 3, none⟩ (.int .u32 n) = W1 at *
        refine (HBy.out _ hr2).mono ?_
        rintro e w2 ⟨rfl, g2, hr3⟩
        have k33 := k32.grown g2 (by simp; omega)
        have k23 := k22.grown g2 (by simp; omega)
        have hg3 := gtrans hg2 g2
        clear hr2 k32 k22 hg2 g2 a0 f0 l31
        go_wp2_with fail
        refine (HSt.out _ hr3).mono ?_
        rintro e w3 ⟨rfl, g3, hr4⟩
        have k34 := k33.grown g3 (by simp; omega)
        have k24 := k23.grown g3 (by simp; omega)
        have hg4 := gtrans hg3 g3
        clear hr3 k33 k23 hg3 g3
        have a1 := (tab_cell hlt k34).2.1
        have a2 := (tab_cell hlt k34).2.2
        have f1 := k34.frozen (k * 3 + 1)
        have f2 := k34.frozen (k * 3 + 2)
        have l34 := k34.lt
        have k35 := tab_setr hlt k34 c (bs t)
        rw [HT1.out] at k35
        have k25 := (k24.other (a := ⟨w.heap.size + 1, k * 3 + 1, none⟩) (by simp) (.int .u8 c)).other (a := ⟨w.heap.size + 1, k * 3 + 2, none⟩) (by simp) (.string (bs t))
        have hr5 : Rdr _ b s4 := Blk.other (Blk.other hr4 (a := ⟨w.heap.size + 1, k * 3 + 1, none⟩) (by simpa using hne3) (.int .u8 c)) (a := ⟨w.heap.size + 1, k * 3 + 2, none⟩) (by simpa using hne3) (.string (bs t))
        have hg5 := gnew (j := k * 3 + 2) (gnew (j := k * 3 + 1) hg4 (show w.heap.size ≤ w.heap.size + 1 by omega) (.int .u8 c)) (show w.heap.size ≤ w.heap.size + 1 by omega) (.string (bs t))
        clear k34 k24 hr4 hg4
        by_cases h3 : 3 < c
        · have d3 : decide ((3 : Int) < (c : Int)) = true := decide_eq_true (by omega)
          rw [if_pos h3] at HD
          have HBd := Lib.hid (fun w h => bad_of b s4 w h)
          go_wp2_with fail
          refine (HBd.out _ hr5).mono ?_
          rintro e w4 ⟨rfl, g4, hr6⟩
          have k36 := k35.grown g4 (by simp; omega)
          have k26 := k25.grown g4 (by simp; omega)
          have hg6 := gtrans hg5 g4
          clear k35 k25 hg5 g4 a1 a2 f1 f2 l34
          go_wp2
          go_roundw
          case rel => exact ⟨k + 1, by omega, by go_num, by rw [HD.out]; exact hr6, by rw [HD.out]; exact k36, k26, hg6⟩
          case measure => simp [intOf]; omega
        · have d3 : decide ((3 : Int) < (c : Int)) = false := decide_eq_false (by omega)
          rw [if_neg h3] at HD
          go_wp2
          go_roundw
          case rel => exact ⟨k + 1, by omega, by go_num, by rw [HD.out]; exact hr5, by rw [HD.out]; exact k35, k25, hg5⟩
          case measure => simp [intOf]; omega
    · have hd : decide ((k : Int) < 4) = false := decide_eq_false (by omega)
      have hd' : decide (k < 4) = false := decide_eq_false (by omega)
      obtain rfl : k = 4 := by omega
      have HTK := Lib.hid (show takeK s = if (docK s 4).2.e = 0 then (docK s 4).1 else [] by rw [takeK])
      obtain ⟨d4, hd4⟩ : ∃ d4, docK s 4 = d4 := ⟨_, rfl⟩
      have HDK := Lib.hid hd4
      rw [hd4] at hr k3 HTK
      clear hd4
      obtain ⟨l1, s1⟩ := d4
      dsimp only at hr k3 HTK
      have hne2 : b ≠ w.heap.size := by omega
      go_wp2_with fail
      refine (err_of b s1 _ hr).mono ?_
      rintro e w' ⟨rfl, rfl⟩
      obtain ⟨T, hT⟩ : ∃ T, tabK l1 = T := ⟨_, rfl⟩
      have HT := Lib.hid hT
      rw [hT] at k3
      clear hT
      have r0 := k2.cell 0
      have r1 := k2.cell 1
      have r2 := k2.cell 2
      have r3 := k2.cell 3
      have r4 := k2.cell 4
      have r5 := k2.cell 5
      have r6 := k2.cell 6
      have r7 := k2.cell 7
      have r8 := k2.cell 8
      have r9 := k2.cell 9
      have r10 := k2.cell 10
      have r11 := k2.cell 11
      have f0 := k2.frozen 0
      have f1 := k2.frozen 1
      have f2 := k2.frozen 2
      have f3 := k2.frozen 3
      have f4 := k2.frozen 4
      have f5 := k2.frozen 5
      have f6 := k2.frozen 6
      have f7 := k2.frozen 7
      have f8 := k2.frozen 8
      have f9 := k2.frozen 9
      have f10 := k2.frozen 10
      have f11 := k2.frozen 11
      have l2 := k2.lt
      have F3 := k3.cell
      simp only [tabA] at F3
      have l3 := k3.lt
      by_cases he : s1.e = 0
      · have t1 : ((s1.e : Int) != 0) = false := by simp [he]
        have H := Lib.hid (show takeK s = l1 by rw [HTK.out, if_pos he])
        clear he
        have kf := put12_blk (T0 := fun _ => zero) T k2
        have gf := gnew12 g (Nat.le_refl _) T
        have rf := put12_rdr hr hne2 T
        go_wp2
        change bodyPost _ _ _ _ _ (put12 wr w.heap.size T)
        obtain ⟨Wf, hWf⟩ : ∃ Wf, put12 wr w.heap.size T = Wf := ⟨_, rfl⟩
        rw [hWf] at kf gf rf ⊢
        clear hWf
        have c0 := kf.cell 0
        have c1 := kf.cell 1
        have c2 := kf.cell 2
        have c3 := kf.cell 3
        have c4 := kf.cell 4
        have c5 := kf.cell 5
        have c6 := kf.cell 6
        have c7 := kf.cell 7
        have c8 := kf.cell 8
        have c9 := kf.cell 9
        have c10 := kf.cell 10
        have c11 := kf.cell 11
        refine bodyPost_ret (v := tab T) (by simp [results, Try.results17, go_sem, tab, tabA, c0, c1, c2, c3, c4, c5, c6, c7, c8, c9, c10, c11]) rfl ⟨by rw [H.out, HT.out], gf, by rw [HDK.out]; exact rf⟩
      · have t1 : ((s1.e : Int) != 0) = true := by simp [he]
        have H := Lib.hid (show takeK s = [] by rw [HTK.out, if_neg he])
        clear he
        have kf := put12_blk (T0 := fun _ => zero) (fun _ => zero) k2
        have gf := gnew12 g (Nat.le_refl _) (fun _ => zero)
        have rf := put12_rdr hr hne2 (fun _ => zero)
        go_wp2
        change bodyPost _ _ _ _ _ (put12 wr w.heap.size (fun _ => zero))
        obtain ⟨Wf, hWf⟩ : ∃ Wf, put12 wr w.heap.size (fun _ => zero) = Wf := ⟨_, rfl⟩
        rw [hWf] at kf gf rf ⊢
        clear hWf
        have c0 := kf.cell 0
        have c1 := kf.cell 1
        have c2 := kf.cell 2
        have c3 := kf.cell 3
        have c4 := kf.cell 4
        have c5 := kf.cell 5
        have c6 := kf.cell 6
        have c7 := kf.cell 7
        have c8 := kf.cell 8
        have c9 := kf.cell 9
        have c10 := kf.cell 10
        have c11 := kf.cell 11
        refine bodyPost_ret (v := tab (fun _ => zero)) (by simp [results, Try.results17, go_sem, tab, tabA, zero, c0, c1, c2, c3, c4, c5, c6, c7, c8, c9, c10, c11]) rfl ⟨by rw [H.out]; rfl, gf, by rw [HDK.out]; exact rf⟩
end Ses
end Go.Proofs.Ytidgeljkihamhaa
