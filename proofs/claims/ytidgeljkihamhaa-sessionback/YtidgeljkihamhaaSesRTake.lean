/-
  Tables of sessions, read: the document's Take.
-/
import Derived.Test.YtidgeljkihamhaaSesTake
import Derived.Test.YtidgeljkihamhaaWireDocMore
import Derived.Test.YtidgeljkihamhaaWireDocBad
namespace Go.Proofs.Ytidgeljkihamhaa
open Go.RowKit Go.WideShapes
namespace Ses
open Wire
/-- What stands while the document's Take runs: its reader, its result's cell, its list. -/
def St (w wr : World) (s : R) (v : Value) (l : List K) : Prop :=
  Blk wr w.heap.size (.cells #[.string (bs s.rest), .int .i64 s.e] 49) ∧ Blk wr (w.heap.size + 1) (.cells #[.string ⟨#[]⟩, .int .i64 0] 49) ∧ wr.ownsRow (w.heap.size + 2) 34 4 v l.length (l.flatMap keptV) ∧ Below w.heap.size w wr
theorem St.later {w wr wr' : World} {s : R} {v : Value} {l : List K} (h : St w wr s v l) (hb : Below wr.heap.size wr wr') : St w wr' s v l :=
  ⟨h.1.later hb, h.2.1.later hb, ownsRow_below h.2.2.1 hb, Below.later' h.2.2.2 hb⟩
theorem St.alloc {w wr : World} {s : R} {v : Value} {l : List K} (h : St w wr s v l) (o : Obj) : St w (wr.alloc o) s v l := h.later (below1 wr o)
theorem St.put {w wr : World} {s : R} {v : Value} {l : List K} (h : St w wr s v l) (s' : R) : St w ((wr.setCell ⟨w.heap.size, 0, none⟩ (.string (bs s'.rest))).setCell ⟨w.heap.size, 1, none⟩ (.int .i64 s'.e)) s' v l := by
  obtain ⟨h1, h2, h3, h4⟩ := h
  have hne : some w.heap.size ≠ v.ownBlock := fun e => by have := (h3.lt _ e.symm).1; omega
  exact ⟨Blk.set (Blk.set h1 0 _) 1 _, (h2.other (a := ⟨w.heap.size, 0, none⟩) (by simp) _).other (a := ⟨w.heap.size, 1, none⟩) (by simp) _, ownsRow_blkset (ownsRow_blkset h3 (a := ⟨w.heap.size, 0, none⟩) hne _) (a := ⟨w.heap.size, 1, none⟩) hne _,
    (h4.setCell (p := ⟨w.heap.size, 0, none⟩) (Nat.le_refl _) _).setCell (p := ⟨w.heap.size, 1, none⟩) (Nat.le_refl _) _⟩
theorem St.other {w wr : World} {s : R} {v : Value} {l : List K} (h : St w wr s v l) (n j : Nat) (hn : w.heap.size + 2 ≤ n) (hne : some n ≠ v.ownBlock) (u : Value) : St w (wr.setCell ⟨n, j, none⟩ u) s v l :=
  ⟨h.1.other (a := ⟨n, j, none⟩) (by dsimp only; omega) _, h.2.1.other (a := ⟨n, j, none⟩) (by dsimp only; omega) _, ownsRow_blkset h.2.2.1 (a := ⟨n, j, none⟩) hne _, h.2.2.2.setCell (p := ⟨n, j, none⟩) (by dsimp only; omega) _⟩
theorem St.room {w wr : World} {s : R} {v : Value} {l : List K} (h : St w wr s v l) : w.heap.size + 2 ≤ wr.heap.size := h.2.1.lt
theorem St.out {w wr : World} {s : R} {v : Value} {l : List K} (h : St w wr s v l) : some wr.heap.size ≠ v.ownBlock := fun e => by have := (h.2.2.1.lt _ e.symm).2; omega
theorem docK_count (s : R) : ∀ k, (docK s k).1.length ≤ k
  | 0 => by simp [docK]
  | k + 1 => by
    have h := docK_count s k
    unfold docK
    split
    · exact Nat.le_succ_of_le h
    · simp; omega
set_option maxRecDepth 100000 in
set_option maxHeartbeats 2000000 in
theorem rtake_any (s : R) (hl : s.rest.length ≤ 1000000) (w : World) :
    Calls Try.prog 18 #[rv s] w fun e w' => ∃ v, e = .returned (.tuple #[v, rv (docK s 4).2]) ∧ RdT keptV w' v (takeK s) ∧ Below w.heap.size w w' := by
  have hz : docK s 0 = ([], s) := rfl
  have hDL := docK_len s
  have hDN := docK_count s
  have hDS : ∀ k, docK s (k + 1) = if (belowR (docK s k).2 4294967296).1 = 0 then ((docK s k).1, (belowR (docK s k).2 4294967296).2) else ((docK s k).1 ++ [(entK k (belowR (docK s k).2 4294967296).1 (belowR (docK s k).2 4294967296).2).1], (entK k (belowR (docK s k).2 4294967296).1 (belowR (docK s k).2 4294967296).2).2) := by intro k; rw [docK]
  have hTK : takeK s = if (docK s 4).2.e = 0 then (docK s 4).1 else [] := by rw [takeK]
  obtain ⟨tk, htk⟩ : ∃ tk, takeK s = tk := ⟨_, rfl⟩
  rw [htk] at hTK ⊢
  clear htk
  obtain ⟨D, hD⟩ : ∃ D : Nat → List K × R, docK s = D := ⟨_, rfl⟩
  rw [hD] at hz hDL hDN hTK ⊢
  simp only [hD] at hDS
  clear hD
  have HZ := Lib.hid hz
  have HDL := Lib.hid hDL
  have HDN := Lib.hid hDN
  have HDS := Lib.hid hDS
  have HTK := Lib.hid hTK
  clear hz hDL hDN hDS hTK
  unfold rv
  go_enter Try.func18, Try.ntmps18
  go_wp2_with fail
  go_loopw [4, 5] (fun v i wr => ∃ k : Nat, k ≤ 4 ∧ i = .int .i64 k ∧ St w wr (D k).2 v (D k).1) (fun _ i _ => 4 - (intOf i).toNat)
  case atStart => exact ⟨0, by omega, rfl, by rw [HZ.out]; exact ⟨Blk.alloc (Blk.new _ _) _, Blk.newAt _ (by simp), ⟨rfl, .inl ⟨rfl, rfl⟩⟩, below2 _ _ _⟩⟩
  case round =>
    obtain ⟨k, hk, rfl, hS⟩ := hrel
    by_cases hlt : k < 4
    · have hd : decide ((k : Int) < 4) = true := decide_eq_true (by omega)
      have hw8 : IntKind.u8.wrap (k : Int) = (k : Int) := by rw [IntKind.wrap_u8]; omega
      have hds := HDS.out k
      have hdl := HDL.out k
      have hdn := HDN.out k
      obtain ⟨dk, hdk⟩ : ∃ dk, D k = dk := ⟨_, rfl⟩
      rw [hdk] at hS hds hdl hdn
      clear hdk
      obtain ⟨l1, s1⟩ := dk
      dsimp only at hS hds hdl hdn
      have HB := Lib.hid (dbelow_any s1 4294967296 (by omega))
      have hnl := belowR_lt s1 4294967296 (by decide)
      have hsl := belowR_len' s1 4294967296
      obtain ⟨n, s2, hn⟩ : ∃ n s2, belowR s1 4294967296 = (n, s2) := ⟨_, _, rfl⟩
      rw [hn] at HB hds hnl hsl
      clear hn
      unfold rv at HB
      dsimp only at HB hds hnl hsl
      have hw32 : IntKind.u32.wrap (n : Int) = (n : Int) := by rw [IntKind.wrap_u32]; omega
      have F1 := hS.1.cell
      go_wp2_with fail
      refine (HB.out _).mono ?_
      rintro e w1 ⟨rfl, b1⟩
      have hS1 := hS.later b1
      have z1 := hS1.room
      have z1' : w.heap.size < w1.heap.size := by omega
      clear F1 hS HB b1
      have F1 := hS1.1.cell
      have G1 := hS1.1.frozen
      have hS2 := (hS1.put s2).alloc (.cells #[.string (bs s2.rest), .int .i64 s2.e] 49)
      by_cases h0 : n = 0
      · subst h0
        rw [if_pos rfl] at hds
        have HD := Lib.hid hds
        clear hds
        go_wp2
        go_roundw
        case rel => exact ⟨k + 1, by omega, by go_num, by rw [HD.out]; exact hS2⟩
        case measure => simp [intOf]; omega
      · rw [if_neg h0] at hds
        have HD := Lib.hid hds
        have h0' : ((n : Int) == 0) = false := beq_eq_false_iff_ne.2 (by omega)
        clear hds
        have HE := Lib.hid (show entK k n s2 = (⟨k, n, (byteR s2).1, bs (strR (byteR s2).2 64).1⟩, if 3 < (byteR s2).1 then badR (strR (byteR s2).2 64).2 else (strR (byteR s2).2 64).2) by rw [entK])
        rw [HE.out] at HD
        have HBy := Lib.hid (dbyte_any s2 (by omega))
        have hbl := byteR_len s2
        obtain ⟨c, s3, hc⟩ : ∃ c s3, byteR s2 = (c, s3) := ⟨_, _, rfl⟩
        rw [hc] at HD HBy hbl
        clear hc HE
        unfold rv at HBy
        dsimp only at HD HBy hbl
        have HSt := Lib.hid (dstr_any s3 64 (by decide) (by omega))
        have hstl := strR_len' s3 64
        obtain ⟨t, s4, ht⟩ : ∃ t s4, strR s3 64 = (t, s4) := ⟨_, _, rfl⟩
        have e64 : (64 : Int).toNat = 64 := rfl
        rw [e64, ht] at HSt
        rw [ht] at HD hstl
        clear ht e64
        unfold rv at HSt
        dsimp only at HD HSt hstl
        go_wp2_with fail
        have hS3 := hS2.alloc (.cells #[.int .u8 k, .int .u32 n, .int .u8 0, .string ⟨#[]⟩] 34)
        have k8 := Blk.newAt (w := (((w1.setCell ⟨w.heap.size, 0, none⟩ (.string (bs s2.rest))).setCell ⟨w.heap.size, 1, none⟩ (.int .i64 s2.e)).alloc (.cells #[.string (bs s2.rest), .int .i64 s2.e] 49))) (b := w1.heap.size + 1) (.cells #[.int .u8 k, .int .u32 n, .int .u8 0, .string ⟨#[]⟩] 34) (by simp)
        have o8 : some (w1.heap.size + 1) ≠ Value.ownBlock u4 := fun e => by have := (hS1.2.2.1.lt _ e.symm).2; omega
        clear hS1 hS2 F1 G1
        generalize ((((w1.setCell ⟨w.heap.size, 0, none⟩ (.string (bs s2.rest))).setCell ⟨w.heap.size, 1, none⟩ (.int .i64 s2.e)).alloc (.cells #[.string (bs s2.rest), .int .i64 s2.e] 49))).alloc (.cells #[.int .u8 k, .int .u32 n, .int .u8 0, .string ⟨#[]⟩] 34) = W2 at *
        generalize hn8 : w1.heap.size + 1 = n8 at *
        have z8 : w.heap.size + 2 ≤ n8 := by omega
        refine (HBy.out _).mono ?_
        rintro e w3 ⟨rfl, b3⟩
        have hS4 := hS3.later b3
        have k84 := k8.later b3
        clear hS3 k8 HBy b3
        have F1 := hS4.1.cell
        have G1 := hS4.1.frozen
        have l1' := hS4.1.lt
        have F8 := k84.cell
        have G8 := k84.frozen
        have l8 := k84.lt
        have hS5 := (hS4.other n8 2 z8 o8 (.int .u8 c)).put s3
        have k85 := (((k84.set 2 (.int .u8 c)).other (a := ⟨w.heap.size, 0, none⟩) (by dsimp only; omega) (.string (bs s3.rest))).other (a := ⟨w.heap.size, 1, none⟩) (by dsimp only; omega) (.int .i64 s3.e))
        have n18 : w.heap.size ≠ n8 := by omega
        have n81 : n8 ≠ w.heap.size := by omega
        go_wp2_with fail
        clear hS4 k84 F1 G1 l1' F8 G8 l8
        generalize ((w3.setCell ⟨n8, 2, none⟩ (.int .u8 c)).setCell ⟨w.heap.size, 0, none⟩ (.string (bs s3.rest))).setCell ⟨w.heap.size, 1, none⟩ (.int .i64 s3.e) = W4 at *
        refine (HSt.out _).mono ?_
        rintro e w5 ⟨rfl, b5⟩
        have hS6 := hS5.later b5
        have k86 := k85.later b5
        clear hS5 k85 HSt b5
        have F1 := hS6.1.cell
        have G1 := hS6.1.frozen
        have l1' := hS6.1.lt
        have F8 := k86.cell
        have G8 := k86.frozen
        have l8 := k86.lt
        simp only [List.setIfInBounds_toArray, List.set_cons_zero, List.set_cons_succ] at F8
        have hS7 := (hS6.other n8 3 z8 o8 (.string (bs t))).put s4
        have k87 := (((k86.set 3 (.string (bs t))).other (a := ⟨w.heap.size, 0, none⟩) (by dsimp only; omega) (.string (bs s4.rest))).other (a := ⟨w.heap.size, 1, none⟩) (by dsimp only; omega) (.int .i64 s4.e))
        have k87' : Blk _ n8 (.cells (kA ⟨k, n, c, bs t⟩) 34) := k87
        clear k87
        by_cases h3 : 3 < c
        · have d3 : decide ((3 : Int) < (c : Int)) = true := decide_eq_true (by omega)
          rw [if_pos h3] at HD
          have HBd := Lib.hid (dbad_any s4)
          obtain ⟨s5, hs5⟩ : ∃ s5, badR s4 = s5 := ⟨_, rfl⟩
          rw [hs5] at HBd HD
          clear hs5
          unfold rv at HBd
          go_wp2_with fail
          clear hS6 k86 F1 G1 l1' F8 G8 l8
          generalize ((w5.setCell ⟨n8, 3, none⟩ (.string (bs t))).setCell ⟨w.heap.size, 0, none⟩ (.string (bs s4.rest))).setCell ⟨w.heap.size, 1, none⟩ (.int .i64 s4.e) = W6 at *
          refine (HBd.out _).mono ?_
          rintro e w7 ⟨rfl, b7⟩
          have hS8 := hS7.later b7
          have k88 := k87'.later b7
          clear hS7 k87' HBd b7
          have F1 := hS8.1.cell
          have G1 := hS8.1.frozen
          have l1' := hS8.1.lt
          have F8 := k88.cell
          have l8 := k88.lt
          have hS9 := hS8.put s5
          have z9 := hS9.room
          go_wp2_with (at_builtin; go_loud (refine appSt rfl _ _ 22 rfl (w.heap.size + 2) 34 (.agg #[.int .u8 0, .int .u32 0, .int .u8 0, .string ⟨#[]⟩]) 4 32 infoK Try.underlying22 rfl (by decide) _ (kA ⟨k, n, c, bs t⟩) _ rfl (by intro u hu; simp at hu; rcases hu with rfl | rfl | rfl | rfl <;> rfl) u4 l1.length (l1.flatMap keptV) hS9.2.2.1 rfl _ (by simp) rfl (by omega) (by omega) z9 ?_; intro vb wb hob gb))
          go_roundw
          case rel => exact ⟨k + 1, by omega, by go_num, by rw [HD.out]; exact ⟨gb.blk hS9.1 (fun e => by have := (hS9.2.2.1.lt _ e.symm).1; omega), gb.blk hS9.2.1 (fun e => by have := (hS9.2.2.1.lt _ e.symm).1; omega), by rw [List.length_append, List.flatMap_append]; exact hob, gb.below hS9.2.2.2 (by omega) (fun c hc => by have := (hS9.2.2.1.lt _ hc).1; omega)⟩⟩
          case measure => simp [intOf]; omega
        · have d3 : decide ((3 : Int) < (c : Int)) = false := decide_eq_false (by omega)
          rw [if_neg h3] at HD
          have z9 := hS7.room
          go_wp2_with (at_builtin; go_loud (refine appSt rfl _ _ 22 rfl (w.heap.size + 2) 34 (.agg #[.int .u8 0, .int .u32 0, .int .u8 0, .string ⟨#[]⟩]) 4 32 infoK Try.underlying22 rfl (by decide) _ (kA ⟨k, n, c, bs t⟩) _ rfl (by intro u hu; simp at hu; rcases hu with rfl | rfl | rfl | rfl <;> rfl) u4 l1.length (l1.flatMap keptV) hS7.2.2.1 rfl _ (by simp) rfl (by omega) (by omega) z9 ?_; intro vb wb hob gb))
          go_roundw
          case rel => exact ⟨k + 1, by omega, by go_num, by rw [HD.out]; exact ⟨gb.blk hS7.1 (fun e => by have := (hS7.2.2.1.lt _ e.symm).1; omega), gb.blk hS7.2.1 (fun e => by have := (hS7.2.2.1.lt _ e.symm).1; omega), by rw [List.length_append, List.flatMap_append]; exact hob, gb.below hS7.2.2.2 (by omega) (fun c hc => by have := (hS7.2.2.1.lt _ hc).1; omega)⟩⟩
          case measure => simp [intOf]; omega
    · have hd : decide ((k : Int) < 4) = false := decide_eq_false (by omega)
      have hd' : decide (k < 4) = false := decide_eq_false (by omega)
      obtain rfl : k = 4 := by omega
      obtain ⟨d4, hd4⟩ : ∃ d4, D 4 = d4 := ⟨_, rfl⟩
      have HDK := Lib.hid hd4
      rw [hd4] at hS HTK
      clear hd4
      obtain ⟨l1, s1⟩ := d4
      dsimp only at hS HTK
      have F1 := hS.1.cell
      have l1' := hS.1.lt
      have hSd : St w wr.drew s1 u4 l1 := ⟨hS.1.drew, hS.2.1.drew, hS.2.2.1, hS.2.2.2.drew⟩
      have e0 := hSd.1.cell 0
      have e1 := hSd.1.cell 1
      have r0 := hS.2.1.cell 0
      have r1 := hS.2.1.cell 1
      have g0 := hS.2.1.frozen 0
      have g1 := hS.2.1.frozen 1
      have l3 := hS.2.1.lt
      have kE : Blk ((wr.drew.setCell ⟨w.heap.size + 1, 0, none⟩ (.string (bs s1.rest))).setCell ⟨w.heap.size + 1, 1, none⟩ (.int .i64 s1.e)) (w.heap.size + 1) (.cells #[.string (bs s1.rest), .int .i64 s1.e] 49) := Blk.set (Blk.set hSd.2.1 0 _) 1 _
      have kS : Blk ((wr.drew.setCell ⟨w.heap.size + 1, 0, none⟩ (.string (bs s1.rest))).setCell ⟨w.heap.size + 1, 1, none⟩ (.int .i64 s1.e)) w.heap.size (.cells #[.string (bs s1.rest), .int .i64 s1.e] 49) := (hSd.1.other (a := ⟨w.heap.size + 1, 0, none⟩) (by dsimp only; omega) _).other (a := ⟨w.heap.size + 1, 1, none⟩) (by dsimp only; omega) _
      have hBE := (hSd.2.2.2.setCell (p := ⟨w.heap.size + 1, 0, none⟩) (by simp) (.string (bs s1.rest))).setCell (p := ⟨w.heap.size + 1, 1, none⟩) (by simp) (.int .i64 s1.e)
      have hne : some (w.heap.size + 1) ≠ Value.ownBlock u4 := fun e => by have := (hSd.2.2.1.lt _ e.symm).1; omega
      have owE := ownsRow_blkset (ownsRow_blkset hSd.2.2.1 (a := ⟨w.heap.size + 1, 0, none⟩) hne (.string (bs s1.rest))) (a := ⟨w.heap.size + 1, 1, none⟩) hne (.int .i64 s1.e)
      by_cases he : s1.e = 0
      · have t1 : ((s1.e : Int) != 0) = false := by simp [he]
        have H := Lib.hid (show tk = l1 by rw [HTK.out, if_pos he])
        clear he
        go_wp2_with fail
        refine wp_region_ord (fun w' => w'.cell? ⟨w.heap.size, 0, none⟩ = some (.string (bs s1.rest)) ∧ w'.cell? ⟨w.heap.size, 1, none⟩ = some (.int .i64 s1.e)) (0 :: 1 :: 2 :: 3 :: []) [3] (by kernel_rfl) (by kernel_rfl) (by intro c d v a w h; cases d <;> exact h) ⟨e0, e1⟩ ?_
        repeat (first
          | (refine wpOrd_take (v := ?_) rfl rfl ?_ ?_ ?_; rotate_left; rfl; (· intro w' hSw; (try dsimp only at hSw); go_simp <;> with_reducible rfl); simp only [Act.put, List.setIfInBounds_toArray, List.set_cons_zero, List.set_cons_succ])
          | (refine wpOrd_skip rfl rfl ?_ ?_; rfl; simp only [Act.put, List.setIfInBounds_toArray, List.set_cons_zero, List.set_cons_succ]))
        refine wpOrd_eff rfl rfl (fun K hK => ?_)
        go_wp2_with fail
        obtain ⟨WE, hWE⟩ : ∃ WE, (wr.drew.setCell ⟨w.heap.size + 1, 0, none⟩ (.string (bs s1.rest))).setCell ⟨w.heap.size + 1, 1, none⟩ (.int .i64 s1.e) = WE := ⟨_, rfl⟩
        have hWE' : ((wr.setCell ⟨w.heap.size + 1, 0, none⟩ (.string (bs s1.rest))).setCell ⟨w.heap.size + 1, 1, none⟩ (.int .i64 s1.e)).drew = WE := hWE
        rw [hWE] at kE kS hBE owE
        first | rw [hWE'] | rw [hWE]
        clear hWE hWE'
        refine hK.out _ _ ⟨kS.cell 0, kS.cell 1⟩ ?_
        clear hK K
        refine wpOrd_nil ?_
        have c0 := kE.cell 0
        have c1 := kE.cell 1
        go_wp2_with fail
        refine bodyPost_ret (v := .tuple #[u4, rv s1]) (by simp [results, Try.results18, go_sem, rv, c0, c1]) rfl ⟨u4, by rw [HDK.out]; rfl, by rw [H.out]; exact RdT.owns owE, hBE⟩
      · have t1 : ((s1.e : Int) != 0) = true := by simp [he]
        have H := Lib.hid (show tk = [] by rw [HTK.out, if_neg he])
        clear he
        go_wp2_with fail
        refine wp_region_ord (fun w' => w'.cell? ⟨w.heap.size, 0, none⟩ = some (.string (bs s1.rest)) ∧ w'.cell? ⟨w.heap.size, 1, none⟩ = some (.int .i64 s1.e)) (0 :: 1 :: 2 :: []) [2] (by kernel_rfl) (by kernel_rfl) (by intro c d v a w h; cases d <;> exact h) ⟨e0, e1⟩ ?_
        repeat (first
          | (refine wpOrd_take (v := ?_) rfl rfl ?_ ?_ ?_; rotate_left; rfl; (· intro w' hSw; (try dsimp only at hSw); go_simp <;> with_reducible rfl); simp only [Act.put, List.setIfInBounds_toArray, List.set_cons_zero, List.set_cons_succ])
          | (refine wpOrd_skip rfl rfl ?_ ?_; rfl; simp only [Act.put, List.setIfInBounds_toArray, List.set_cons_zero, List.set_cons_succ]))
        refine wpOrd_eff rfl rfl (fun K hK => ?_)
        go_wp2_with fail
        obtain ⟨WE, hWE⟩ : ∃ WE, (wr.drew.setCell ⟨w.heap.size + 1, 0, none⟩ (.string (bs s1.rest))).setCell ⟨w.heap.size + 1, 1, none⟩ (.int .i64 s1.e) = WE := ⟨_, rfl⟩
        have hWE' : ((wr.setCell ⟨w.heap.size + 1, 0, none⟩ (.string (bs s1.rest))).setCell ⟨w.heap.size + 1, 1, none⟩ (.int .i64 s1.e)).drew = WE := hWE
        rw [hWE] at kE kS hBE owE
        first | rw [hWE'] | rw [hWE]
        clear hWE hWE'
        refine hK.out _ _ ⟨kS.cell 0, kS.cell 1⟩ ?_
        clear hK K
        refine wpOrd_nil ?_
        have c0 := kE.cell 0
        have c1 := kE.cell 1
        go_wp2_with fail
        refine bodyPost_ret (v := .tuple #[.slice none 0 0, rv s1]) (by simp [results, Try.results18, go_sem, rv, c0, c1]) rfl ⟨.slice none 0 0, by rw [HDK.out]; rfl, by rw [H.out]; exact rdT_nil _ _, hBE⟩
end Ses
end Go.Proofs.Ytidgeljkihamhaa
