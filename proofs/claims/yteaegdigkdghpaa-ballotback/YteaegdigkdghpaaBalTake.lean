/-
  Ballots read: the package's Take, the document's; a ballot's bytes by the document.
-/
import Derived.Test.YteaegdigkdghpaaBalRef
import Derived.Test.YteaegdigkdghpaaWireDocNum3
namespace Go.Proofs.Yteaegdigkdghpaa
open Go.RowKit Go.WideShapes
namespace Bal
open Wire
/-- What is read as a ballot, and the reader behind it. -/
def takeB (s : R) : B × R :=
  if (byteR (numR s).2).2.e ≠ 0 then (zero, (byteR (numR s).2).2) else
  if mayB ⟨(numR s).1, (byteR (numR s).2).1⟩ = true then (⟨(numR s).1, (byteR (numR s).2).1⟩, (byteR (numR s).2).2) else (zero, ⟨[], 4⟩)
theorem takeB_balB (b : B) (hb : b.ok) (hm : mayB b = true) (r : List UInt8) : takeB ⟨balB b ++ r, 0⟩ = (b, ⟨r, 0⟩) := by
  unfold takeB
  have h1 : numR ⟨balB b ++ r, 0⟩ = (b.n, ⟨UInt8.ofNat b.r :: r, 0⟩) := by unfold balB; rw [List.append_assoc]; exact numR_numB b.n hb.1 _
  have h2 : byteR ⟨UInt8.ofNat b.r :: r, 0⟩ = (b.r, ⟨r, 0⟩) := by rw [byte_some]; have := hb.2; rw [UInt8.toNat_ofNat', Nat.mod_eq_of_lt (by omega)]
  rw [h1]
  simp only [h2]
  rw [if_neg (by simp), if_pos (by simpa using hm)]
theorem takeB_len (s : R) : (takeB s).2.rest.length ≤ s.rest.length := by
  have h1 := numR_len s
  have h2 := byteR_len (numR s).2
  unfold takeB
  split
  · exact Nat.le_trans h2 h1
  · split
    · exact Nat.le_trans h2 h1
    · simp
set_option maxRecDepth 100000 in
set_option maxHeartbeats 4000000 in
theorem take_of (b : Nat) (s : R) (w : World) (h : Rdr w b s) (hl : s.rest.length < 1000000000) :
    Calls Try.prog 21 #[rp b] w (Reads w b (bv (takeB s).1) (takeB s).2) := by
  have hb := Blk.lt h
  have hl1 := numR_len s
  have HN := Lib.hid (fun w h => num_of b s w h (by omega))
  have HT := Lib.hid (show takeB s = if (byteR (numR s).2).2.e ≠ 0 then (zero, (byteR (numR s).2).2) else
    if mayB ⟨(numR s).1, (byteR (numR s).2).1⟩ = true then (⟨(numR s).1, (byteR (numR s).2).1⟩, (byteR (numR s).2).2) else (zero, ⟨[], 4⟩) from rfl)
  obtain ⟨x, s1, hn⟩ : ∃ x s1, numR s = (x, s1) := ⟨_, _, rfl⟩
  rw [hn] at HN HT hl1
  simp only at HT hl1
  clear hn
  have HB := Lib.hid (fun w h => byte_any b s1 w h (by omega))
  obtain ⟨c, s2, hc⟩ : ∃ c s2, byteR s1 = (c, s2) := ⟨_, _, rfl⟩
  rw [hc] at HB HT
  simp only at HT
  clear hc
  go_enter Try.func21, Try.ntmps21
  go_wp2_with fail
  refine (HN.out _ (Blk.alloc h _)).mono ?_
  rintro e w1 ⟨rfl, g1, hr1⟩
  have k2 := Blk.grown (b := w.heap.size) (Blk.new w (.cells #[.int .u64 0, .int .u8 0] 25)) g1 (by simp; omega)
  have G1 := gtrans (gbelow (below1 w (.cells #[.int .u64 0, .int .u8 0] 25))) g1
  clear g1
  go_wp2_with fail
  refine (HB.out _ hr1).mono ?_
  rintro e w2 ⟨rfl, g2, hr2⟩
  have k2b := Blk.grown k2 g2 (by simp; omega)
  have G2 := gtrans G1 g2
  have l2 := k2b.lt
  clear g2 k2 G1 hr1
  go_wp2_with fail
  refine (check_any ⟨x, c⟩ _).mono ?_
  rintro e w3 ⟨rfl, b3⟩
  have k2c := (k2b.alloc (.cells #[.int .u64 x, .int .u8 c] 25)).later b3
  have k3 := (Blk.new w2 (.cells #[.int .u64 x, .int .u8 c] 25)).later b3
  have hr3 : Rdr w3 b s2 := Blk.later (Blk.alloc hr2 _) b3
  have G3 := gtrans G2 (gtrans (gbelow (below1 w2 (.cells #[.int .u64 x, .int .u8 c] 25))) (gbelow b3))
  obtain ⟨n3, hn3⟩ : ∃ n3, w2.heap.size = n3 := ⟨_, rfl⟩
  rw [hn3] at k3 l2 ⊢
  clear b3 k2b G2 hr2 hn3
  have c0 := k3.cell 0
  have c1 := k3.cell 1
  have r0 := k2c.cell 0
  have r1 := k2c.cell 1
  have f0 := k2c.frozen 0
  have f1 := k2c.frozen 1
  have l3 := k2c.lt
  have G3s := G3.size
  have Z := Lib.hid (fun (v1 v2 : Value) => (⟨G3.os, G3.tape, G3.output, by simp; exact G3s, fun k hk hne => by rw [Below.heap_setCell _ _ _ _ (by simp; omega), Below.heap_setCell _ _ _ _ (by simp; omega)]; exact G3.block k hk hne⟩ : w.grownBy ((w3.setCell ⟨w.heap.size, 0, none⟩ v1).setCell ⟨w.heap.size, 1, none⟩ v2) (some b)))
  have Y := Lib.hid (fun (v1 v2 : Value) => (show Rdr ((w3.setCell ⟨w.heap.size, 0, none⟩ v1).setCell ⟨w.heap.size, 1, none⟩ v2) b s2 from Blk.other (Blk.other hr3 (a := ⟨w.heap.size, 0, none⟩) (by simp; omega) _) (a := ⟨w.heap.size, 1, none⟩) (by simp; omega) _))
  by_cases he : s2.e = 0
  · cases hm : mayB ⟨x, c⟩
    · have hchk : chkB ⟨x, c⟩ = 2 := by unfold chkB; rw [if_neg (by simp [hm])]
      have HT2 := Lib.hid (show takeB s = (zero, ⟨[], 4⟩) by rw [HT.out, if_neg (by simp [he]), if_neg (by simp [hm])])
      have hbad : badR s2 = ⟨[], 4⟩ := by unfold badR; rw [if_pos he]
      have HBD := Lib.hid hbad
      rw [hchk]
      clear hm he hchk hbad HT Y Z
      go_wp2_with fail
      refine (bad_of b s2 w3 hr3).mono ?_
      rintro e w4 ⟨rfl, g4, hr4⟩
      rw [HBD.out] at hr4
      have k2d := Blk.grown k2c g4 (by simp; omega)
      have G4 := gtrans G3 g4
      clear c0 c1 r0 r1 f0 f1 l3 k2c k3 hr3 G3 g4
      have r0 := k2d.cell 0
      have r1 := k2d.cell 1
      have f0 := k2d.frozen 0
      have f1 := k2d.frozen 1
      have l3 := k2d.lt
      go_wp2_with fail
      refine (err_of b _ w4 hr4).mono ?_
      rintro e w' ⟨rfl, rfl⟩
      go_wp2
      refine bodyPost_ret (v := .agg #[.int .u64 0, .int .u8 0]) (by simp [results, Try.results21, go_sem, r0, r1]) rfl ⟨by rw [HT2.out]; rfl, ?_, ?_⟩
      · exact ⟨G4.os, G4.tape, G4.output, by simp; exact G4.size, fun k hk hne => by rw [Below.heap_setCell _ _ _ _ (by simp; omega), Below.heap_setCell _ _ _ _ (by simp; omega)]; exact G4.block k hk hne⟩
      · rw [HT2.out]; exact Blk.other (Blk.other hr4 (a := ⟨w.heap.size, 0, none⟩) (by simp; omega) _) (a := ⟨w.heap.size, 1, none⟩) (by simp; omega) _
    · have hchk : chkB ⟨x, c⟩ = 0 := by unfold chkB; rw [if_pos hm]
      have HT2 := Lib.hid (show takeB s = (⟨x, c⟩, s2) by rw [HT.out, if_neg (by simp [he]), if_pos hm])
      have t0 : ((s2.e : Int) != 0) = false := by rw [he]; rfl
      rw [hchk]
      clear hm he hchk HT
      go_wp2_with fail
      refine (err_of b _ w3 hr3).mono ?_
      rintro e w' ⟨rfl, rfl⟩
      go_wp2
      refine bodyPost_ret (v := bv ⟨x, c⟩) (by simp [results, Try.results21, go_sem, r0, r1]) rfl ⟨by rw [HT2.out], Z.out _ _, by rw [HT2.out]; exact Y.out _ _⟩
  · have HT2 := Lib.hid (show takeB s = (zero, s2) by rw [HT.out, if_pos he])
    have t0 : ((s2.e : Int) != 0) = true := by simp; omega
    have hbad : badR s2 = s2 := by unfold badR; rw [if_neg he]
    have HBD := Lib.hid hbad
    clear he hbad HT
    cases hm : mayB ⟨x, c⟩
    · have hchk : chkB ⟨x, c⟩ = 2 := by unfold chkB; rw [if_neg (by simp [hm])]
      rw [hchk]
      clear hm hchk Y Z
      go_wp2_with fail
      refine (bad_of b s2 w3 hr3).mono ?_
      rintro e w4 ⟨rfl, g4, hr4⟩
      rw [HBD.out] at hr4
      have k2d := Blk.grown k2c g4 (by simp; omega)
      have G4 := gtrans G3 g4
      clear c0 c1 r0 r1 f0 f1 l3 k2c k3 hr3 G3 g4
      have r0 := k2d.cell 0
      have r1 := k2d.cell 1
      have f0 := k2d.frozen 0
      have f1 := k2d.frozen 1
      have l3 := k2d.lt
      go_wp2_with fail
      refine (err_of b _ w4 hr4).mono ?_
      rintro e w' ⟨rfl, rfl⟩
      go_wp2
      refine bodyPost_ret (v := .agg #[.int .u64 0, .int .u8 0]) (by simp [results, Try.results21, go_sem, r0, r1]) rfl ⟨by rw [HT2.out]; rfl, ?_, ?_⟩
      · exact ⟨G4.os, G4.tape, G4.output, by simp; exact G4.size, fun k hk hne => by rw [Below.heap_setCell _ _ _ _ (by simp; omega), Below.heap_setCell _ _ _ _ (by simp; omega)]; exact G4.block k hk hne⟩
      · rw [HT2.out]; exact Blk.other (Blk.other hr4 (a := ⟨w.heap.size, 0, none⟩) (by simp; omega) _) (a := ⟨w.heap.size, 1, none⟩) (by simp; omega) _
    · have hchk : chkB ⟨x, c⟩ = 0 := by unfold chkB; rw [if_pos hm]
      rw [hchk]
      clear hm hchk
      go_wp2_with fail
      refine (err_of b _ w3 hr3).mono ?_
      rintro e w' ⟨rfl, rfl⟩
      go_wp2
      refine bodyPost_ret (v := .agg #[.int .u64 0, .int .u8 0]) (by simp [results, Try.results21, go_sem, r0, r1]) rfl ⟨by rw [HT2.out]; rfl, Z.out _ _, by rw [HT2.out]; exact Y.out _ _⟩
theorem take_nil (w : World) : Calls Try.prog 21 #[.pointer none] w fun e w' => e = .returned (bv zero) ∧ Below w.heap.size w w' := by
  go_enter Try.func21, Try.ntmps21
  go_wp2_with fail
  refine (num_nil _).mono ?_
  rintro e w1 ⟨rfl, rfl⟩
  go_wp2_with fail
  refine (byte_nil _).mono ?_
  rintro e w1 ⟨rfl, rfl⟩
  go_wp2_with fail
  refine (check_any ⟨0, 0⟩ _).mono ?_
  rintro e w3 ⟨rfl, b3⟩
  have k2 := Blk.later (b := w.heap.size) (Blk.alloc (Blk.new _ _) _) b3
  have B3 := (below2 w _ _).trans (b3.mono (by simp; omega))
  rw [show chkB ⟨0, 0⟩ = 0 from rfl]
  clear b3
  have r0 := k2.cell 0
  have r1 := k2.cell 1
  have f0 := k2.frozen 0
  have f1 := k2.frozen 1
  have l3 := k2.lt
  go_wp2_with fail
  refine (err_nil _).mono ?_
  rintro e w1 ⟨rfl, rfl⟩
  go_wp2
  refine bodyPost_ret (v := .agg #[.int .u64 0, .int .u8 0]) (by simp [results, Try.results21, go_sem, r0, r1]) rfl ⟨rfl, ?_⟩
  exact (B3.setCell (p := ⟨w.heap.size, 0, none⟩) (Nat.le_refl _) _).setCell (p := ⟨w.heap.size, 1, none⟩) (Nat.le_refl _) _
end Bal
end Go.Proofs.Yteaegdigkdghpaa
