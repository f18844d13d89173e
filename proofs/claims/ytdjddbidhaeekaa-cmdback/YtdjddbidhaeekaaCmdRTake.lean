/-
  The document's Take: what is read as a command, and what is left.
-/
import Derived.Test.YtdjddbidhaeekaaCmdTake
import Derived.Test.YtdjddbidhaeekaaCmdMay
import Derived.Test.YtdjddbidhaeekaaWireDocMore
import Derived.Test.YtdjddbidhaeekaaWireDocBad
import Derived.Test.YtdjddbidhaeekaaOrd
import Derived.Deep.DeepCutAuto
namespace Go.Proofs.Ytdjddbidhaeekaa
open Go.RowKit Go.WideShapes
namespace Cm
open Wire
theorem st7_below {w w1 : World} {B g : Nat} (x : Cm) (h : Below B w w1) (hg : B ≤ g) : Below B w (st7 w1 g x) := ((((((h.setCell (p := ⟨g, 0, none⟩) hg _).setCell (p := ⟨g, 1, none⟩) hg _).setCell (p := ⟨g, 2, none⟩) hg _).setCell (p := ⟨g, 3, none⟩) hg _).setCell (p := ⟨g, 4, none⟩) hg _).setCell (p := ⟨g, 5, none⟩) hg _).setCell (p := ⟨g, 6, none⟩) hg _
set_option maxRecDepth 100000 in
set_option maxHeartbeats 2000000 in
theorem rtake_c (s : R) (hl : s.rest.length ≤ 1000000) (w : World) :
    Calls Try.prog 19 #[rv s] w fun e w' => e = .returned (.tuple #[(takeC s).1.val, rv (takeC s).2]) ∧ Below w.heap.size w w' := by
  have l0 := byteR_len s
  have o0 := byteR_lt s
  have H0 := Lib.hid (fun w => dbyte_any s (by omega) w)
  obtain ⟨c, s1, e0⟩ : ∃ c s1, byteR s = (c, s1) := ⟨_, _, rfl⟩
  rw [e0] at l0 o0 H0
  dsimp only at l0 o0 H0
  have l1 := belowR_len' s1 4294967296
  have o1 := belowR_lt s1 4294967296 (by decide)
  have H1 := Lib.hid (fun w => dbelow_any s1 4294967296 (by omega) w)
  obtain ⟨n, s2, e1⟩ : ∃ n s2, belowR s1 4294967296 = (n, s2) := ⟨_, _, rfl⟩
  rw [e1] at l1 o1 H1
  dsimp only at l1 o1 H1
  have l2 := byteR_len s2
  have o2 := byteR_lt s2
  have H2 := Lib.hid (fun w => dbyte_any s2 (by omega) w)
  obtain ⟨k, s3, e2⟩ : ∃ k s3, byteR s2 = (k, s3) := ⟨_, _, rfl⟩
  rw [e2] at l2 o2 H2
  dsimp only at l2 o2 H2
  have l3 := strR_len' s3 16
  have o3 := strR_le s3 16
  have H3 := Lib.hid (fun w => dstr_any s3 16 (by decide) (by omega) w)
  rw [show (16 : Int).toNat = 16 from rfl] at H3
  obtain ⟨K, s4, e3⟩ : ∃ K s4, strR s3 16 = (K, s4) := ⟨_, _, rfl⟩
  rw [e3] at l3 o3 H3
  dsimp only at l3 o3 H3
  have l4 := strR_len' s4 64
  have o4 := strR_le s4 64
  have H4 := Lib.hid (fun w => dstr_any s4 64 (by decide) (by omega) w)
  rw [show (64 : Int).toNat = 64 from rfl] at H4
  obtain ⟨O, s5, e4⟩ : ∃ O s5, strR s4 64 = (O, s5) := ⟨_, _, rfl⟩
  rw [e4] at l4 o4 H4
  dsimp only at l4 o4 H4
  have l5 := strR_len' s5 64
  have o5 := strR_le s5 64
  have H5 := Lib.hid (fun w => dstr_any s5 64 (by decide) (by omega) w)
  rw [show (64 : Int).toNat = 64 from rfl] at H5
  obtain ⟨N, s6, e5⟩ : ∃ N s6, strR s5 64 = (N, s6) := ⟨_, _, rfl⟩
  rw [e5] at l5 o5 H5
  dsimp only at l5 o5 H5
  have l6 := byteR_len s6
  have o6 := byteR_lt s6
  have H6 := Lib.hid (fun w => dbyte_any s6 (by omega) w)
  obtain ⟨t, s7, e6⟩ : ∃ t s7, byteR s6 = (t, s7) := ⟨_, _, rfl⟩
  rw [e6] at l6 o6 H6
  dsimp only at l6 o6 H6
  have hraw : rawC s = (⟨c, n, k, bs K, bs O, bs N, t⟩, s7) := by simp only [rawC, e0, e1, e2, e3, e4, e5, e6]
  clear e0 e1 e2 e3 e4 e5 e6
  have HRAW := Lib.hid hraw
  clear hraw
  have HM := Lib.hid (fun w => may_any (⟨c, n, k, bs K, bs O, bs N, t⟩ : Cm) w)
  have hw32 : IntKind.u32.wrap (n : Int) = (n : Int) := by rw [IntKind.wrap_u32]; omega
  have HBD := Lib.hid (fun w => dbad_any s7 w)
  unfold rv at *
  go_enter Try.func19, Try.ntmps19
  go_wp2_with fail
  have W0e : ∃ W, (((w.alloc (.cells #[.string (bs s.rest), .int .i64 s.e] 44)).alloc (.cells #[.int .u8 0, .int .u32 0, .int .u8 0, .string ⟨#[]⟩, .string ⟨#[]⟩, .string ⟨#[]⟩, .int .u8 0] 25)).alloc (.cells #[.string ⟨#[]⟩, .int .i64 0] 44)).alloc (.cells #[.int .u8 0, .int .u32 0, .int .u8 0, .string ⟨#[]⟩, .string ⟨#[]⟩, .string ⟨#[]⟩, .int .u8 0] 25) = W := ⟨_, rfl⟩
  obtain ⟨W, hW⟩ := W0e
  have K1 : Blk W w.heap.size (.cells #[.string (bs s.rest), .int .i64 s.e] 44) := by rw [← hW]; exact (((Blk.new w _).alloc _).alloc _).alloc _
  have K2 : Blk W (w.heap.size + 1) (.cells #[.int .u8 0, .int .u32 0, .int .u8 0, .string ⟨#[]⟩, .string ⟨#[]⟩, .string ⟨#[]⟩, .int .u8 0] 25) := by rw [← hW]; exact ((Blk.newAt _ (by simp)).alloc _).alloc _
  have K3 : Blk W (w.heap.size + 1 + 1) (.cells #[.string ⟨#[]⟩, .int .i64 0] 44) := by rw [← hW]; exact (Blk.newAt _ (by simp)).alloc _
  have K4 : Blk W (w.heap.size + 1 + 1 + 1) (.cells #[.int .u8 0, .int .u32 0, .int .u8 0, .string ⟨#[]⟩, .string ⟨#[]⟩, .string ⟨#[]⟩, .int .u8 0] 25) := by rw [← hW]; exact Blk.newAt _ (by simp)
  have BB : Below w.heap.size w W := by rw [← hW]; exact below4 w _ _ _ _
  rw [hW]
  clear hW
  refine (H0.out _).mono ?_
  rintro e w0 ⟨rfl, b0⟩
  have K1 := K1.later b0
  have K2 := K2.later b0
  have K3 := K3.later b0
  have K4 := K4.later b0
  have BB := Below.later BB b0 BB.size
  have z1 := K1.cell 0
  have z2 := K1.cell 1
  have z3 := K1.frozen 0
  have z4 := K1.frozen 1
  have z5 := K4.cell 0
  have z6 := K4.frozen 0
  have K4s := K4.set 0 (.int .u8 c)
  have K1n := ((K1.other (a := ⟨w.heap.size + 1 + 1 + 1, 0, none⟩) (by dsimp only; omega) (.int .u8 c)).set 0 (.string (bs s1.rest))).set 1 (.int .i64 s1.e)
  have K2n := ((K2.other (a := ⟨w.heap.size + 1 + 1 + 1, 0, none⟩) (by dsimp only; omega) (.int .u8 c)).other (a := ⟨w.heap.size, 0, none⟩) (by dsimp only; omega) (.string (bs s1.rest))).other (a := ⟨w.heap.size, 1, none⟩) (by dsimp only; omega) (.int .i64 s1.e)
  have K3n := ((K3.other (a := ⟨w.heap.size + 1 + 1 + 1, 0, none⟩) (by dsimp only; omega) (.int .u8 c)).other (a := ⟨w.heap.size, 0, none⟩) (by dsimp only; omega) (.string (bs s1.rest))).other (a := ⟨w.heap.size, 1, none⟩) (by dsimp only; omega) (.int .i64 s1.e)
  have K4n := ((K4.set 0 (.int .u8 c)).other (a := ⟨w.heap.size, 0, none⟩) (by dsimp only; omega) (.string (bs s1.rest))).other (a := ⟨w.heap.size, 1, none⟩) (by dsimp only; omega) (.int .i64 s1.e)
  have BBn := ((BB.setCell (p := ⟨w.heap.size + 1 + 1 + 1, 0, none⟩) (by dsimp only; omega) (.int .u8 c)).setCell (p := ⟨w.heap.size, 0, none⟩) (by dsimp only; omega) (.string (bs s1.rest))).setCell (p := ⟨w.heap.size, 1, none⟩) (by dsimp only; omega) (.int .i64 s1.e)
  clear K4s
  go_wp2_with fail
  obtain ⟨V1, hV⟩ : ∃ V, ((w0.setCell ⟨w.heap.size + 1 + 1 + 1, 0, none⟩ (.int .u8 c)).setCell ⟨w.heap.size, 0, none⟩ (.string (bs s1.rest))).setCell ⟨w.heap.size, 1, none⟩ (.int .i64 s1.e) = V := ⟨_, rfl⟩
  rw [hV] at K1n K2n K3n K4n BBn ⊢
  clear hV K1 K2 K3 K4 BB z1 z2 z3 z4 z5 z6
  have K1 : Blk V1 w.heap.size (.cells #[.string (bs s1.rest), .int .i64 s1.e] 44) := K1n
  have K2 := K2n
  have K3 := K3n
  have K4 : Blk V1 (w.heap.size + 1 + 1 + 1) (.cells #[.int .u8 c, .int .u32 0, .int .u8 0, .string ⟨#[]⟩, .string ⟨#[]⟩, .string ⟨#[]⟩, .int .u8 0] 25) := K4n
  have BB := BBn
  clear K1n K2n K3n K4n BBn
  refine (H1.out _).mono ?_
  rintro e w1 ⟨rfl, b1⟩
  have K1 := K1.later b1
  have K2 := K2.later b1
  have K3 := K3.later b1
  have K4 := K4.later b1
  have BB := Below.later BB b1 BB.size
  have z1 := K1.cell 0
  have z2 := K1.cell 1
  have z3 := K1.frozen 0
  have z4 := K1.frozen 1
  have z5 := K4.cell 1
  have z6 := K4.frozen 1
  have K4s := K4.set 1 (.int .u32 n)
  have K1n := ((K1.set 0 (.string (bs s2.rest))).set 1 (.int .i64 s2.e)).other (a := ⟨w.heap.size + 1 + 1 + 1, 1, none⟩) (by dsimp only; omega) (.int .u32 n)
  have K2n := ((K2.other (a := ⟨w.heap.size, 0, none⟩) (by dsimp only; omega) (.string (bs s2.rest))).other (a := ⟨w.heap.size, 1, none⟩) (by dsimp only; omega) (.int .i64 s2.e)).other (a := ⟨w.heap.size + 1 + 1 + 1, 1, none⟩) (by dsimp only; omega) (.int .u32 n)
  have K3n := ((K3.other (a := ⟨w.heap.size, 0, none⟩) (by dsimp only; omega) (.string (bs s2.rest))).other (a := ⟨w.heap.size, 1, none⟩) (by dsimp only; omega) (.int .i64 s2.e)).other (a := ⟨w.heap.size + 1 + 1 + 1, 1, none⟩) (by dsimp only; omega) (.int .u32 n)
  have K4n := (((K4.other (a := ⟨w.heap.size, 0, none⟩) (by dsimp only; omega) (.string (bs s2.rest))).other (a := ⟨w.heap.size, 1, none⟩) (by dsimp only; omega) (.int .i64 s2.e)).set 1 (.int .u32 n))
  have BBn := ((BB.setCell (p := ⟨w.heap.size, 0, none⟩) (by dsimp only; omega) (.string (bs s2.rest))).setCell (p := ⟨w.heap.size, 1, none⟩) (by dsimp only; omega) (.int .i64 s2.e)).setCell (p := ⟨w.heap.size + 1 + 1 + 1, 1, none⟩) (by dsimp only; omega) (.int .u32 n)
  clear K4s
  go_wp2_with fail
  obtain ⟨V2, hV⟩ : ∃ V, ((w1.setCell ⟨w.heap.size, 0, none⟩ (.string (bs s2.rest))).setCell ⟨w.heap.size, 1, none⟩ (.int .i64 s2.e)).setCell ⟨w.heap.size + 1 + 1 + 1, 1, none⟩ (.int .u32 n) = V := ⟨_, rfl⟩
  rw [hV] at K1n K2n K3n K4n BBn ⊢
  clear hV K1 K2 K3 K4 BB z1 z2 z3 z4 z5 z6
  have K1 : Blk V2 w.heap.size (.cells #[.string (bs s2.rest), .int .i64 s2.e] 44) := K1n
  have K2 := K2n
  have K3 := K3n
  have K4 : Blk V2 (w.heap.size + 1 + 1 + 1) (.cells #[.int .u8 c, .int .u32 n, .int .u8 0, .string ⟨#[]⟩, .string ⟨#[]⟩, .string ⟨#[]⟩, .int .u8 0] 25) := K4n
  have BB := BBn
  clear K1n K2n K3n K4n BBn
  refine (H2.out _).mono ?_
  rintro e w2 ⟨rfl, b2⟩
  have K1 := K1.later b2
  have K2 := K2.later b2
  have K3 := K3.later b2
  have K4 := K4.later b2
  have BB := Below.later BB b2 BB.size
  have z1 := K1.cell 0
  have z2 := K1.cell 1
  have z3 := K1.frozen 0
  have z4 := K1.frozen 1
  have z5 := K4.cell 2
  have z6 := K4.frozen 2
  have K4s := K4.set 2 (.int .u8 k)
  have K1n := ((K1.other (a := ⟨w.heap.size + 1 + 1 + 1, 2, none⟩) (by dsimp only; omega) (.int .u8 k)).set 0 (.string (bs s3.rest))).set 1 (.int .i64 s3.e)
  have K2n := ((K2.other (a := ⟨w.heap.size + 1 + 1 + 1, 2, none⟩) (by dsimp only; omega) (.int .u8 k)).other (a := ⟨w.heap.size, 0, none⟩) (by dsimp only; omega) (.string (bs s3.rest))).other (a := ⟨w.heap.size, 1, none⟩) (by dsimp only; omega) (.int .i64 s3.e)
  have K3n := ((K3.other (a := ⟨w.heap.size + 1 + 1 + 1, 2, none⟩) (by dsimp only; omega) (.int .u8 k)).other (a := ⟨w.heap.size, 0, none⟩) (by dsimp only; omega) (.string (bs s3.rest))).other (a := ⟨w.heap.size, 1, none⟩) (by dsimp only; omega) (.int .i64 s3.e)
  have K4n := ((K4.set 2 (.int .u8 k)).other (a := ⟨w.heap.size, 0, none⟩) (by dsimp only; omega) (.string (bs s3.rest))).other (a := ⟨w.heap.size, 1, none⟩) (by dsimp only; omega) (.int .i64 s3.e)
  have BBn := ((BB.setCell (p := ⟨w.heap.size + 1 + 1 + 1, 2, none⟩) (by dsimp only; omega) (.int .u8 k)).setCell (p := ⟨w.heap.size, 0, none⟩) (by dsimp only; omega) (.string (bs s3.rest))).setCell (p := ⟨w.heap.size, 1, none⟩) (by dsimp only; omega) (.int .i64 s3.e)
  clear K4s
  go_wp2_with fail
  obtain ⟨V3, hV⟩ : ∃ V, ((w2.setCell ⟨w.heap.size + 1 + 1 + 1, 2, none⟩ (.int .u8 k)).setCell ⟨w.heap.size, 0, none⟩ (.string (bs s3.rest))).setCell ⟨w.heap.size, 1, none⟩ (.int .i64 s3.e) = V := ⟨_, rfl⟩
  rw [hV] at K1n K2n K3n K4n BBn ⊢
  clear hV K1 K2 K3 K4 BB z1 z2 z3 z4 z5 z6
  have K1 : Blk V3 w.heap.size (.cells #[.string (bs s3.rest), .int .i64 s3.e] 44) := K1n
  have K2 := K2n
  have K3 := K3n
  have K4 : Blk V3 (w.heap.size + 1 + 1 + 1) (.cells #[.int .u8 c, .int .u32 n, .int .u8 k, .string ⟨#[]⟩, .string ⟨#[]⟩, .string ⟨#[]⟩, .int .u8 0] 25) := K4n
  have BB := BBn
  clear K1n K2n K3n K4n BBn
  refine (H3.out _).mono ?_
  rintro e w3 ⟨rfl, b3⟩
  have K1 := K1.later b3
  have K2 := K2.later b3
  have K3 := K3.later b3
  have K4 := K4.later b3
  have BB := Below.later BB b3 BB.size
  have z1 := K1.cell 0
  have z2 := K1.cell 1
  have z3 := K1.frozen 0
  have z4 := K1.frozen 1
  have z5 := K4.cell 3
  have z6 := K4.frozen 3
  have K4s := K4.set 3 (.string (bs K))
  have K1n := ((K1.other (a := ⟨w.heap.size + 1 + 1 + 1, 3, none⟩) (by dsimp only; omega) (.string (bs K))).set 0 (.string (bs s4.rest))).set 1 (.int .i64 s4.e)
  have K2n := ((K2.other (a := ⟨w.heap.size + 1 + 1 + 1, 3, none⟩) (by dsimp only; omega) (.string (bs K))).other (a := ⟨w.heap.size, 0, none⟩) (by dsimp only; omega) (.string (bs s4.rest))).other (a := ⟨w.heap.size, 1, none⟩) (by dsimp only; omega) (.int .i64 s4.e)
  have K3n := ((K3.other (a := ⟨w.heap.size + 1 + 1 + 1, 3, none⟩) (by dsimp only; omega) (.string (bs K))).other (a := ⟨w.heap.size, 0, none⟩) (by dsimp only; omega) (.string (bs s4.rest))).other (a := ⟨w.heap.size, 1, none⟩) (by dsimp only; omega) (.int .i64 s4.e)
  have K4n := ((K4.set 3 (.string (bs K))).other (a := ⟨w.heap.size, 0, none⟩) (by dsimp only; omega) (.string (bs s4.rest))).other (a := ⟨w.heap.size, 1, none⟩) (by dsimp only; omega) (.int .i64 s4.e)
  have BBn := ((BB.setCell (p := ⟨w.heap.size + 1 + 1 + 1, 3, none⟩) (by dsimp only; omega) (.string (bs K))).setCell (p := ⟨w.heap.size, 0, none⟩) (by dsimp only; omega) (.string (bs s4.rest))).setCell (p := ⟨w.heap.size, 1, none⟩) (by dsimp only; omega) (.int .i64 s4.e)
  clear K4s
  go_wp2_with fail
  obtain ⟨V4, hV⟩ : ∃ V, ((w3.setCell ⟨w.heap.size + 1 + 1 + 1, 3, none⟩ (.string (bs K))).setCell ⟨w.heap.size, 0, none⟩ (.string (bs s4.rest))).setCell ⟨w.heap.size, 1, none⟩ (.int .i64 s4.e) = V := ⟨_, rfl⟩
  rw [hV] at K1n K2n K3n K4n BBn ⊢
  clear hV K1 K2 K3 K4 BB z1 z2 z3 z4 z5 z6
  have K1 : Blk V4 w.heap.size (.cells #[.string (bs s4.rest), .int .i64 s4.e] 44) := K1n
  have K2 := K2n
  have K3 := K3n
  have K4 : Blk V4 (w.heap.size + 1 + 1 + 1) (.cells #[.int .u8 c, .int .u32 n, .int .u8 k, .string (bs K), .string ⟨#[]⟩, .string ⟨#[]⟩, .int .u8 0] 25) := K4n
  have BB := BBn
  clear K1n K2n K3n K4n BBn
  refine (H4.out _).mono ?_
  rintro e w4 ⟨rfl, b4⟩
  have K1 := K1.later b4
  have K2 := K2.later b4
  have K3 := K3.later b4
  have K4 := K4.later b4
  have BB := Below.later BB b4 BB.size
  have z1 := K1.cell 0
  have z2 := K1.cell 1
  have z3 := K1.frozen 0
  have z4 := K1.frozen 1
  have z5 := K4.cell 4
  have z6 := K4.frozen 4
  have K4s := K4.set 4 (.string (bs O))
  have K1n := ((K1.other (a := ⟨w.heap.size + 1 + 1 + 1, 4, none⟩) (by dsimp only; omega) (.string (bs O))).set 0 (.string (bs s5.rest))).set 1 (.int .i64 s5.e)
  have K2n := ((K2.other (a := ⟨w.heap.size + 1 + 1 + 1, 4, none⟩) (by dsimp only; omega) (.string (bs O))).other (a := ⟨w.heap.size, 0, none⟩) (by dsimp only; omega) (.string (bs s5.rest))).other (a := ⟨w.heap.size, 1, none⟩) (by dsimp only; omega) (.int .i64 s5.e)
  have K3n := ((K3.other (a := ⟨w.heap.size + 1 + 1 + 1, 4, none⟩) (by dsimp only; omega) (.string (bs O))).other (a := ⟨w.heap.size, 0, none⟩) (by dsimp only; omega) (.string (bs s5.rest))).other (a := ⟨w.heap.size, 1, none⟩) (by dsimp only; omega) (.int .i64 s5.e)
  have K4n := ((K4.set 4 (.string (bs O))).other (a := ⟨w.heap.size, 0, none⟩) (by dsimp only; omega) (.string (bs s5.rest))).other (a := ⟨w.heap.size, 1, none⟩) (by dsimp only; omega) (.int .i64 s5.e)
  have BBn := ((BB.setCell (p := ⟨w.heap.size + 1 + 1 + 1, 4, none⟩) (by dsimp only; omega) (.string (bs O))).setCell (p := ⟨w.heap.size, 0, none⟩) (by dsimp only; omega) (.string (bs s5.rest))).setCell (p := ⟨w.heap.size, 1, none⟩) (by dsimp only; omega) (.int .i64 s5.e)
  clear K4s
  go_wp2_with fail
  obtain ⟨V5, hV⟩ : ∃ V, ((w4.setCell ⟨w.heap.size + 1 + 1 + 1, 4, none⟩ (.string (bs O))).setCell ⟨w.heap.size, 0, none⟩ (.string (bs s5.rest))).setCell ⟨w.heap.size, 1, none⟩ (.int .i64 s5.e) = V := ⟨_, rfl⟩
  rw [hV] at K1n K2n K3n K4n BBn ⊢
  clear hV K1 K2 K3 K4 BB z1 z2 z3 z4 z5 z6
  have K1 : Blk V5 w.heap.size (.cells #[.string (bs s5.rest), .int .i64 s5.e] 44) := K1n
  have K2 := K2n
  have K3 := K3n
  have K4 : Blk V5 (w.heap.size + 1 + 1 + 1) (.cells #[.int .u8 c, .int .u32 n, .int .u8 k, .string (bs K), .string (bs O), .string ⟨#[]⟩, .int .u8 0] 25) := K4n
  have BB := BBn
  clear K1n K2n K3n K4n BBn
  refine (H5.out _).mono ?_
  rintro e w5 ⟨rfl, b5⟩
  have K1 := K1.later b5
  have K2 := K2.later b5
  have K3 := K3.later b5
  have K4 := K4.later b5
  have BB := Below.later BB b5 BB.size
  have z1 := K1.cell 0
  have z2 := K1.cell 1
  have z3 := K1.frozen 0
  have z4 := K1.frozen 1
  have z5 := K4.cell 5
  have z6 := K4.frozen 5
  have K4s := K4.set 5 (.string (bs N))
  have K1n := ((K1.other (a := ⟨w.heap.size + 1 + 1 + 1, 5, none⟩) (by dsimp only; omega) (.string (bs N))).set 0 (.string (bs s6.rest))).set 1 (.int .i64 s6.e)
  have K2n := ((K2.other (a := ⟨w.heap.size + 1 + 1 + 1, 5, none⟩) (by dsimp only; omega) (.string (bs N))).other (a := ⟨w.heap.size, 0, none⟩) (by dsimp only; omega) (.string (bs s6.rest))).other (a := ⟨w.heap.size, 1, none⟩) (by dsimp only; omega) (.int .i64 s6.e)
  have K3n := ((K3.other (a := ⟨w.heap.size + 1 + 1 + 1, 5, none⟩) (by dsimp only; omega) (.string (bs N))).other (a := ⟨w.heap.size, 0, none⟩) (by dsimp only; omega) (.string (bs s6.rest))).other (a := ⟨w.heap.size, 1, none⟩) (by dsimp only; omega) (.int .i64 s6.e)
  have K4n := ((K4.set 5 (.string (bs N))).other (a := ⟨w.heap.size, 0, none⟩) (by dsimp only; omega) (.string (bs s6.rest))).other (a := ⟨w.heap.size, 1, none⟩) (by dsimp only; omega) (.int .i64 s6.e)
  have BBn := ((BB.setCell (p := ⟨w.heap.size + 1 + 1 + 1, 5, none⟩) (by dsimp only; omega) (.string (bs N))).setCell (p := ⟨w.heap.size, 0, none⟩) (by dsimp only; omega) (.string (bs s6.rest))).setCell (p := ⟨w.heap.size, 1, none⟩) (by dsimp only; omega) (.int .i64 s6.e)
  clear K4s
  go_wp2_with fail
  obtain ⟨V6, hV⟩ : ∃ V, ((w5.setCell ⟨w.heap.size + 1 + 1 + 1, 5, none⟩ (.string (bs N))).setCell ⟨w.heap.size, 0, none⟩ (.string (bs s6.rest))).setCell ⟨w.heap.size, 1, none⟩ (.int .i64 s6.e) = V := ⟨_, rfl⟩
  rw [hV] at K1n K2n K3n K4n BBn ⊢
  clear hV K1 K2 K3 K4 BB z1 z2 z3 z4 z5 z6
  have K1 : Blk V6 w.heap.size (.cells #[.string (bs s6.rest), .int .i64 s6.e] 44) := K1n
  have K2 := K2n
  have K3 := K3n
  have K4 : Blk V6 (w.heap.size + 1 + 1 + 1) (.cells #[.int .u8 c, .int .u32 n, .int .u8 k, .string (bs K), .string (bs O), .string (bs N), .int .u8 0] 25) := K4n
  have BB := BBn
  clear K1n K2n K3n K4n BBn
  refine (H6.out _).mono ?_
  rintro e w6 ⟨rfl, b6⟩
  have K1 := K1.later b6
  have K2 := K2.later b6
  have K3 := K3.later b6
  have K4 := K4.later b6
  have BB := Below.later BB b6 BB.size
  have z1 := K1.cell 0
  have z2 := K1.cell 1
  have z3 := K1.frozen 0
  have z4 := K1.frozen 1
  have z5 := K4.cell 6
  have z6 := K4.frozen 6
  have K4s := K4.set 6 (.int .u8 t)
  have x0 := K4.cell 0
  have x1 := K4.cell 1
  have x2 := K4.cell 2
  have x3 := K4.cell 3
  have x4 := K4.cell 4
  have x5 := K4.cell 5
  have K1n := ((K1.other (a := ⟨w.heap.size + 1 + 1 + 1, 6, none⟩) (by dsimp only; omega) (.int .u8 t)).set 0 (.string (bs s7.rest))).set 1 (.int .i64 s7.e)
  have K2n := ((K2.other (a := ⟨w.heap.size + 1 + 1 + 1, 6, none⟩) (by dsimp only; omega) (.int .u8 t)).other (a := ⟨w.heap.size, 0, none⟩) (by dsimp only; omega) (.string (bs s7.rest))).other (a := ⟨w.heap.size, 1, none⟩) (by dsimp only; omega) (.int .i64 s7.e)
  have K3n := ((K3.other (a := ⟨w.heap.size + 1 + 1 + 1, 6, none⟩) (by dsimp only; omega) (.int .u8 t)).other (a := ⟨w.heap.size, 0, none⟩) (by dsimp only; omega) (.string (bs s7.rest))).other (a := ⟨w.heap.size, 1, none⟩) (by dsimp only; omega) (.int .i64 s7.e)
  have K4n := ((K4.set 6 (.int .u8 t)).other (a := ⟨w.heap.size, 0, none⟩) (by dsimp only; omega) (.string (bs s7.rest))).other (a := ⟨w.heap.size, 1, none⟩) (by dsimp only; omega) (.int .i64 s7.e)
  have BBn := ((BB.setCell (p := ⟨w.heap.size + 1 + 1 + 1, 6, none⟩) (by dsimp only; omega) (.int .u8 t)).setCell (p := ⟨w.heap.size, 0, none⟩) (by dsimp only; omega) (.string (bs s7.rest))).setCell (p := ⟨w.heap.size, 1, none⟩) (by dsimp only; omega) (.int .i64 s7.e)
  clear K4s
  go_wp2_with fail
  obtain ⟨V7, hV⟩ : ∃ V, ((w6.setCell ⟨w.heap.size + 1 + 1 + 1, 6, none⟩ (.int .u8 t)).setCell ⟨w.heap.size, 0, none⟩ (.string (bs s7.rest))).setCell ⟨w.heap.size, 1, none⟩ (.int .i64 s7.e) = V := ⟨_, rfl⟩
  rw [hV] at K1n K2n K3n K4n BBn ⊢
  clear hV K1 K2 K3 K4 BB z1 z2 z3 z4 z5 z6 x0 x1 x2 x3 x4 x5
  have K1 : Blk V7 w.heap.size (.cells #[.string (bs s7.rest), .int .i64 s7.e] 44) := K1n
  have K2 := K2n
  have K3 := K3n
  have K4 : Blk V7 (w.heap.size + 1 + 1 + 1) (.cells #[.int .u8 c, .int .u32 n, .int .u8 k, .string (bs K), .string (bs O), .string (bs N), .int .u8 t] 25) := K4n
  have BB := BBn
  clear K1n K2n K3n K4n BBn
  refine (HM.out _).mono ?_
  rintro e w8 ⟨rfl, b8⟩
  have K1 := K1.later b8
  have K2 := K2.later b8
  have K3 := K3.later b8
  have K4 := K4.later b8
  have BB := Below.later BB b8 BB.size
  have hraw := HRAW.out
  clear b8
  by_cases hm : ((⟨c, n, k, bs K, bs O, bs N, t⟩ : Cm)).may
  · rw [decide_eq_true hm]
    have hlf : leftC s = s7 := by unfold leftC; rw [hraw]; exact if_pos hm
    obtain ⟨s8, hs8⟩ : ∃ s8, s7 = s8 := ⟨_, rfl⟩
    rw [hs8] at hlf K1
    clear hm hs8 HBD
    have p0 := K1.cell 0
    have p1 := K1.cell 1
    by_cases he : s8.e = 0
    · have HV := Lib.hid (show takeC s = ((⟨c, n, k, bs K, bs O, bs N, t⟩ : Cm), s8) by unfold takeC; rw [hlf, hraw]; simp only [he, if_true])
      have q1 : ((s8.e : Int) != 0) = false := by simp [he]
      clear he
      go_wp2_with fail
      obtain ⟨Vo, hVo⟩ : ∃ Vo : World, Vo = w8 := ⟨_, rfl⟩
      refine wp_region_ord (fun w' => Blk w' w.heap.size (.cells #[.string (bs s8.rest), .int .i64 s8.e] 44) ∧ Blk w' (w.heap.size + 1 + 1 + 1) (.cells #[.int .u8 c, .int .u32 n, .int .u8 k, .string (bs K), .string (bs O), .string (bs N), .int .u8 t] 25)) (0 :: 1 :: 2 :: 3 :: []) [2, 3] (by kernel_rfl) (by kernel_rfl) (by intro c d v a w h; cases d <;> exact h) ⟨K1.drew, K4.drew⟩ ?_
      have F1 := fun (w' : World) (j : Nat) (h : Blk w' w.heap.size (.cells #[.string (bs s8.rest), .int .i64 s8.e] 44) ∧ Blk w' (w.heap.size + 1 + 1 + 1) (.cells #[.int .u8 c, .int .u32 n, .int .u8 k, .string (bs K), .string (bs O), .string (bs N), .int .u8 t] 25)) => h.1.cell j
      have F4 := fun (w' : World) (j : Nat) (h : Blk w' w.heap.size (.cells #[.string (bs s8.rest), .int .i64 s8.e] 44) ∧ Blk w' (w.heap.size + 1 + 1 + 1) (.cells #[.int .u8 c, .int .u32 n, .int .u8 k, .string (bs K), .string (bs O), .string (bs N), .int .u8 t] 25)) => h.2.cell j
      have K1 := K1.drew
      have K2 := K2.drew
      have K3 := K3.drew
      have K4 := K4.drew
      have BB := BB.drew
      obtain ⟨Vd, hVd⟩ : ∃ Vd, w8.drew = Vd := ⟨_, rfl⟩
      rw [hVd] at K1 K2 K3 K4 BB ⊢
      clear hVd hVo
      repeat (first
        | (refine wpOrd_take (v := ?_) rfl rfl ?_ ?_ ?_; rotate_left; rfl; (· intro w' hSw; (try dsimp only at hSw); go_simp <;> with_reducible rfl); simp only [Act.put, List.setIfInBounds_toArray, List.set_cons_zero, List.set_cons_succ])
        | (refine wpOrd_skip rfl rfl ?_ ?_; rfl; simp only [Act.put, List.setIfInBounds_toArray, List.set_cons_zero, List.set_cons_succ]))
      refine wpOrd_eff rfl rfl (fun J hK => ?_)
      have fz0 := K2.frozen 0
      have cz0 := K2.cell 0
      have fz1 := K2.frozen 1
      have cz1 := K2.cell 1
      have fz2 := K2.frozen 2
      have cz2 := K2.cell 2
      have fz3 := K2.frozen 3
      have cz3 := K2.cell 3
      have fz4 := K2.frozen 4
      have cz4 := K2.cell 4
      have fz5 := K2.frozen 5
      have cz5 := K2.cell 5
      have fz6 := K2.frozen 6
      have cz6 := K2.cell 6
      have K1n := st7_other (⟨c, n, k, bs K, bs O, bs N, t⟩ : Cm) K1 (show w.heap.size ≠ w.heap.size + 1 by omega)
      have K4n := st7_other (⟨c, n, k, bs K, bs O, bs N, t⟩ : Cm) K4 (show w.heap.size + 1 + 1 + 1 ≠ w.heap.size + 1 by omega)
      have K3n := st7_other (⟨c, n, k, bs K, bs O, bs N, t⟩ : Cm) K3 (show w.heap.size + 1 + 1 ≠ w.heap.size + 1 by omega)
      have K2n := st7_blk (⟨c, n, k, bs K, bs O, bs N, t⟩ : Cm) K2
      have BBn := st7_below (⟨c, n, k, bs K, bs O, bs N, t⟩ : Cm) BB (show w.heap.size ≤ w.heap.size + 1 by omega)
      go_wp2_with fail
      refine hK.out _ (st7 Vd (w.heap.size + 1) (⟨c, n, k, bs K, bs O, bs N, t⟩ : Cm)) ⟨K1n, K4n⟩ ?_
      clear hK J
      clear fz0 cz0 fz1 cz1 fz2 cz2 fz3 cz3 fz4 cz4 fz5 cz5 fz6 cz6
      obtain ⟨Va, hVa⟩ : ∃ Va, st7 Vd (w.heap.size + 1) (⟨c, n, k, bs K, bs O, bs N, t⟩ : Cm) = Va := ⟨_, rfl⟩
      rw [hVa] at K1n K2n K3n K4n BBn ⊢
      clear hVa K1 K2 K3 K4 BB
      have K1 := K1n
      have K2 := K2n
      have K3 := K3n
      have K4 := K4n
      have BB := BBn
      clear K1n K2n K3n K4n BBn
      repeat (first
        | (refine wpOrd_take (v := ?_) rfl rfl ?_ ?_ ?_; rotate_left; rfl; (· intro w' hSw; (try dsimp only at hSw); go_simp <;> with_reducible rfl); simp only [Act.put, List.setIfInBounds_toArray, List.set_cons_zero, List.set_cons_succ])
        | (refine wpOrd_skip rfl rfl ?_ ?_; rfl; simp only [Act.put, List.setIfInBounds_toArray, List.set_cons_zero, List.set_cons_succ]))
      refine wpOrd_eff rfl rfl (fun J hK => ?_)
      have fy0 := K3.frozen 0
      have cy0 := K3.cell 0
      have fy1 := K3.frozen 1
      have cy1 := K3.cell 1
      have K1n := (K1.other (a := ⟨w.heap.size + 1 + 1, 0, none⟩) (by dsimp only; omega) (.string (bs s8.rest))).other (a := ⟨w.heap.size + 1 + 1, 1, none⟩) (by dsimp only; omega) (.int .i64 s8.e)
      have K4n := (K4.other (a := ⟨w.heap.size + 1 + 1, 0, none⟩) (by dsimp only; omega) (.string (bs s8.rest))).other (a := ⟨w.heap.size + 1 + 1, 1, none⟩) (by dsimp only; omega) (.int .i64 s8.e)
      have K2n := (K2.other (a := ⟨w.heap.size + 1 + 1, 0, none⟩) (by dsimp only; omega) (.string (bs s8.rest))).other (a := ⟨w.heap.size + 1 + 1, 1, none⟩) (by dsimp only; omega) (.int .i64 s8.e)
      have K3n := (K3.set 0 (.string (bs s8.rest))).set 1 (.int .i64 s8.e)
      have BBn := (BB.setCell (p := ⟨w.heap.size + 1 + 1, 0, none⟩) (by dsimp only; omega) (.string (bs s8.rest))).setCell (p := ⟨w.heap.size + 1 + 1, 1, none⟩) (by dsimp only; omega) (.int .i64 s8.e)
      go_wp2_with fail
      refine hK.out _ ((Va.setCell ⟨w.heap.size + 1 + 1, 0, none⟩ (.string (bs s8.rest))).setCell ⟨w.heap.size + 1 + 1, 1, none⟩ (.int .i64 s8.e)) ⟨K1n, K4n⟩ ?_
      clear hK J
      clear fy0 fy1 cy0 cy1
      obtain ⟨Vb, hVb⟩ : ∃ Vb, ((Va.setCell ⟨w.heap.size + 1 + 1, 0, none⟩ (.string (bs s8.rest))).setCell ⟨w.heap.size + 1 + 1, 1, none⟩ (.int .i64 s8.e)) = Vb := ⟨_, rfl⟩
      rw [hVb] at K1n K2n K3n K4n BBn ⊢
      clear hVb K1 K2 K3 K4 BB
      have K1 := K1n
      have K2 := K2n
      have K3 := K3n
      have K4 := K4n
      have BB := BBn
      clear K1n K2n K3n K4n BBn
      repeat (first
        | (refine wpOrd_take (v := ?_) rfl rfl ?_ ?_ ?_; rotate_left; rfl; (· intro w' hSw; (try dsimp only at hSw); go_simp <;> with_reducible rfl); simp only [Act.put, List.setIfInBounds_toArray, List.set_cons_zero, List.set_cons_succ])
        | (refine wpOrd_skip rfl rfl ?_ ?_; rfl; simp only [Act.put, List.setIfInBounds_toArray, List.set_cons_zero, List.set_cons_succ]))
      refine wpOrd_nil ?_
      have y0 := K2.cell 0
      have y1 := K2.cell 1
      have y2 := K2.cell 2
      have y3 := K2.cell 3
      have y4 := K2.cell 4
      have y5 := K2.cell 5
      have y6 := K2.cell 6
      have u0 := K3.cell 0
      have u1 := K3.cell 1
      go_wp2_with fail
      refine bodyPost_ret (v := .tuple #[Cm.val (⟨c, n, k, bs K, bs O, bs N, t⟩ : Cm), rv s8]) (by simp [results, Try.results19, go_sem, rv, zero, y0, y1, y2, y3, y4, y5, y6, u0, u1]) rfl ⟨by rw [HV.out]; rfl, BB⟩
    · have HV := Lib.hid (show takeC s = (zero, s8) by unfold takeC; rw [hlf]; simp only [he, if_false])
      have q1 : ((s8.e : Int) != 0) = true := by simp [he]
      clear he
      go_wp2_with fail
      obtain ⟨Vo, hVo⟩ : ∃ Vo : World, Vo = w8 := ⟨_, rfl⟩
      refine wp_region_ord (fun w' => Blk w' w.heap.size (.cells #[.string (bs s8.rest), .int .i64 s8.e] 44) ∧ Blk w' (w.heap.size + 1 + 1 + 1) (.cells #[.int .u8 c, .int .u32 n, .int .u8 k, .string (bs K), .string (bs O), .string (bs N), .int .u8 t] 25)) (0 :: 1 :: 2 :: 3 :: []) [2, 3] (by kernel_rfl) (by kernel_rfl) (by intro c d v a w h; cases d <;> exact h) ⟨K1.drew, K4.drew⟩ ?_
      have F1 := fun (w' : World) (j : Nat) (h : Blk w' w.heap.size (.cells #[.string (bs s8.rest), .int .i64 s8.e] 44) ∧ Blk w' (w.heap.size + 1 + 1 + 1) (.cells #[.int .u8 c, .int .u32 n, .int .u8 k, .string (bs K), .string (bs O), .string (bs N), .int .u8 t] 25)) => h.1.cell j
      have F4 := fun (w' : World) (j : Nat) (h : Blk w' w.heap.size (.cells #[.string (bs s8.rest), .int .i64 s8.e] 44) ∧ Blk w' (w.heap.size + 1 + 1 + 1) (.cells #[.int .u8 c, .int .u32 n, .int .u8 k, .string (bs K), .string (bs O), .string (bs N), .int .u8 t] 25)) => h.2.cell j
      have K1 := K1.drew
      have K2 := K2.drew
      have K3 := K3.drew
      have K4 := K4.drew
      have BB := BB.drew
      obtain ⟨Vd, hVd⟩ : ∃ Vd, w8.drew = Vd := ⟨_, rfl⟩
      rw [hVd] at K1 K2 K3 K4 BB ⊢
      clear hVd hVo
      repeat (first
        | (refine wpOrd_take (v := ?_) rfl rfl ?_ ?_ ?_; rotate_left; rfl; (· intro w' hSw; (try dsimp only at hSw); go_simp <;> with_reducible rfl); simp only [Act.put, List.setIfInBounds_toArray, List.set_cons_zero, List.set_cons_succ])
        | (refine wpOrd_skip rfl rfl ?_ ?_; rfl; simp only [Act.put, List.setIfInBounds_toArray, List.set_cons_zero, List.set_cons_succ]))
      refine wpOrd_eff rfl rfl (fun J hK => ?_)
      have fz0 := K2.frozen 0
      have cz0 := K2.cell 0
      have fz1 := K2.frozen 1
      have cz1 := K2.cell 1
      have fz2 := K2.frozen 2
      have cz2 := K2.cell 2
      have fz3 := K2.frozen 3
      have cz3 := K2.cell 3
      have fz4 := K2.frozen 4
      have cz4 := K2.cell 4
      have fz5 := K2.frozen 5
      have cz5 := K2.cell 5
      have fz6 := K2.frozen 6
      have cz6 := K2.cell 6
      have K1n := st7_other zero K1 (show w.heap.size ≠ w.heap.size + 1 by omega)
      have K4n := st7_other zero K4 (show w.heap.size + 1 + 1 + 1 ≠ w.heap.size + 1 by omega)
      have K3n := st7_other zero K3 (show w.heap.size + 1 + 1 ≠ w.heap.size + 1 by omega)
      have K2n := st7_blk zero K2
      have BBn := st7_below zero BB (show w.heap.size ≤ w.heap.size + 1 by omega)
      go_wp2_with fail
      refine hK.out _ (st7 Vd (w.heap.size + 1) zero) ⟨K1n, K4n⟩ ?_
      clear hK J
      clear fz0 cz0 fz1 cz1 fz2 cz2 fz3 cz3 fz4 cz4 fz5 cz5 fz6 cz6
      obtain ⟨Va, hVa⟩ : ∃ Va, st7 Vd (w.heap.size + 1) zero = Va := ⟨_, rfl⟩
      rw [hVa] at K1n K2n K3n K4n BBn ⊢
      clear hVa K1 K2 K3 K4 BB
      have K1 := K1n
      have K2 := K2n
      have K3 := K3n
      have K4 := K4n
      have BB := BBn
      clear K1n K2n K3n K4n BBn
      repeat (first
        | (refine wpOrd_take (v := ?_) rfl rfl ?_ ?_ ?_; rotate_left; rfl; (· intro w' hSw; (try dsimp only at hSw); go_simp <;> with_reducible rfl); simp only [Act.put, List.setIfInBounds_toArray, List.set_cons_zero, List.set_cons_succ])
        | (refine wpOrd_skip rfl rfl ?_ ?_; rfl; simp only [Act.put, List.setIfInBounds_toArray, List.set_cons_zero, List.set_cons_succ]))
      refine wpOrd_eff rfl rfl (fun J hK => ?_)
      have fy0 := K3.frozen 0
      have cy0 := K3.cell 0
      have fy1 := K3.frozen 1
      have cy1 := K3.cell 1
      have K1n := (K1.other (a := ⟨w.heap.size + 1 + 1, 0, none⟩) (by dsimp only; omega) (.string (bs s8.rest))).other (a := ⟨w.heap.size + 1 + 1, 1, none⟩) (by dsimp only; omega) (.int .i64 s8.e)
      have K4n := (K4.other (a := ⟨w.heap.size + 1 + 1, 0, none⟩) (by dsimp only; omega) (.string (bs s8.rest))).other (a := ⟨w.heap.size + 1 + 1, 1, none⟩) (by dsimp only; omega) (.int .i64 s8.e)
      have K2n := (K2.other (a := ⟨w.heap.size + 1 + 1, 0, none⟩) (by dsimp only; omega) (.string (bs s8.rest))).other (a := ⟨w.heap.size + 1 + 1, 1, none⟩) (by dsimp only; omega) (.int .i64 s8.e)
      have K3n := (K3.set 0 (.string (bs s8.rest))).set 1 (.int .i64 s8.e)
      have BBn := (BB.setCell (p := ⟨w.heap.size + 1 + 1, 0, none⟩) (by dsimp only; omega) (.string (bs s8.rest))).setCell (p := ⟨w.heap.size + 1 + 1, 1, none⟩) (by dsimp only; omega) (.int .i64 s8.e)
      go_wp2_with fail
      refine hK.out _ ((Va.setCell ⟨w.heap.size + 1 + 1, 0, none⟩ (.string (bs s8.rest))).setCell ⟨w.heap.size + 1 + 1, 1, none⟩ (.int .i64 s8.e)) ⟨K1n, K4n⟩ ?_
      clear hK J
      clear fy0 fy1 cy0 cy1
      obtain ⟨Vb, hVb⟩ : ∃ Vb, ((Va.setCell ⟨w.heap.size + 1 + 1, 0, none⟩ (.string (bs s8.rest))).setCell ⟨w.heap.size + 1 + 1, 1, none⟩ (.int .i64 s8.e)) = Vb := ⟨_, rfl⟩
      rw [hVb] at K1n K2n K3n K4n BBn ⊢
      clear hVb K1 K2 K3 K4 BB
      have K1 := K1n
      have K2 := K2n
      have K3 := K3n
      have K4 := K4n
      have BB := BBn
      clear K1n K2n K3n K4n BBn
      repeat (first
        | (refine wpOrd_take (v := ?_) rfl rfl ?_ ?_ ?_; rotate_left; rfl; (· intro w' hSw; (try dsimp only at hSw); go_simp <;> with_reducible rfl); simp only [Act.put, List.setIfInBounds_toArray, List.set_cons_zero, List.set_cons_succ])
        | (refine wpOrd_skip rfl rfl ?_ ?_; rfl; simp only [Act.put, List.setIfInBounds_toArray, List.set_cons_zero, List.set_cons_succ]))
      refine wpOrd_nil ?_
      have y0 := K2.cell 0
      have y1 := K2.cell 1
      have y2 := K2.cell 2
      have y3 := K2.cell 3
      have y4 := K2.cell 4
      have y5 := K2.cell 5
      have y6 := K2.cell 6
      have u0 := K3.cell 0
      have u1 := K3.cell 1
      go_wp2_with fail
      refine bodyPost_ret (v := .tuple #[Cm.val zero, rv s8]) (by simp [results, Try.results19, go_sem, rv, zero, y0, y1, y2, y3, y4, y5, y6, u0, u1]) rfl ⟨by rw [HV.out]; rfl, BB⟩
  · rw [decide_eq_false hm]
    have hlf : leftC s = badR s7 := by unfold leftC; rw [hraw]; exact if_neg hm
    have p0 := K1.cell 0
    have p1 := K1.cell 1
    go_wp2_with fail
    refine (HBD.out _).mono ?_
    rintro e w9 ⟨rfl, b9⟩
    obtain ⟨s8, hs8⟩ : ∃ s8, badR s7 = s8 := ⟨_, rfl⟩
    rw [hs8] at hlf ⊢
    have K1 := K1.later b9
    have K2 := K2.later b9
    have K3 := K3.later b9
    have K4 := K4.later b9
    have BB := Below.later BB b9 BB.size
    have f0 := K1.frozen 0
    have f1 := K1.frozen 1
    have p2 := K1.cell 0
    have p3 := K1.cell 1
    have K1n := (K1.set 0 (.string (bs s8.rest))).set 1 (.int .i64 s8.e)
    have K2n := (K2.other (a := ⟨w.heap.size, 0, none⟩) (by dsimp only; omega) (.string (bs s8.rest))).other (a := ⟨w.heap.size, 1, none⟩) (by dsimp only; omega) (.int .i64 s8.e)
    have K3n := (K3.other (a := ⟨w.heap.size, 0, none⟩) (by dsimp only; omega) (.string (bs s8.rest))).other (a := ⟨w.heap.size, 1, none⟩) (by dsimp only; omega) (.int .i64 s8.e)
    have K4n := (K4.other (a := ⟨w.heap.size, 0, none⟩) (by dsimp only; omega) (.string (bs s8.rest))).other (a := ⟨w.heap.size, 1, none⟩) (by dsimp only; omega) (.int .i64 s8.e)
    have BBn := (BB.setCell (p := ⟨w.heap.size, 0, none⟩) (by dsimp only; omega) (.string (bs s8.rest))).setCell (p := ⟨w.heap.size, 1, none⟩) (by dsimp only; omega) (.int .i64 s8.e)
    clear hm hs8 HBD p0 p1 b9
    go_upto_region 12 with (fail)
    obtain ⟨wz, hwz⟩ : ∃ wz, (w9.setCell ⟨w.heap.size, 0, none⟩ (.string (bs s8.rest))).setCell ⟨w.heap.size, 1, none⟩ (.int .i64 s8.e) = wz := ⟨_, rfl⟩
    rw [hwz] at K1n K2n K3n K4n BBn ⊢
    clear hwz K1 K2 K3 K4 BB f0 f1 p2 p3
    have K1 : Blk wz w.heap.size (.cells #[.string (bs s8.rest), .int .i64 s8.e] 44) := K1n
    have K2 := K2n
    have K3 := K3n
    have K4 := K4n
    have BB := BBn
    clear K1n K2n K3n K4n BBn
    have p0 := K1.cell 0
    have p1 := K1.cell 1
    by_cases he : s8.e = 0
    · have HV := Lib.hid (show takeC s = ((⟨c, n, k, bs K, bs O, bs N, t⟩ : Cm), s8) by unfold takeC; rw [hlf, hraw]; simp only [he, if_true])
      have q1 : ((s8.e : Int) != 0) = false := by simp [he]
      clear he
      go_wp2_with fail
      obtain ⟨Vo, hVo⟩ : ∃ Vo : World, Vo = wz := ⟨_, rfl⟩
      refine wp_region_ord (fun w' => Blk w' w.heap.size (.cells #[.string (bs s8.rest), .int .i64 s8.e] 44) ∧ Blk w' (w.heap.size + 1 + 1 + 1) (.cells #[.int .u8 c, .int .u32 n, .int .u8 k, .string (bs K), .string (bs O), .string (bs N), .int .u8 t] 25)) (0 :: 1 :: 2 :: 3 :: []) [2, 3] (by kernel_rfl) (by kernel_rfl) (by intro c d v a w h; cases d <;> exact h) ⟨K1.drew, K4.drew⟩ ?_
      have F1 := fun (w' : World) (j : Nat) (h : Blk w' w.heap.size (.cells #[.string (bs s8.rest), .int .i64 s8.e] 44) ∧ Blk w' (w.heap.size + 1 + 1 + 1) (.cells #[.int .u8 c, .int .u32 n, .int .u8 k, .string (bs K), .string (bs O), .string (bs N), .int .u8 t] 25)) => h.1.cell j
      have F4 := fun (w' : World) (j : Nat) (h : Blk w' w.heap.size (.cells #[.string (bs s8.rest), .int .i64 s8.e] 44) ∧ Blk w' (w.heap.size + 1 + 1 + 1) (.cells #[.int .u8 c, .int .u32 n, .int .u8 k, .string (bs K), .string (bs O), .string (bs N), .int .u8 t] 25)) => h.2.cell j
      have K1 := K1.drew
      have K2 := K2.drew
      have K3 := K3.drew
      have K4 := K4.drew
      have BB := BB.drew
      obtain ⟨Vd, hVd⟩ : ∃ Vd, wz.drew = Vd := ⟨_, rfl⟩
      rw [hVd] at K1 K2 K3 K4 BB ⊢
      clear hVd hVo
      repeat (first
        | (refine wpOrd_take (v := ?_) rfl rfl ?_ ?_ ?_; rotate_left; rfl; (· intro w' hSw; (try dsimp only at hSw); go_simp <;> with_reducible rfl); simp only [Act.put, List.setIfInBounds_toArray, List.set_cons_zero, List.set_cons_succ])
        | (refine wpOrd_skip rfl rfl ?_ ?_; rfl; simp only [Act.put, List.setIfInBounds_toArray, List.set_cons_zero, List.set_cons_succ]))
      refine wpOrd_eff rfl rfl (fun J hK => ?_)
      have fz0 := K2.frozen 0
      have cz0 := K2.cell 0
      have fz1 := K2.frozen 1
      have cz1 := K2.cell 1
      have fz2 := K2.frozen 2
      have cz2 := K2.cell 2
      have fz3 := K2.frozen 3
      have cz3 := K2.cell 3
      have fz4 := K2.frozen 4
      have cz4 := K2.cell 4
      have fz5 := K2.frozen 5
      have cz5 := K2.cell 5
      have fz6 := K2.frozen 6
      have cz6 := K2.cell 6
      have K1n := st7_other (⟨c, n, k, bs K, bs O, bs N, t⟩ : Cm) K1 (show w.heap.size ≠ w.heap.size + 1 by omega)
      have K4n := st7_other (⟨c, n, k, bs K, bs O, bs N, t⟩ : Cm) K4 (show w.heap.size + 1 + 1 + 1 ≠ w.heap.size + 1 by omega)
      have K3n := st7_other (⟨c, n, k, bs K, bs O, bs N, t⟩ : Cm) K3 (show w.heap.size + 1 + 1 ≠ w.heap.size + 1 by omega)
      have K2n := st7_blk (⟨c, n, k, bs K, bs O, bs N, t⟩ : Cm) K2
      have BBn := st7_below (⟨c, n, k, bs K, bs O, bs N, t⟩ : Cm) BB (show w.heap.size ≤ w.heap.size + 1 by omega)
      go_wp2_with fail
      refine hK.out _ (st7 Vd (w.heap.size + 1) (⟨c, n, k, bs K, bs O, bs N, t⟩ : Cm)) ⟨K1n, K4n⟩ ?_
      clear hK J
      clear fz0 cz0 fz1 cz1 fz2 cz2 fz3 cz3 fz4 cz4 fz5 cz5 fz6 cz6
      obtain ⟨Va, hVa⟩ : ∃ Va, st7 Vd (w.heap.size + 1) (⟨c, n, k, bs K, bs O, bs N, t⟩ : Cm) = Va := ⟨_, rfl⟩
      rw [hVa] at K1n K2n K3n K4n BBn ⊢
      clear hVa K1 K2 K3 K4 BB
      have K1 := K1n
      have K2 := K2n
      have K3 := K3n
      have K4 := K4n
      have BB := BBn
      clear K1n K2n K3n K4n BBn
      repeat (first
        | (refine wpOrd_take (v := ?_) rfl rfl ?_ ?_ ?_; rotate_left; rfl; (· intro w' hSw; (try dsimp only at hSw); go_simp <;> with_reducible rfl); simp only [Act.put, List.setIfInBounds_toArray, List.set_cons_zero, List.set_cons_succ])
        | (refine wpOrd_skip rfl rfl ?_ ?_; rfl; simp only [Act.put, List.setIfInBounds_toArray, List.set_cons_zero, List.set_cons_succ]))
      refine wpOrd_eff rfl rfl (fun J hK => ?_)
      have fy0 := K3.frozen 0
      have cy0 := K3.cell 0
      have fy1 := K3.frozen 1
      have cy1 := K3.cell 1
      have K1n := (K1.other (a := ⟨w.heap.size + 1 + 1, 0, none⟩) (by dsimp only; omega) (.string (bs s8.rest))).other (a := ⟨w.heap.size + 1 + 1, 1, none⟩) (by dsimp only; omega) (.int .i64 s8.e)
      have K4n := (K4.other (a := ⟨w.heap.size + 1 + 1, 0, none⟩) (by dsimp only; omega) (.string (bs s8.rest))).other (a := ⟨w.heap.size + 1 + 1, 1, none⟩) (by dsimp only; omega) (.int .i64 s8.e)
      have K2n := (K2.other (a := ⟨w.heap.size + 1 + 1, 0, none⟩) (by dsimp only; omega) (.string (bs s8.rest))).other (a := ⟨w.heap.size + 1 + 1, 1, none⟩) (by dsimp only; omega) (.int .i64 s8.e)
      have K3n := (K3.set 0 (.string (bs s8.rest))).set 1 (.int .i64 s8.e)
      have BBn := (BB.setCell (p := ⟨w.heap.size + 1 + 1, 0, none⟩) (by dsimp only; omega) (.string (bs s8.rest))).setCell (p := ⟨w.heap.size + 1 + 1, 1, none⟩) (by dsimp only; omega) (.int .i64 s8.e)
      go_wp2_with fail
      refine hK.out _ ((Va.setCell ⟨w.heap.size + 1 + 1, 0, none⟩ (.string (bs s8.rest))).setCell ⟨w.heap.size + 1 + 1, 1, none⟩ (.int .i64 s8.e)) ⟨K1n, K4n⟩ ?_
      clear hK J
      clear fy0 fy1 cy0 cy1
      obtain ⟨Vb, hVb⟩ : ∃ Vb, ((Va.setCell ⟨w.heap.size + 1 + 1, 0, none⟩ (.string (bs s8.rest))).setCell ⟨w.heap.size + 1 + 1, 1, none⟩ (.int .i64 s8.e)) = Vb := ⟨_, rfl⟩
      rw [hVb] at K1n K2n K3n K4n BBn ⊢
      clear hVb K1 K2 K3 K4 BB
      have K1 := K1n
      have K2 := K2n
      have K3 := K3n
      have K4 := K4n
      have BB := BBn
      clear K1n K2n K3n K4n BBn
      repeat (first
        | (refine wpOrd_take (v := ?_) rfl rfl ?_ ?_ ?_; rotate_left; rfl; (· intro w' hSw; (try dsimp only at hSw); go_simp <;> with_reducible rfl); simp only [Act.put, List.setIfInBounds_toArray, List.set_cons_zero, List.set_cons_succ])
        | (refine wpOrd_skip rfl rfl ?_ ?_; rfl; simp only [Act.put, List.setIfInBounds_toArray, List.set_cons_zero, List.set_cons_succ]))
      refine wpOrd_nil ?_
      have y0 := K2.cell 0
      have y1 := K2.cell 1
      have y2 := K2.cell 2
      have y3 := K2.cell 3
      have y4 := K2.cell 4
      have y5 := K2.cell 5
      have y6 := K2.cell 6
      have u0 := K3.cell 0
      have u1 := K3.cell 1
      go_wp2_with fail
      refine bodyPost_ret (v := .tuple #[Cm.val (⟨c, n, k, bs K, bs O, bs N, t⟩ : Cm), rv s8]) (by simp [results, Try.results19, go_sem, rv, zero, y0, y1, y2, y3, y4, y5, y6, u0, u1]) rfl ⟨by rw [HV.out]; rfl, BB⟩
    · have HV := Lib.hid (show takeC s = (zero, s8) by unfold takeC; rw [hlf]; simp only [he, if_false])
      have q1 : ((s8.e : Int) != 0) = true := by simp [he]
      clear he
      go_wp2_with fail
      obtain ⟨Vo, hVo⟩ : ∃ Vo : World, Vo = wz := ⟨_, rfl⟩
      refine wp_region_ord (fun w' => Blk w' w.heap.size (.cells #[.string (bs s8.rest), .int .i64 s8.e] 44) ∧ Blk w' (w.heap.size + 1 + 1 + 1) (.cells #[.int .u8 c, .int .u32 n, .int .u8 k, .string (bs K), .string (bs O), .string (bs N), .int .u8 t] 25)) (0 :: 1 :: 2 :: 3 :: []) [2, 3] (by kernel_rfl) (by kernel_rfl) (by intro c d v a w h; cases d <;> exact h) ⟨K1.drew, K4.drew⟩ ?_
      have F1 := fun (w' : World) (j : Nat) (h : Blk w' w.heap.size (.cells #[.string (bs s8.rest), .int .i64 s8.e] 44) ∧ Blk w' (w.heap.size + 1 + 1 + 1) (.cells #[.int .u8 c, .int .u32 n, .int .u8 k, .string (bs K), .string (bs O), .string (bs N), .int .u8 t] 25)) => h.1.cell j
      have F4 := fun (w' : World) (j : Nat) (h : Blk w' w.heap.size (.cells #[.string (bs s8.rest), .int .i64 s8.e] 44) ∧ Blk w' (w.heap.size + 1 + 1 + 1) (.cells #[.int .u8 c, .int .u32 n, .int .u8 k, .string (bs K), .string (bs O), .string (bs N), .int .u8 t] 25)) => h.2.cell j
      have K1 := K1.drew
      have K2 := K2.drew
      have K3 := K3.drew
      have K4 := K4.drew
      have BB := BB.drew
      obtain ⟨Vd, hVd⟩ : ∃ Vd, wz.drew = Vd := ⟨_, rfl⟩
      rw [hVd] at K1 K2 K3 K4 BB ⊢
      clear hVd hVo
      repeat (first
        | (refine wpOrd_take (v := ?_) rfl rfl ?_ ?_ ?_; rotate_left; rfl; (· intro w' hSw; (try dsimp only at hSw); go_simp <;> with_reducible rfl); simp only [Act.put, List.setIfInBounds_toArray, List.set_cons_zero, List.set_cons_succ])
        | (refine wpOrd_skip rfl rfl ?_ ?_; rfl; simp only [Act.put, List.setIfInBounds_toArray, List.set_cons_zero, List.set_cons_succ]))
      refine wpOrd_eff rfl rfl (fun J hK => ?_)
      have fz0 := K2.frozen 0
      have cz0 := K2.cell 0
      have fz1 := K2.frozen 1
      have cz1 := K2.cell 1
      have fz2 := K2.frozen 2
      have cz2 := K2.cell 2
      have fz3 := K2.frozen 3
      have cz3 := K2.cell 3
      have fz4 := K2.frozen 4
      have cz4 := K2.cell 4
      have fz5 := K2.frozen 5
      have cz5 := K2.cell 5
      have fz6 := K2.frozen 6
      have cz6 := K2.cell 6
      have K1n := st7_other zero K1 (show w.heap.size ≠ w.heap.size + 1 by omega)
      have K4n := st7_other zero K4 (show w.heap.size + 1 + 1 + 1 ≠ w.heap.size + 1 by omega)
      have K3n := st7_other zero K3 (show w.heap.size + 1 + 1 ≠ w.heap.size + 1 by omega)
      have K2n := st7_blk zero K2
      have BBn := st7_below zero BB (show w.heap.size ≤ w.heap.size + 1 by omega)
      go_wp2_with fail
      refine hK.out _ (st7 Vd (w.heap.size + 1) zero) ⟨K1n, K4n⟩ ?_
      clear hK J
      clear fz0 cz0 fz1 cz1 fz2 cz2 fz3 cz3 fz4 cz4 fz5 cz5 fz6 cz6
      obtain ⟨Va, hVa⟩ : ∃ Va, st7 Vd (w.heap.size + 1) zero = Va := ⟨_, rfl⟩
      rw [hVa] at K1n K2n K3n K4n BBn ⊢
      clear hVa K1 K2 K3 K4 BB
      have K1 := K1n
      have K2 := K2n
      have K3 := K3n
      have K4 := K4n
      have BB := BBn
      clear K1n K2n K3n K4n BBn
      repeat (first
        | (refine wpOrd_take (v := ?_) rfl rfl ?_ ?_ ?_; rotate_left; rfl; (· intro w' hSw; (try dsimp only at hSw); go_simp <;> with_reducible rfl); simp only [Act.put, List.setIfInBounds_toArray, List.set_cons_zero, List.set_cons_succ])
        | (refine wpOrd_skip rfl rfl ?_ ?_; rfl; simp only [Act.put, List.setIfInBounds_toArray, List.set_cons_zero, List.set_cons_succ]))
      refine wpOrd_eff rfl rfl (fun J hK => ?_)
      have fy0 := K3.frozen 0
      have cy0 := K3.cell 0
      have fy1 := K3.frozen 1
      have cy1 := K3.cell 1
      have K1n := (K1.other (a := ⟨w.heap.size + 1 + 1, 0, none⟩) (by dsimp only; omega) (.string (bs s8.rest))).other (a := ⟨w.heap.size + 1 + 1, 1, none⟩) (by dsimp only; omega) (.int .i64 s8.e)
      have K4n := (K4.other (a := ⟨w.heap.size + 1 + 1, 0, none⟩) (by dsimp only; omega) (.string (bs s8.rest))).other (a := ⟨w.heap.size + 1 + 1, 1, none⟩) (by dsimp only; omega) (.int .i64 s8.e)
      have K2n := (K2.other (a := ⟨w.heap.size + 1 + 1, 0, none⟩) (by dsimp only; omega) (.string (bs s8.rest))).other (a := ⟨w.heap.size + 1 + 1, 1, none⟩) (by dsimp only; omega) (.int .i64 s8.e)
      have K3n := (K3.set 0 (.string (bs s8.rest))).set 1 (.int .i64 s8.e)
      have BBn := (BB.setCell (p := ⟨w.heap.size + 1 + 1, 0, none⟩) (by dsimp only; omega) (.string (bs s8.rest))).setCell (p := ⟨w.heap.size + 1 + 1, 1, none⟩) (by dsimp only; omega) (.int .i64 s8.e)
      go_wp2_with fail
      refine hK.out _ ((Va.setCell ⟨w.heap.size + 1 + 1, 0, none⟩ (.string (bs s8.rest))).setCell ⟨w.heap.size + 1 + 1, 1, none⟩ (.int .i64 s8.e)) ⟨K1n, K4n⟩ ?_
      clear hK J
      clear fy0 fy1 cy0 cy1
      obtain ⟨Vb, hVb⟩ : ∃ Vb, ((Va.setCell ⟨w.heap.size + 1 + 1, 0, none⟩ (.string (bs s8.rest))).setCell ⟨w.heap.size + 1 + 1, 1, none⟩ (.int .i64 s8.e)) = Vb := ⟨_, rfl⟩
      rw [hVb] at K1n K2n K3n K4n BBn ⊢
      clear hVb K1 K2 K3 K4 BB
      have K1 := K1n
      have K2 := K2n
      have K3 := K3n
      have K4 := K4n
      have BB := BBn
      clear K1n K2n K3n K4n BBn
      repeat (first
        | (refine wpOrd_take (v := ?_) rfl rfl ?_ ?_ ?_; rotate_left; rfl; (· intro w' hSw; (try dsimp only at hSw); go_simp <;> with_reducible rfl); simp only [Act.put, List.setIfInBounds_toArray, List.set_cons_zero, List.set_cons_succ])
        | (refine wpOrd_skip rfl rfl ?_ ?_; rfl; simp only [Act.put, List.setIfInBounds_toArray, List.set_cons_zero, List.set_cons_succ]))
      refine wpOrd_nil ?_
      have y0 := K2.cell 0
      have y1 := K2.cell 1
      have y2 := K2.cell 2
      have y3 := K2.cell 3
      have y4 := K2.cell 4
      have y5 := K2.cell 5
      have y6 := K2.cell 6
      have u0 := K3.cell 0
      have u1 := K3.cell 1
      go_wp2_with fail
      refine bodyPost_ret (v := .tuple #[Cm.val zero, rv s8]) (by simp [results, Try.results19, go_sem, rv, zero, y0, y1, y2, y3, y4, y5, y6, u0, u1]) rfl ⟨by rw [HV.out]; rfl, BB⟩
end Cm
end Go.Proofs.Ytdjddbidhaeekaa
