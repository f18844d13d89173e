/-
  The package frame's sum, Put, Take, and the document's, walked.
-/
import Derived.Test.YtcmcdpoceeipbaaFramePure
import Derived.Test.YtcmcdpoceeipbaaCrc
import Derived.Test.YtcmcdpoceeipbaaWireDocNum3
import Derived.Test.YtcmcdpoceeipbaaElem
import Derived.Test.YtcmcdpoceeipbaaWireSrc
namespace Go.Proofs.Ytcmcdpoceeipbaa
open Go.RowKit
namespace Fr
open Wire Crc
theorem rdV_blk {w : World} {b : Nat} {cs : Array Value} {te : TypeId} {fr : Nat × Nat} (h : Blk w b (.cells cs te fr)) (n cap : Nat) (hn : n ≤ 9223372036854775807) : RdV w (.slice (some ⟨b, 0, none⟩) n cap) n cs.toList :=
  ⟨_, cap, rfl, hn, fun j u hj => ⟨b, 0, rfl, by rw [h.cell]; simpa using hj⟩, fun h => by cases h⟩
/-- The array as it fills. -/
def fill (x : Nat) (k : Nat) : List Value := by8 (le8 k x) ++ List.replicate (8 - k) (.int .u8 0)
theorem fill_len (x k : Nat) (h : k ≤ 8) : (fill x k).length = 8 := by simp [fill, by8_length, le8_length]; omega
theorem fill_set (x k : Nat) (h : k < 8) : (fill x k).set k (.int .u8 ((UInt8.ofNat (x / 256 ^ k)).toNat : Int)) = fill x (k + 1) := by
  have e : 8 - k = (8 - (k + 1)) + 1 := by omega
  rw [fill, fill, e, List.replicate_succ, le8_snoc, by8_append, List.append_assoc, List.set_append_right _ _ (by simp [by8_length, le8_length])]
  simp [by8_length, le8_length, by8]
set_option maxRecDepth 100000 in
set_option maxHeartbeats 1000000 in
theorem fsum_any (l : List UInt8) (hl : l.length ≤ 1000000000) (w : World) : Calls Try.prog 18 #[.string (bs l)] w fun e w' => e = .returned (.string (bs (sumB l))) ∧ Below w.heap.size w w' := by
  have zs := bs_size l
  have HS := Lib.hid (fun w => sum_any l hl w)
  have hlt := sumR_lt l
  have HX := Lib.hid (show sumB l = le8 8 (sumR l) from rfl)
  obtain ⟨x, hx⟩ : ∃ x, sumR l = x := ⟨_, rfl⟩
  rw [hx] at HS hlt HX
  have hf0 := fill_len x
  have HF := Lib.hid (fun k h => fill_set x k h)
  have h0 : fill x 0 = [.int .u8 0, .int .u8 0, .int .u8 0, .int .u8 0, .int .u8 0, .int .u8 0, .int .u8 0, .int .u8 0] := rfl
  have HE := Lib.hid (show fill x 8 = by8 (le8 8 x) by rw [fill]; simp)
  go_enter Try.func18, Try.ntmps18
  go_wp2_with fail
  refine (HS.out w).mono ?_
  rintro e w' ⟨rfl, rfl⟩
  go_wp2_with fail
  have k0 : Blk (w.alloc (.cells #[.int .u8 0, .int .u8 0, .int .u8 0, .int .u8 0, .int .u8 0, .int .u8 0, .int .u8 0, .int .u8 0] 63)) w.heap.size (.cells (fill x 0).toArray 63) := Blk.new w _
  have B0 := below1 w (.cells #[.int .u8 0, .int .u8 0, .int .u8 0, .int .u8 0, .int .u8 0, .int .u8 0, .int .u8 0, .int .u8 0] 63)
  generalize w.alloc (.cells #[.int .u8 0, .int .u8 0, .int .u8 0, .int .u8 0, .int .u8 0, .int .u8 0, .int .u8 0, .int .u8 0] 63) = W at *
  go_loopw [8] (fun s8 wr => ∃ k : Nat, k ≤ 8 ∧ s8 = .int .i64 k ∧ Blk wr w.heap.size (.cells (fill x k).toArray 63) ∧ Below w.heap.size w wr) (fun s8 _ => 8 - (intOf s8).toNat)
  case atStart => exact ⟨0, by omega, rfl, k0, B0⟩
  case round =>
    clear k0 B0 h0
    obtain ⟨k, hk, rfl, kb, BB⟩ := hrel
    by_cases h8 : k < 8
    · have d1 : decide ((k : Int) < 8) = true := decide_eq_true (by omega)
      have d2 : decide (k < 8) = true := decide_eq_true h8
      have hsh := shr_fact x k
      have HN := Lib.hid (HF.out k h8)
      obtain ⟨u, hu⟩ : ∃ u : Nat, (UInt8.ofNat (x / 256 ^ k)).toNat = u := ⟨_, rfl⟩
      rw [hu] at hsh HN
      have hul : u < 256 := by rw [← hu]; exact UInt8.toNat_lt _
      clear hu
      have hc : wr.cell? ⟨w.heap.size, k, none⟩ = (fill x k)[k]? := by rw [kb.cell]; simp
      have hlen := hf0 k hk
      have hv : ∃ v, (fill x k)[k]? = some v := ⟨(fill x k)[k]'(by omega), by simp [hlen, h8]⟩
      obtain ⟨v, hv⟩ := hv
      rw [hv] at hc
      have hfz := kb.frozen k
      have hw8 : IntKind.i64.wrap (8 * (k : Int)) = 8 * (k : Int) := by rw [IntKind.wrap_i64]; omega
      have hm : IntKind.u8.wrap ((x : Int) / 2 ^ (8 * k)) = (u : Int) := by rw [IntKind.wrap_u8]; exact hsh
      have ks := kb.set k (.int .u8 (u : Int))
      have hks : (fill x k).toArray.setIfInBounds k (.int .u8 (u : Int)) = (fill x (k + 1)).toArray := by rw [List.setIfInBounds_toArray, HN.out]
      rw [hks] at ks
      clear kb hv hks
      go_wp2_with fail
      go_roundw
      case rel => exact ⟨k + 1, by omega, by go_num, ks, BB.setCell (p := ⟨w.heap.size, k, none⟩) (Nat.le_refl _) _⟩
      case measure => simp [intOf]; omega
    · obtain rfl : k = 8 := by omega
      have kc := rdV_blk kb 8 8 (by decide)
      rw [List.toList_toArray, HE.out, ← HX.out] at kc
      have tx := rd_text kc (sumB_len l)
      go_wp2_with fail
      go_ret
      exact ⟨rfl, BB⟩
theorem RdV.drop {w : World} {b off n cap k : Nat} {xs : List Value} (h : RdV w (.slice (some ⟨b, off, none⟩) n cap) n xs) (hk : k ≤ n) : RdV w (.slice (some ⟨b, off + k, none⟩) (n - k) (cap - k)) (n - k) (xs.drop k) := by
  obtain ⟨p', cap', e, hn, hc, _⟩ := h
  cases e
  refine ⟨_, _, rfl, by omega, fun j u hj => ⟨b, off + k, rfl, ?_⟩, fun h => by cases h⟩
  rw [List.getElem?_drop] at hj
  obtain ⟨b', off', e', h2⟩ := hc (k + j) u hj
  cases e'
  rw [Nat.add_assoc]; exact h2
set_option maxRecDepth 100000 in
set_option maxHeartbeats 1000000 in
theorem put_any (base : Nat) (vb : Value) (n0 : Nat) (xs : List Value) (x : List UInt8) (h1 : 1 ≤ x.length) (h2 : x.length ≤ 65536) (w : World) (hown : Src w base vb n0 xs) (hn0 : n0 ≤ 100000000) (hbase : base ≤ w.heap.size) :
    Calls Try.prog 9 #[vb, .string (bs x)] w fun e w' => ∃ v, e = .returned (.tuple #[v, .int .i64 0]) ∧ w'.ownsRow base 5 1 v (n0 + (frameB x).length) (xs ++ by8 (frameB x)) ∧ Grew w vb w' v := by
  have zs := bs_size x
  have zb := bs_size (sumB x)
  have hsl := sumB_len x
  have q1 : ((bs x).toList == []) = false := by rw [bs_toList]; cases x with | nil => simp at h1 | cons c t => rfl
  have q2 : (bs x).toList.isEmpty = false := by rw [bs_toList]; cases x with | nil => simp at h1 | cons c t => rfl
  have d1 : decide (65536 < x.length) = false := decide_eq_false (by omega)
  have d2 : decide ((65536 : Int) < (x.length : Int)) = false := decide_eq_false (by omega)
  have hw : IntKind.u64.wrap (x.length : Int) = x.length := by rw [IntKind.wrap_u64]; omega
  have hle := numB_le x.length
  have HE := Lib.hid (show xs ++ by8 (frameB x) = xs ++ by8 (numB x.length) ++ by8 (sumB x) ++ by8 x by rw [frameB, by8_append, by8_append]; simp)
  have HL := Lib.hid (show n0 + (frameB x).length = n0 + (numB x.length).length + (sumB x).length + x.length by rw [frameB, List.length_append, List.length_append]; omega)
  have cs1 : Lib.strCells (bs (sumB x)) = by8 (sumB x) := by first | rfl | (unfold Lib.strCells by8; rw [bs_data]) | (simp [Lib.strCells, by8, bs])
  have cs2 : Lib.strCells (bs x) = by8 x := by first | rfl | (unfold Lib.strCells by8; rw [bs_data]) | (simp [Lib.strCells, by8, bs])
  go_enter Try.func9, Try.ntmps9
  go_wp2_with fail
  refine (num_src base vb n0 xs x.length (by omega) w hown (by omega) hbase).mono ?_
  rintro e w1 ⟨v1, rfl, ho1, g1⟩
  have b1 := Nat.le_trans hbase g1.size
  have hsum := fsum_any x (by omega) w1
  clear hown
  go_wp2_with fail
  refine hsum.mono ?_
  rintro e w2 ⟨rfl, b2⟩
  have ho2 := ownsRow_below ho1 b2
  have g2 := g1.trans (Grew.of_below b2 v1)
  have b3 := Nat.le_trans b1 b2.size
  clear ho1 g1
  go_wp2_with (at_builtin; first | (refine appSg rfl _ _ 22 9 rfl base 5 info Try.underlying22 Try.underlying9 _ v1 _ _ rfl ho2 (bs (sumB x)) rfl (by rw [zb]; omega) (by rw [zb]; omega) b3 ?_; intro v3 w3 ho3 g3) | (refine appSg rfl _ _ 22 9 rfl base 5 info Try.underlying22 Try.underlying9 _ v3 _ _ rfl ho3 (bs x) rfl (by rw [zb, zs]; omega) (by rw [zb, zs]; omega) (Nat.le_trans b3 g3.size) ?_; intro v4 w4 ho4 g4))
  rw [cs1, cs2, zb, zs, ← HE.out, ← HL.out] at ho4
  refine bodyPost_ret (v := .tuple #[v4, .int .i64 0]) (by simp [results, Try.results9, go_sem]) rfl ⟨_, rfl, ho4, (g2.trans g3).trans g4⟩
theorem put_none (vb : Value) (x : List UInt8) (h : x.length = 0 ∨ 65536 < x.length) (h2 : x.length ≤ 1000000000) (w : World) :
    Calls Try.prog 9 #[vb, .string (bs x)] w fun e w' => e = .returned (.tuple #[vb, .int .i64 6]) ∧ w = w' := by
  have zs := bs_size x
  rcases h with h | h
  · have hx : x = [] := List.eq_nil_of_length_eq_zero h
    subst hx
    have q1 : ((bs []).toList == []) = true := by rw [bs_toList]; rfl
    have q2 : (bs []).toList.isEmpty = true := by rw [bs_toList]; rfl
    go_enter Try.func9, Try.ntmps9
    go_wp2_with fail
    refine bodyPost_ret (v := .tuple #[vb, .int .i64 6]) (by simp [results, Try.results9, go_sem]) rfl ⟨rfl, rfl⟩
  · have q1 : ((bs x).toList == []) = false := by rw [bs_toList]; cases x with | nil => simp at h | cons c t => rfl
    have q2 : (bs x).toList.isEmpty = false := by rw [bs_toList]; cases x with | nil => simp at h | cons c t => rfl
    have d1 : decide (65536 < x.length) = true := decide_eq_true (by omega)
    have d2 : decide ((65536 : Int) < (x.length : Int)) = true := decide_eq_true (by omega)
    go_enter Try.func9, Try.ntmps9
    go_wp2_with fail
    refine bodyPost_ret (v := .tuple #[vb, .int .i64 6]) (by simp [results, Try.results9, go_sem]) rfl ⟨rfl, rfl⟩
end Fr
end Go.Proofs.Ytcmcdpoceeipbaa
