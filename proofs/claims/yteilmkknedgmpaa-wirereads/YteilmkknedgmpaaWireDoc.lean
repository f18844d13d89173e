/-
  Seat 01: the document's own reader, walked.
-/
import Derived.BigRegion
import Derived.Test.YteilmkknedgmpaaWireRef
namespace Go.Proofs.Yteilmkknedgmpaa
open Go.RowKit
namespace Wire
/-- The document's reader, a value. -/
def rv (s : R) : Value := .agg #[.string (bs s.rest), .int .i64 s.e]
theorem none_any (e : Nat) (w : World) :
    Calls Try.prog 34 #[.int .i64 e] w fun r w' => r = .returned (rv ⟨[], e⟩) ∧ Below w.heap.size w w' := by
  go_enter Try.func34, Try.ntmps34
  go_wp2
  refine bodyPost_ret (v := rv ⟨[], e⟩) (by simp [results, Try.results34, go_sem, rv, bs]) rfl ⟨rfl, ?_⟩
  exact below1 _ _
set_option maxHeartbeats 1000000 in
theorem dbad_any (s : R) (w : World) :
    Calls Try.prog 33 #[rv s] w fun r w' => r = .returned (rv (badR s)) ∧ Below w.heap.size w w' := by
  by_cases he : s.e = 0
  · have ht : ((s.e : Int) == 0) = true := by simp [he]
    have HX := Lib.hid (show badR s = ⟨[], 4⟩ by unfold badR; rw [if_pos he])
    clear he
    unfold rv
    go_enter Try.func33, Try.ntmps33
    go_wp2_with fail
    refine (none_any 4 _).mono ?_
    rintro e w1 ⟨rfl, b1⟩
    have hk : Blk w1 (w.heap.size + 1) (.cells #[.string ⟨#[]⟩, .int .i64 0] 45) := Blk.later (Blk.newAt _ (by simp)) b1
    have hlt := hk.lt
    have c0 : w1.cell? ⟨w.heap.size + 1, 0, none⟩ = some (.string ⟨#[]⟩) := hk.cell 0
    have c1 : w1.cell? ⟨w.heap.size + 1, 1, none⟩ = some (.int .i64 0) := hk.cell 1
    have f0 := hk.frozen 0
    have f1 := hk.frozen 1
    have hB : Below w.heap.size w w1 := (below2 w _ _).trans (b1.mono (by simp; omega))
    clear b1
    unfold rv
    go_wp2
    refine bodyPost_ret (v := rv ⟨[], 4⟩) (by simp [results, Try.results33, go_sem, rv, bs, c0, c1, hlt]) rfl ⟨by rw [HX.out]; rfl, ?_⟩
    repeat (first | (with_reducible refine Below.setCell ?_ (by dsimp only; omega) _))
    exact hB
  · have ht : ((s.e : Int) == 0) = false := by simp; omega
    have HX := Lib.hid (show badR s = s by unfold badR; rw [if_neg he])
    unfold rv
    go_enter Try.func33, Try.ntmps33
    go_wp2
    refine bodyPost_ret (v := rv s) (by simp [results, Try.results33, go_sem, rv]) rfl ⟨by rw [HX.out]; rfl, ?_⟩
    exact below2 _ _ _
set_option maxHeartbeats 1000000 in
theorem dbyte_err (s : R) (w : World) (he : s.e ≠ 0) :
    Calls Try.prog 30 #[rv s] w fun r w' => r = .returned (.tuple #[.int .u8 (byteR s).1, rv (byteR s).2]) ∧ Below w.heap.size w w' := by
  have ht : ((s.e : Int) == 0) = false := by simp; omega
  have HX := Lib.hid (byte_err s he)
  unfold rv
  go_enter Try.func30, Try.ntmps30
  go_wp2
  go_region
  all_goals go_wp2
  all_goals refine bodyPost_ret (v := .tuple #[.int .u8 0, rv s]) (by simp [results, Try.results30, go_sem, rv]) rfl ⟨by rw [HX.out]; rfl, ?_⟩
  all_goals exact (below2 _ _ _).drew
set_option maxHeartbeats 1000000 in
theorem dbyte_none (w : World) :
    Calls Try.prog 30 #[rv ⟨[], 0⟩] w fun r w' => r = .returned (.tuple #[.int .u8 0, rv ⟨[], 3⟩]) ∧ Below w.heap.size w w' := by
  have hz : (bs []).size = 0 := rfl
  unfold rv
  go_enter Try.func30, Try.ntmps30
  go_wp2_with fail
  refine (none_any 3 _).mono ?_
  rintro e w1 ⟨rfl, b1⟩
  have hk : Blk w1 (w.heap.size + 1) (.cells #[.string ⟨#[]⟩, .int .i64 0] 45) := Blk.later (Blk.newAt _ (by simp)) b1
  have hlt := hk.lt
  have c0 : w1.cell? ⟨w.heap.size + 1, 0, none⟩ = some (.string ⟨#[]⟩) := hk.cell 0
  have c1 : w1.cell? ⟨w.heap.size + 1, 1, none⟩ = some (.int .i64 0) := hk.cell 1
  have f0 := hk.frozen 0
  have f1 := hk.frozen 1
  have hB : Below w.heap.size w w1 := (below2 w _ _).trans (b1.mono (by simp; omega))
  clear b1
  unfold rv
  go_wp2
  refine bodyPost_ret (v := .tuple #[.int .u8 0, rv ⟨[], 3⟩]) (by simp [results, Try.results30, go_sem, rv, bs, c0, c1, hlt]) rfl ⟨rfl, ?_⟩
  repeat (first | (with_reducible refine Below.setCell ?_ (by dsimp only; omega) _))
  exact hB
theorem bs_get0 (c : UInt8) (l : List UInt8) : (bs (c :: l))[0]'(by rw [bs_size]; simp) = c := by simp [bs, ByteArray.getElem_eq_getElem_data]
set_option maxHeartbeats 1000000 in
theorem dbyte_some (c : UInt8) (l : List UInt8) (hl : l.length < 1000000000) (w : World) :
    Calls Try.prog 30 #[rv ⟨c :: l, 0⟩] w fun r w' => r = .returned (.tuple #[.int .u8 c.toNat, rv ⟨l, 0⟩]) ∧ Below w.heap.size w w' := by
  have hz : (bs (c :: l)).size = l.length + 1 := bs_size _
  have hg := bs_get0 c l
  have hx : (bs (c :: l)).extract 1 (l.length + 1) = bs l := by rw [bs_extract]; simp
  have ht : ((l.length : Int) + 1 == 0) = false := by simp; omega
  have h1 : (1 : Int) ≤ (l.length : Int) + 1 := by omega
  unfold rv
  go_enter Try.func30, Try.ntmps30
  go_wp2
  go_region
  all_goals go_wp2
  all_goals refine bodyPost_ret (v := .tuple #[.int .u8 c.toNat, rv ⟨l, 0⟩]) (by simp [results, Try.results30, go_sem, rv]) rfl ⟨rfl, ?_⟩
  all_goals exact (below2 _ _ _).drew
theorem dbyte_any (s : R) (hl : s.rest.length ≤ 1000000000) (w : World) :
    Calls Try.prog 30 #[rv s] w fun r w' => r = .returned (.tuple #[.int .u8 (byteR s).1, rv (byteR s).2]) ∧ Below w.heap.size w w' := by
  obtain ⟨l, e⟩ := s
  by_cases he : e = 0
  · subst he
    cases l with
    | nil => rw [byte_none]; exact dbyte_none w
    | cons c l => rw [byte_some]; exact dbyte_some c l (by simp at hl; omega) w
  · exact dbyte_err _ w he
set_option maxHeartbeats 1000000 in
theorem dend_any (s : R) (hf : s.fine) (w : World) :
    Calls Try.prog 22 #[rv s] w fun r w' => r = .returned (rv (endR s)) ∧ Below w.heap.size w w' := by
  have hz := bs_size s.rest
  by_cases h0 : 0 < s.rest.length
  · have he : s.e = 0 := by
      rcases Nat.eq_zero_or_pos s.e with h | h
      · exact h
      · rw [hf (by omega)] at h0; simp at h0
    have ht : ((s.e : Int) == 0) = true := by simp [he]
    have hd : decide (0 < s.rest.length) = true := by simp; omega
    have HX := Lib.hid (show endR s = ⟨[], 4⟩ by unfold endR; rw [if_pos h0])
    clear he h0 hf
    unfold rv
    go_enter Try.func22, Try.ntmps22
    go_wp2_with fail
    refine (none_any 4 _).mono ?_
    rintro e w1 ⟨rfl, b1⟩
    have hk : Blk w1 (w.heap.size + 1) (.cells #[.string ⟨#[]⟩, .int .i64 0] 45) := Blk.later (Blk.newAt _ (by simp)) b1
    have hlt := hk.lt
    have c0 : w1.cell? ⟨w.heap.size + 1, 0, none⟩ = some (.string ⟨#[]⟩) := hk.cell 0
    have c1 : w1.cell? ⟨w.heap.size + 1, 1, none⟩ = some (.int .i64 0) := hk.cell 1
    have f0 := hk.frozen 0
    have f1 := hk.frozen 1
    have hB : Below w.heap.size w w1 := (below2 w _ _).trans (b1.mono (by simp; omega))
    clear b1
    unfold rv
    go_wp2
    refine bodyPost_ret (v := rv ⟨[], 4⟩) (by simp [results, Try.results22, go_sem, rv, bs, c0, c1, hlt]) rfl ⟨by rw [HX.out]; rfl, ?_⟩
    repeat (first | (with_reducible refine Below.setCell ?_ (by dsimp only; omega) _))
    exact hB
  · have HX := Lib.hid (show endR s = s by unfold endR; rw [if_neg h0])
    have hd : decide (0 < s.rest.length) = false := by simpa using h0
    by_cases he : s.e = 0
    · have ht : ((s.e : Int) == 0) = true := by simp [he]
      clear he h0 hf
      unfold rv
      go_enter Try.func22, Try.ntmps22
      go_wp2
      refine bodyPost_ret (v := rv s) (by simp [results, Try.results22, go_sem, rv]) rfl ⟨by rw [HX.out]; rfl, ?_⟩
      exact below2 _ _ _
    · have ht : ((s.e : Int) == 0) = false := by simp; omega
      clear he h0 hf
      unfold rv
      go_enter Try.func22, Try.ntmps22
      go_wp2
      refine bodyPost_ret (v := rv s) (by simp [results, Try.results22, go_sem, rv]) rfl ⟨by rw [HX.out]; rfl, ?_⟩
      exact below2 _ _ _
end Wire
end Go.Proofs.Yteilmkknedgmpaa
