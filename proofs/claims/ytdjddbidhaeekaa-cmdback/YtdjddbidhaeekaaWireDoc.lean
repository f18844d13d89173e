/-
  Seat 01: the document's own reader, walked.
-/
import Derived.BigRegion
import Derived.Test.YtdjddbidhaeekaaWireRef
namespace Go.Proofs.Ytdjddbidhaeekaa
open Go.RowKit
namespace Wire
/-- The document's reader, a value. -/
def rv (s : R) : Value := .agg #[.string (bs s.rest), .int .i64 s.e]
theorem none_any (e : Nat) (w : World) :
    Calls Try.prog 42 #[.int .i64 e] w fun r w' => r = .returned (rv ⟨[], e⟩) ∧ Below w.heap.size w w' := by
  go_enter Try.func42, Try.ntmps42
  go_wp2
  refine bodyPost_ret (v := rv ⟨[], e⟩) (by simp [results, Try.results42, go_sem, rv, bs]) rfl ⟨rfl, ?_⟩
  exact below1 _ _
set_option maxHeartbeats 1000000 in
theorem dbyte_err (s : R) (w : World) (he : s.e ≠ 0) :
    Calls Try.prog 32 #[rv s] w fun r w' => r = .returned (.tuple #[.int .u8 (byteR s).1, rv (byteR s).2]) ∧ Below w.heap.size w w' := by
  have ht : ((s.e : Int) == 0) = false := by simp; omega
  have HX := Lib.hid (byte_err s he)
  unfold rv
  go_enter Try.func32, Try.ntmps32
  go_wp2
  go_region
  all_goals go_wp2
  all_goals refine bodyPost_ret (v := .tuple #[.int .u8 0, rv s]) (by simp [results, Try.results32, go_sem, rv]) rfl ⟨by rw [HX.out]; rfl, ?_⟩
  all_goals exact (below2 _ _ _).drew
set_option maxHeartbeats 1000000 in
theorem dbyte_none (w : World) :
    Calls Try.prog 32 #[rv ⟨[], 0⟩] w fun r w' => r = .returned (.tuple #[.int .u8 0, rv ⟨[], 3⟩]) ∧ Below w.heap.size w w' := by
  have hz : (bs []).size = 0 := rfl
  unfold rv
  go_enter Try.func32, Try.ntmps32
  go_wp2_with fail
  refine (none_any 3 _).mono ?_
  rintro e w1 ⟨rfl, b1⟩
  have hk : Blk w1 (w.heap.size + 1) (.cells #[.string ⟨#[]⟩, .int .i64 0] 44) := Blk.later (Blk.newAt _ (by simp)) b1
  have hlt := hk.lt
  have c0 : w1.cell? ⟨w.heap.size + 1, 0, none⟩ = some (.string ⟨#[]⟩) := hk.cell 0
  have c1 : w1.cell? ⟨w.heap.size + 1, 1, none⟩ = some (.int .i64 0) := hk.cell 1
  have f0 := hk.frozen 0
  have f1 := hk.frozen 1
  have hB : Below w.heap.size w w1 := (below2 w _ _).trans (b1.mono (by simp; omega))
  clear b1
  unfold rv
  go_wp2
  refine bodyPost_ret (v := .tuple #[.int .u8 0, rv ⟨[], 3⟩]) (by simp [results, Try.results32, go_sem, rv, bs, c0, c1]) rfl ⟨rfl, ?_⟩
  repeat (first | (with_reducible refine Below.setCell ?_ (by dsimp only; omega) _))
  exact hB
theorem bs_get0 (c : UInt8) (l : List UInt8) : (bs (c :: l))[0]'(by rw [bs_size]; simp) = c := by simp [bs, ByteArray.getElem_eq_getElem_data]
set_option maxHeartbeats 1000000 in
theorem dbyte_some (c : UInt8) (l : List UInt8) (hl : l.length < 1000000000) (w : World) :
    Calls Try.prog 32 #[rv ⟨c :: l, 0⟩] w fun r w' => r = .returned (.tuple #[.int .u8 c.toNat, rv ⟨l, 0⟩]) ∧ Below w.heap.size w w' := by
  have hz : (bs (c :: l)).size = l.length + 1 := bs_size _
  have hg := bs_get0 c l
  have hx : (bs (c :: l)).extract 1 (l.length + 1) = bs l := by rw [bs_extract]; simp
  have ht : ((l.length : Int) + 1 == 0) = false := by simp; omega
  have h1 : (1 : Int) ≤ (l.length : Int) + 1 := by omega
  unfold rv
  go_enter Try.func32, Try.ntmps32
  go_wp2
  go_region
  all_goals go_wp2
  all_goals refine bodyPost_ret (v := .tuple #[.int .u8 c.toNat, rv ⟨l, 0⟩]) (by simp [results, Try.results32, go_sem, rv]) rfl ⟨rfl, ?_⟩
  all_goals exact (below2 _ _ _).drew
theorem dbyte_any (s : R) (hl : s.rest.length ≤ 1000000000) (w : World) :
    Calls Try.prog 32 #[rv s] w fun r w' => r = .returned (.tuple #[.int .u8 (byteR s).1, rv (byteR s).2]) ∧ Below w.heap.size w w' := by
  obtain ⟨l, e⟩ := s
  by_cases he : e = 0
  · subst he
    cases l with
    | nil => rw [byte_none]; exact dbyte_none w
    | cons c l => rw [byte_some]; exact dbyte_some c l (by simp at hl; omega) w
  · exact dbyte_err _ w he
end Wire
end Go.Proofs.Ytdjddbidhaeekaa
