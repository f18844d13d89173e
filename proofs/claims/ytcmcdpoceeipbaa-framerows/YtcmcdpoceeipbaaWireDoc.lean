/-
  Seat 01: the document's own reader, walked.
-/
import Derived.BigRegion
import Derived.Test.YtcmcdpoceeipbaaWireRef
namespace Go.Proofs.Ytcmcdpoceeipbaa
open Go.RowKit
namespace Wire
/-- The document's reader, a value. -/
def rv (s : R) : Value := .agg #[.string (bs s.rest), .int .i64 s.e]
theorem none_any (e : Nat) (w : World) :
    Calls Try.prog 35 #[.int .i64 e] w fun r w' => r = .returned (rv ⟨[], e⟩) ∧ Below w.heap.size w w' := by
  go_enter Try.func35, Try.ntmps35
  go_wp2
  refine bodyPost_ret (v := rv ⟨[], e⟩) (by simp [results, Try.results35, go_sem, rv, bs]) rfl ⟨rfl, ?_⟩
  exact below1 _ _
theorem bs_get0 (c : UInt8) (l : List UInt8) : (bs (c :: l))[0]'(by rw [bs_size]; simp) = c := by simp [bs, ByteArray.getElem_eq_getElem_data]
end Wire
end Go.Proofs.Ytcmcdpoceeipbaa
