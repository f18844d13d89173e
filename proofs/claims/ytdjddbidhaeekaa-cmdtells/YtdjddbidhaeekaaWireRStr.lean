/-
  The document's Str, walked.
-/
import Derived.Test.YtdjddbidhaeekaaWireRef
import Derived.Test.YtdjddbidhaeekaaWireOwn
namespace Go.Proofs.Ytdjddbidhaeekaa
open Go.RowKit
namespace Wire
theorem rstr_any (s : List UInt8) (hn : s.length ≤ 1000000000) (w : World) :
    Calls Try.prog 28 #[.string (bs s)] w fun e w' => e = .returned (.string (bs (strB s))) ∧ Below w.heap.size w w' := by
  have hs := bs_size s
  have hw : IntKind.u64.wrap (s.length : Int) = s.length := by rw [IntKind.wrap_u64]; omega
  have hc := bs_append (numB s.length) s
  have hA := bs_size (numB s.length)
  have hle := numB_le s.length
  have hsum : ¬ 9223372036854775807 < (numB s.length).length + s.length := by omega
  have hsum' : ¬ 9223372036854775807 < ((numB s.length).length : Int) + (s.length : Int) := by omega
  go_enter Try.func28, Try.ntmps28
  go_wp2_with fail
  refine (rnum_any s.length (by omega) w).mono ?_
  rintro e w' ⟨rfl, hb⟩
  go_wp2
  go_ret
  exact ⟨rfl, hb⟩
end Wire
end Go.Proofs.Ytdjddbidhaeekaa
