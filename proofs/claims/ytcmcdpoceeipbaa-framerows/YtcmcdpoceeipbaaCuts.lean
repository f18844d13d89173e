/-
  Pieces of a text. No statement of its own.
-/
import Derived.Test.YtcmcdpoceeipbaaWireNum
namespace Go.Proofs.Ytcmcdpoceeipbaa
open Go.RowKit
namespace Wire
theorem cut_lo (l : List UInt8) (k : Nat) (h : k ≤ l.length) (w : World) : (Instr.slice 9 (.string (bs l)) (some (.int .i64 (k : Int))) none none).run Try.prog w = .ok (.string (bs (l.drop k))) w := by
  have hz := bs_size l
  rw [run_slice_string_l w _ _ Try.underlying9 _ _ (by omega) (by rw [hz]; omega)]
  have e : (bs l).extract k (bs l).size = bs (l.drop k) := by rw [bs_extract, hz, List.take_of_length_le (by rw [List.length_drop]; omega)]
  rw [← e]; simp
theorem cut_hi (l : List UInt8) (k : Nat) (h : k ≤ l.length) (w : World) : (Instr.slice 9 (.string (bs l)) none (some (.int .i64 (k : Int))) none).run Try.prog w = .ok (.string (bs (l.take k))) w := by
  have hz := bs_size l
  rw [run_slice_string_h w _ _ Try.underlying9 _ _ (by omega) (by rw [hz]; omega)]
  have e : (bs l).extract 0 k = bs (l.take k) := by rw [bs_extract]; simp
  rw [← e]; simp
theorem cut_both (l : List UInt8) (a b : Nat) (h : a ≤ b) (h2 : b ≤ l.length) (w : World) : (Instr.slice 9 (.string (bs l)) (some (.int .i64 (a : Int))) (some (.int .i64 (b : Int))) none).run Try.prog w = .ok (.string (bs ((l.drop a).take (b - a)))) w := by
  have hz := bs_size l
  rw [run_slice_string w _ _ _ _ _ _ Try.underlying9 (by omega) (by omega) (by rw [hz]; omega)]
  have e : (bs l).extract a b = bs ((l.drop a).take (b - a)) := bs_extract l a b
  rw [← e]; simp
end Wire
end Go.Proofs.Ytcmcdpoceeipbaa
