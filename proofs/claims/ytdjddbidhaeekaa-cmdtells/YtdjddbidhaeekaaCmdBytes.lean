/-
  Commands as bytes, and reading them. Plain.
-/
import Derived.Test.YtdjddbidhaeekaaCmdPure
import Derived.Test.YtdjddbidhaeekaaWirePure
import Derived.Test.YtdjddbidhaeekaaWireRead
import Derived.Test.YtdjddbidhaeekaaWireOwn
namespace Go.Proofs.Ytdjddbidhaeekaa
open Go.RowKit Go.WideShapes
namespace Cm
open Wire
def bytes (x : Cm) : List UInt8 := UInt8.ofNat x.cl :: (numB x.sq ++ UInt8.ofNat x.kd :: (strB x.key.data.toList ++ (strB x.old.data.toList ++ (strB x.new.data.toList ++ [UInt8.ofNat x.set]))))
/-- Texts that are looked at. -/
def short (x : Cm) : Prop := x.key.size ≤ 300 ∧ x.old.size ≤ 300 ∧ x.new.size ≤ 300
theorem strB_le (s : List UInt8) : (strB s).length ≤ s.length + 9 := by
  have := numB_le s.length
  unfold strB; rw [List.length_append]; omega
theorem bytes_le (x : Cm) (h : x.short) : x.bytes.length ≤ 960 := by
  have h1 := numB_le x.sq
  have h2 := strB_le x.key.data.toList
  have h3 := strB_le x.old.data.toList
  have h4 := strB_le x.new.data.toList
  have e1 : x.key.data.toList.length = x.key.size := rfl
  have e2 : x.old.data.toList.length = x.old.size := rfl
  have e3 : x.new.data.toList.length = x.new.size := rfl
  obtain ⟨g1, g2, g3⟩ := h
  unfold bytes
  simp only [List.length_cons, List.length_append, List.length_nil]
  omega
/-- What is read as a command, before it is looked at. -/
def rawC (s : R) : Cm × R :=
  (⟨(byteR s).1, (belowR (byteR s).2 4294967296).1, (byteR (belowR (byteR s).2 4294967296).2).1,
    bs (strR (byteR (belowR (byteR s).2 4294967296).2).2 16).1,
    bs (strR (strR (byteR (belowR (byteR s).2 4294967296).2).2 16).2 64).1,
    bs (strR (strR (strR (byteR (belowR (byteR s).2 4294967296).2).2 16).2 64).2 64).1,
    (byteR (strR (strR (strR (byteR (belowR (byteR s).2 4294967296).2).2 16).2 64).2 64).2).1⟩,
   (byteR (strR (strR (strR (byteR (belowR (byteR s).2 4294967296).2).2 16).2 64).2 64).2).2)
/-- What is left behind a command. -/
def leftC (s : R) : R := if (rawC s).1.may then (rawC s).2 else badR (rawC s).2
def takeC (s : R) : Cm × R := (if (leftC s).e = 0 then (rawC s).1 else zero, leftC s)
/-- The first commands, as long as there is no error. -/
def docC (s : R) : Nat → List Cm × R
  | 0 => ([], s)
  | k + 1 => if (docC s k).2.e = 0 then ((docC s k).1 ++ [(takeC (docC s k).2).1], (takeC (docC s k).2).2) else docC s k
/-- A batch's bytes, and the error. -/
def batchR (l : List Cm) : List UInt8 × Nat := if l = [] then ([], 0) else if l.length ≤ 4 ∧ ∀ x ∈ l, x.may then (UInt8.ofNat l.length :: l.flatMap bytes, 0) else ([], 2)
/-- The reader behind a batch's first byte. -/
def headR (s : List UInt8) : Nat × R := if (byteR ⟨s, 0⟩).1 = 0 ∨ 4 < (byteR ⟨s, 0⟩).1 then ((byteR ⟨s, 0⟩).1, badR (byteR ⟨s, 0⟩).2) else byteR ⟨s, 0⟩
/-- What bytes are as a batch, and the error. -/
def parseR (s : List UInt8) : List Cm × Nat :=
  if s = [] then ([], 0) else
  if (endR (docC (headR s).2 (headR s).1).2).e = 0 then ((docC (headR s).2 (headR s).1).1, 0) else ([], (endR (docC (headR s).2 (headR s).1).2).e)
end Cm
end Go.Proofs.Ytdjddbidhaeekaa
