/-
  No cell of these rows narrows 'for every input' (looked for: loops, veiled, ifaces, maps, wideKeys, modest, calm, conditions, laid).
  DERIVED. THE GIVEN ROWS OF THIS SEAT. 5 by the template 'for every input the law returns true; each argument reads behind the call as it read before'; 0 by the template 'total and deterministic' (their statements: YteaegdigkdghpaaTotals.lean).
  GIVEN WITH THE SEED: the statements are not yours to turn. If you find one false, say at which input.
  Laid BY PROGRAM, IN A SANDBOX (cutbox-rows.mjs): the forced cells as the released guide's own fill.sh prints them over the translation 7bb672a589857bb6… (all of the seat's roots in one cut). By AI agents, Wed Nov 11 2026. No macro, syntax, notation, axiom, sorry.
-/
import Derived.Test.YteaegdigkdghpaaChecked
import GoSem.Claim
import GoSem.ClaimJoined
import GoSem.ClaimMapViews
import Derived.JoinedTies
import Derived.KernelRfl
namespace Go.Proofs.Yteaegdigkdghpaa
/- THE CELL 'sum', in the pinned program and in every row, IS THE sha256 OF THE DUMP (.gsa) THAT YteaegdigkdghpaaProg.lean LOADS. Nothing in Lean hashes anything: it is a label: what it is worth is what the hold of that sum in a sandbox is worth. -/
noncomputable def Try.pinned : Pinned := { name := "yteaegdigkdghpaa", sum := "7bb672a589857bb6f0ddc8432e4b8a3ad90cf72aff7e677d220ca8b379b4cc3f", checked := Try.checked }
namespace Rows
def none {H : Type} : Left H := { results := [], args := [] }

/-- 'palaverlaw07.BallotCalls': WHATEVER THE INPUT: true; the input reads as it did. -/
def ballotCallsSpec : ChangeSpec := { name := "ballotCalls", fn := fun _ => fun
  | [d1, d2, d3, d4] => { results := [.lit (.bool true)], args := [d1, d2, d3, d4] }
  | _ => none }
def ballotCallsRow : OpenClaim := { program := "yteaegdigkdghpaa", sum := "7bb672a589857bb6f0ddc8432e4b8a3ad90cf72aff7e677d220ca8b379b4cc3f", func := "palaver/palaverlaw07.BallotCalls", spec := "ballotCalls", apart := false }
def BallotCallsSaid : Prop := ballotCallsRow.holds Try.pinned (OpenSpec.ofChange ballotCallsSpec)

/-- ITS FALSE NEIGHBOUR: 'it returns false'. Refute it at one input. -/
def ballotCallsWrong : ChangeSpec := { name := "ballotCalls", fn := fun _ => fun
  | [d1, d2, d3, d4] => { results := [.lit (.bool false)], args := [d1, d2, d3, d4] }
  | _ => none }
def BallotCallsWrongFalsely : Prop := ballotCallsRow.holds Try.pinned (OpenSpec.ofChange ballotCallsWrong)

/-- 'palaverlaw07.BallotOrder': WHATEVER THE INPUT: true; the input reads as it did. -/
def ballotOrderSpec : ChangeSpec := { name := "ballotOrder", fn := fun _ => fun
  | [d1, d2, d3, d4] => { results := [.lit (.bool true)], args := [d1, d2, d3, d4] }
  | _ => none }
def ballotOrderRow : OpenClaim := { program := "yteaegdigkdghpaa", sum := "7bb672a589857bb6f0ddc8432e4b8a3ad90cf72aff7e677d220ca8b379b4cc3f", func := "palaver/palaverlaw07.BallotOrder", spec := "ballotOrder", apart := false }
def BallotOrderSaid : Prop := ballotOrderRow.holds Try.pinned (OpenSpec.ofChange ballotOrderSpec)

/-- ITS FALSE NEIGHBOUR: 'it returns false'. Refute it at one input. -/
def ballotOrderWrong : ChangeSpec := { name := "ballotOrder", fn := fun _ => fun
  | [d1, d2, d3, d4] => { results := [.lit (.bool false)], args := [d1, d2, d3, d4] }
  | _ => none }
def BallotOrderWrongFalsely : Prop := ballotOrderRow.holds Try.pinned (OpenSpec.ofChange ballotOrderWrong)

/-- 'palaverlaw07.BallotTurns': WHATEVER THE INPUT: true; the input reads as it did. -/
def ballotTurnsSpec : ChangeSpec := { name := "ballotTurns", fn := fun _ => fun
  | [d1, d2, d3] => { results := [.lit (.bool true)], args := [d1, d2, d3] }
  | _ => none }
def ballotTurnsRow : OpenClaim := { program := "yteaegdigkdghpaa", sum := "7bb672a589857bb6f0ddc8432e4b8a3ad90cf72aff7e677d220ca8b379b4cc3f", func := "palaver/palaverlaw07.BallotTurns", spec := "ballotTurns", apart := false }
def BallotTurnsSaid : Prop := ballotTurnsRow.holds Try.pinned (OpenSpec.ofChange ballotTurnsSpec)

/-- ITS FALSE NEIGHBOUR: 'it returns false'. Refute it at one input. -/
def ballotTurnsWrong : ChangeSpec := { name := "ballotTurns", fn := fun _ => fun
  | [d1, d2, d3] => { results := [.lit (.bool false)], args := [d1, d2, d3] }
  | _ => none }
def BallotTurnsWrongFalsely : Prop := ballotTurnsRow.holds Try.pinned (OpenSpec.ofChange ballotTurnsWrong)

/-- 'palaverlaw07.BallotBytes': WHATEVER THE INPUT: true; the input reads as it did. -/
def ballotBytesSpec : ChangeSpec := { name := "ballotBytes", fn := fun _ => fun
  | [d1, d2, d3] => { results := [.lit (.bool true)], args := [d1, d2, d3] }
  | _ => none }
def ballotBytesRow : OpenClaim := { program := "yteaegdigkdghpaa", sum := "7bb672a589857bb6f0ddc8432e4b8a3ad90cf72aff7e677d220ca8b379b4cc3f", func := "palaver/palaverlaw07.BallotBytes", spec := "ballotBytes", apart := false }
def BallotBytesSaid : Prop := ballotBytesRow.holds Try.pinned (OpenSpec.ofChange ballotBytesSpec)

/-- ITS FALSE NEIGHBOUR: 'it returns false'. Refute it at one input. -/
def ballotBytesWrong : ChangeSpec := { name := "ballotBytes", fn := fun _ => fun
  | [d1, d2, d3] => { results := [.lit (.bool false)], args := [d1, d2, d3] }
  | _ => none }
def BallotBytesWrongFalsely : Prop := ballotBytesRow.holds Try.pinned (OpenSpec.ofChange ballotBytesWrong)

/-- 'palaverlaw07.BallotBack': WHATEVER THE INPUT: true; the input reads as it did. -/
def ballotBackSpec : ChangeSpec := { name := "ballotBack", fn := fun _ => fun
  | [d] => { results := [.lit (.bool true)], args := [d] }
  | _ => none }
def ballotBackRow : OpenClaim := { program := "yteaegdigkdghpaa", sum := "7bb672a589857bb6f0ddc8432e4b8a3ad90cf72aff7e677d220ca8b379b4cc3f", func := "palaver/palaverlaw07.BallotBack", spec := "ballotBack", apart := false }
def BallotBackSaid : Prop := ballotBackRow.holds Try.pinned (OpenSpec.ofChange ballotBackSpec)

/-- ITS FALSE NEIGHBOUR: 'it returns false'. Refute it at one input. -/
def ballotBackWrong : ChangeSpec := { name := "ballotBack", fn := fun _ => fun
  | [d] => { results := [.lit (.bool false)], args := [d] }
  | _ => none }
def BallotBackWrongFalsely : Prop := ballotBackRow.holds Try.pinned (OpenSpec.ofChange ballotBackWrong)

/- THE SECOND FORM. 'bulk': how many values and letters a reading holds, each counted each time it is reached (what is shared counts as often as it is met; a slice's spare places count too). A statement '..UptoSaid' is the law's where the arguments, and the package variables that the reading takes, are together of bulk at most 1048576: NARROWER than '..Said'. Prove '..Said' where nothing that the law and all that it calls make is longer than what came in: it says more and counts as full. Else prove '..UptoSaid'. A law counts once. -/
mutual
def uptoBulk {H : Type} : DataW H → Nat
  | .lit (.string bytes) => bytes.length + 1
  | .lit _ => 1
  | .nil => 1
  | .ptr d => uptoBulk d + 1
  | .slice elems spare => uptoBulkAll elems + uptoBulkAll spare + 1
  | .agg parts => uptoBulkAll parts + 1
  | .iface _ d => uptoBulk d + 1
  | .map entries => uptoBulkEntries entries + 1
  | .held _ => 1
def uptoBulkAll {H : Type} : List (DataW H) → Nat
  | [] => 0
  | d :: r => uptoBulk d + uptoBulkAll r
def uptoBulkEntries {H : Type} : List (Lit × DataW H) → Nat
  | [] => 0
  | x :: r => uptoBulkEntry x + uptoBulkEntries r
def uptoBulkEntry {H : Type} : Lit × DataW H → Nat
  | (.string bytes, d) => bytes.length + uptoBulk d + 1
  | (_, d) => uptoBulk d + 1
 end
def uptoSmall : (H : Type) → List (DataW H) → Bool := fun _ ds => decide (uptoBulkAll ds ≤ 1048576)
def OpenSpec.upto (s : _root_.Go.ChangeSpec) : _root_.Go.OpenSpec := { _root_.Go.OpenSpec.ofChange s with cond := some uptoSmall }

/-- 'palaverlaw07.BallotCalls', WHERE WHAT IT READS IS OF BULK AT MOST 1048576: true; the input reads as it did. -/
def ballotCallsUptoRow : OpenClaim := { program := "yteaegdigkdghpaa", sum := "7bb672a589857bb6f0ddc8432e4b8a3ad90cf72aff7e677d220ca8b379b4cc3f", func := "palaver/palaverlaw07.BallotCalls", spec := "ballotCalls", apart := false, narrowed := true }
def BallotCallsUptoSaid : Prop := ballotCallsUptoRow.holds Try.pinned (OpenSpec.upto ballotCallsSpec)

/-- 'palaverlaw07.BallotOrder', WHERE WHAT IT READS IS OF BULK AT MOST 1048576: true; the input reads as it did. -/
def ballotOrderUptoRow : OpenClaim := { program := "yteaegdigkdghpaa", sum := "7bb672a589857bb6f0ddc8432e4b8a3ad90cf72aff7e677d220ca8b379b4cc3f", func := "palaver/palaverlaw07.BallotOrder", spec := "ballotOrder", apart := false, narrowed := true }
def BallotOrderUptoSaid : Prop := ballotOrderUptoRow.holds Try.pinned (OpenSpec.upto ballotOrderSpec)

/-- 'palaverlaw07.BallotTurns', WHERE WHAT IT READS IS OF BULK AT MOST 1048576: true; the input reads as it did. -/
def ballotTurnsUptoRow : OpenClaim := { program := "yteaegdigkdghpaa", sum := "7bb672a589857bb6f0ddc8432e4b8a3ad90cf72aff7e677d220ca8b379b4cc3f", func := "palaver/palaverlaw07.BallotTurns", spec := "ballotTurns", apart := false, narrowed := true }
def BallotTurnsUptoSaid : Prop := ballotTurnsUptoRow.holds Try.pinned (OpenSpec.upto ballotTurnsSpec)

/-- 'palaverlaw07.BallotBytes', WHERE WHAT IT READS IS OF BULK AT MOST 1048576: true; the input reads as it did. -/
def ballotBytesUptoRow : OpenClaim := { program := "yteaegdigkdghpaa", sum := "7bb672a589857bb6f0ddc8432e4b8a3ad90cf72aff7e677d220ca8b379b4cc3f", func := "palaver/palaverlaw07.BallotBytes", spec := "ballotBytes", apart := false, narrowed := true }
def BallotBytesUptoSaid : Prop := ballotBytesUptoRow.holds Try.pinned (OpenSpec.upto ballotBytesSpec)

/-- 'palaverlaw07.BallotBack', WHERE WHAT IT READS IS OF BULK AT MOST 1048576: true; the input reads as it did. -/
def ballotBackUptoRow : OpenClaim := { program := "yteaegdigkdghpaa", sum := "7bb672a589857bb6f0ddc8432e4b8a3ad90cf72aff7e677d220ca8b379b4cc3f", func := "palaver/palaverlaw07.BallotBack", spec := "ballotBack", apart := false, narrowed := true }
def BallotBackUptoSaid : Prop := ballotBackUptoRow.holds Try.pinned (OpenSpec.upto ballotBackSpec)

end Rows
end Go.Proofs.Yteaegdigkdghpaa
