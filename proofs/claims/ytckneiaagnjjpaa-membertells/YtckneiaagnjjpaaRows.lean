/-
  No cell of these rows narrows 'for every input' (looked for: loops, veiled, ifaces, maps, wideKeys, modest, calm, conditions, laid).
  DERIVED. THE GIVEN ROWS OF THIS SEAT. 4 by the template 'for every input the law returns true; each argument reads behind the call as it read before'; 0 by the template 'total and deterministic' (their statements: YtckneiaagnjjpaaTotals.lean).
  GIVEN WITH THE SEED: the statements are not yours to turn. If you find one false, say at which input.
  Laid BY PROGRAM, IN A SANDBOX (cutbox-rows.mjs): the forced cells as the released guide's own fill.sh prints them over the translation 6c9306e9063ace9e… (all of the seat's roots in one cut). By AI agents, Wed Nov 11 2026. No macro, syntax, notation, axiom, sorry.
-/
import Derived.Test.YtckneiaagnjjpaaChecked
import GoSem.Claim
import GoSem.ClaimJoined
import GoSem.ClaimMapViews
import Derived.JoinedTies
import Derived.KernelRfl
namespace Go.Proofs.Ytckneiaagnjjpaa
/- THE CELL 'sum', in the pinned program and in every row, IS THE sha256 OF THE DUMP (.gsa) THAT YtckneiaagnjjpaaProg.lean LOADS. Nothing in Lean hashes anything: it is a label: what it is worth is what the hold of that sum in a sandbox is worth. -/
noncomputable def Try.pinned : Pinned := { name := "ytckneiaagnjjpaa", sum := "6c9306e9063ace9ec7b5e6cd036d89d47294fee177352952614d3cc4ad406d69", checked := Try.checked }
namespace Rows
def none {H : Type} : Left H := { results := [], args := [] }

/-- 'palaverlaw08.MemberMeet': WHATEVER THE INPUT: true; the input reads as it did. -/
def memberMeetSpec : ChangeSpec := { name := "memberMeet", fn := fun _ => fun
  | [d1, d2, d3, d4] => { results := [.lit (.bool true)], args := [d1, d2, d3, d4] }
  | _ => none }
def memberMeetRow : OpenClaim := { program := "ytckneiaagnjjpaa", sum := "6c9306e9063ace9ec7b5e6cd036d89d47294fee177352952614d3cc4ad406d69", func := "palaver/palaverlaw08.MemberMeet", spec := "memberMeet", unfollowed := true, recurses := true, apart := false }
def MemberMeetSaid : Prop := memberMeetRow.holds Try.pinned (OpenSpec.ofChange memberMeetSpec)

/-- ITS FALSE NEIGHBOUR: 'it returns false'. Refute it at one input. -/
def memberMeetWrong : ChangeSpec := { name := "memberMeet", fn := fun _ => fun
  | [d1, d2, d3, d4] => { results := [.lit (.bool false)], args := [d1, d2, d3, d4] }
  | _ => none }
def MemberMeetWrongFalsely : Prop := memberMeetRow.holds Try.pinned (OpenSpec.ofChange memberMeetWrong)

/-- 'palaverlaw08.MemberTells': WHATEVER THE INPUT: true; the input reads as it did. -/
def memberTellsSpec : ChangeSpec := { name := "memberTells", fn := fun _ => fun
  | [d1, d2, d3, d4] => { results := [.lit (.bool true)], args := [d1, d2, d3, d4] }
  | _ => none }
def memberTellsRow : OpenClaim := { program := "ytckneiaagnjjpaa", sum := "6c9306e9063ace9ec7b5e6cd036d89d47294fee177352952614d3cc4ad406d69", func := "palaver/palaverlaw08.MemberTells", spec := "memberTells", unfollowed := true, recurses := true, apart := false }
def MemberTellsSaid : Prop := memberTellsRow.holds Try.pinned (OpenSpec.ofChange memberTellsSpec)

/-- ITS FALSE NEIGHBOUR: 'it returns false'. Refute it at one input. -/
def memberTellsWrong : ChangeSpec := { name := "memberTells", fn := fun _ => fun
  | [d1, d2, d3, d4] => { results := [.lit (.bool false)], args := [d1, d2, d3, d4] }
  | _ => none }
def MemberTellsWrongFalsely : Prop := memberTellsRow.holds Try.pinned (OpenSpec.ofChange memberTellsWrong)

/-- 'palaverlaw08.MemberSets': WHATEVER THE INPUT: true; the input reads as it did. -/
def memberSetsSpec : ChangeSpec := { name := "memberSets", fn := fun _ => fun
  | [d1, d2] => { results := [.lit (.bool true)], args := [d1, d2] }
  | _ => none }
def memberSetsRow : OpenClaim := { program := "ytckneiaagnjjpaa", sum := "6c9306e9063ace9ec7b5e6cd036d89d47294fee177352952614d3cc4ad406d69", func := "palaver/palaverlaw08.MemberSets", spec := "memberSets", unfollowed := true, recurses := true, apart := false }
def MemberSetsSaid : Prop := memberSetsRow.holds Try.pinned (OpenSpec.ofChange memberSetsSpec)

/-- ITS FALSE NEIGHBOUR: 'it returns false'. Refute it at one input. -/
def memberSetsWrong : ChangeSpec := { name := "memberSets", fn := fun _ => fun
  | [d1, d2] => { results := [.lit (.bool false)], args := [d1, d2] }
  | _ => none }
def MemberSetsWrongFalsely : Prop := memberSetsRow.holds Try.pinned (OpenSpec.ofChange memberSetsWrong)

/-- 'palaverlaw08.MemberAlgebra': WHATEVER THE INPUT: true; the input reads as it did. -/
def memberAlgebraSpec : ChangeSpec := { name := "memberAlgebra", fn := fun _ => fun
  | [d1, d2, d3] => { results := [.lit (.bool true)], args := [d1, d2, d3] }
  | _ => none }
def memberAlgebraRow : OpenClaim := { program := "ytckneiaagnjjpaa", sum := "6c9306e9063ace9ec7b5e6cd036d89d47294fee177352952614d3cc4ad406d69", func := "palaver/palaverlaw08.MemberAlgebra", spec := "memberAlgebra", unfollowed := true, recurses := true, apart := false }
def MemberAlgebraSaid : Prop := memberAlgebraRow.holds Try.pinned (OpenSpec.ofChange memberAlgebraSpec)

/-- ITS FALSE NEIGHBOUR: 'it returns false'. Refute it at one input. -/
def memberAlgebraWrong : ChangeSpec := { name := "memberAlgebra", fn := fun _ => fun
  | [d1, d2, d3] => { results := [.lit (.bool false)], args := [d1, d2, d3] }
  | _ => none }
def MemberAlgebraWrongFalsely : Prop := memberAlgebraRow.holds Try.pinned (OpenSpec.ofChange memberAlgebraWrong)

/- THE SECOND FORM. 'bulk': how many values and letters a reading holds, each counted each time it is reached (what is shared counts as often as it is met; a slice's spare places count too). A statement '..UptoSaid' is the law's where the arguments, and the package variables that the reading takes, are together of bulk at most 1048576: NARROWER than '..Said'. Prove '..Said' where nothing that the law and all that it calls make is longer than what came in: it says more and counts as full. Else prove '..UptoSaid'. A law counts once. -/
mutual
def uptoBulk {H : Type} : DataW H → Nat
  | .lit (.string bytes) => bytes.length + 1
  | .lit _ => 1
  | .nil => 1
  | .ptr d => uptoBulk d + 1
  | .slice elems spare => uptoBulkAll elems + uptoBulkAll spare + 1
  | .agg parts => uptoBulkAll parts + 1
  | .iface _ d => uptoBulk d + 1
  | .map entries => uptoBulkEntries entries + 1
  | .held _ => 1
def uptoBulkAll {H : Type} : List (DataW H) → Nat
  | [] => 0
  | d :: r => uptoBulk d + uptoBulkAll r
def uptoBulkEntries {H : Type} : List (Lit × DataW H) → Nat
  | [] => 0
  | x :: r => uptoBulkEntry x + uptoBulkEntries r
def uptoBulkEntry {H : Type} : Lit × DataW H → Nat
  | (.string bytes, d) => bytes.length + uptoBulk d + 1
  | (_, d) => uptoBulk d + 1
 end
def uptoSmall : (H : Type) → List (DataW H) → Bool := fun _ ds => decide (uptoBulkAll ds ≤ 1048576)
def OpenSpec.upto (s : _root_.Go.ChangeSpec) : _root_.Go.OpenSpec := { _root_.Go.OpenSpec.ofChange s with cond := some uptoSmall }

/-- 'palaverlaw08.MemberMeet', WHERE WHAT IT READS IS OF BULK AT MOST 1048576: true; the input reads as it did. -/
def memberMeetUptoRow : OpenClaim := { program := "ytckneiaagnjjpaa", sum := "6c9306e9063ace9ec7b5e6cd036d89d47294fee177352952614d3cc4ad406d69", func := "palaver/palaverlaw08.MemberMeet", spec := "memberMeet", unfollowed := true, recurses := true, apart := false, narrowed := true }
def MemberMeetUptoSaid : Prop := memberMeetUptoRow.holds Try.pinned (OpenSpec.upto memberMeetSpec)

/-- 'palaverlaw08.MemberTells', WHERE WHAT IT READS IS OF BULK AT MOST 1048576: true; the input reads as it did. -/
def memberTellsUptoRow : OpenClaim := { program := "ytckneiaagnjjpaa", sum := "6c9306e9063ace9ec7b5e6cd036d89d47294fee177352952614d3cc4ad406d69", func := "palaver/palaverlaw08.MemberTells", spec := "memberTells", unfollowed := true, recurses := true, apart := false, narrowed := true }
def MemberTellsUptoSaid : Prop := memberTellsUptoRow.holds Try.pinned (OpenSpec.upto memberTellsSpec)

/-- 'palaverlaw08.MemberSets', WHERE WHAT IT READS IS OF BULK AT MOST 1048576: true; the input reads as it did. -/
def memberSetsUptoRow : OpenClaim := { program := "ytckneiaagnjjpaa", sum := "6c9306e9063ace9ec7b5e6cd036d89d47294fee177352952614d3cc4ad406d69", func := "palaver/palaverlaw08.MemberSets", spec := "memberSets", unfollowed := true, recurses := true, apart := false, narrowed := true }
def MemberSetsUptoSaid : Prop := memberSetsUptoRow.holds Try.pinned (OpenSpec.upto memberSetsSpec)

/-- 'palaverlaw08.MemberAlgebra', WHERE WHAT IT READS IS OF BULK AT MOST 1048576: true; the input reads as it did. -/
def memberAlgebraUptoRow : OpenClaim := { program := "ytckneiaagnjjpaa", sum := "6c9306e9063ace9ec7b5e6cd036d89d47294fee177352952614d3cc4ad406d69", func := "palaver/palaverlaw08.MemberAlgebra", spec := "memberAlgebra", unfollowed := true, recurses := true, apart := false, narrowed := true }
def MemberAlgebraUptoSaid : Prop := memberAlgebraUptoRow.holds Try.pinned (OpenSpec.upto memberAlgebraSpec)

end Rows
end Go.Proofs.Ytckneiaagnjjpaa
