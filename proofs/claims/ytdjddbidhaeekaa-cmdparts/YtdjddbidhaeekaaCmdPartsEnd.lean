/-
  CmdParts: any command.
-/
import Derived.Test.YtdjddbidhaeekaaCmdPartsNot
import Derived.Test.YtdjddbidhaeekaaCmdPartsMay
namespace Go.Proofs.Ytdjddbidhaeekaa
open Go.RowKit Go.WideShapes
namespace Cm
theorem open_cmd {H : Type} {enc : TypeId × Value → H} {base : Nat} {d : DataW H} {ps : List MemPlace} {v : Value} {w : World}
    (hok : Value.okWide Try.prog w .any base 25 v) (ht : DataW.Trod enc Try.prog w 0 (fun _ => true) true 25 v d ps) : ∃ x : Cm, v = x.val ∧ x.ok := by
  have hf := fit_Trod 4 (ks := [Leaf.int .u8, .int .u32, .int .u8, .str, .str, .str, .int .u8]) (by kernel_rfl) ht
  obtain ⟨cs, rfl, _⟩ := okWide_struct Try.underlying25 hok
  obtain ⟨cs⟩ := cs
  obtain ⟨x, hx, hk⟩ := dec cs hf
  exact ⟨x, by rw [hx], hk⟩
theorem parts_law {H : Type} {enc : TypeId × Value → H} {base : Nat} {d : DataW H} {ps : List MemPlace} (v : Value) (w : World)
    (hok : Value.okWide Try.prog w .any base 25 v) (ht : DataW.Trod enc Try.prog w 0 (fun _ => true) true 25 v d ps) :
    Calls Try.prog 6 #[v] w fun e w' => e = .returned (.bool true) ∧ Below w.heap.size w w' := by
  obtain ⟨x, rfl, hx⟩ := open_cmd hok ht
  by_cases h : x.may
  · exact parts_may x hx h w
  · exact parts_not x hx h w
end Cm
end Go.Proofs.Ytdjddbidhaeekaa
