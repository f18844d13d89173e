/-
  Seat 01: the law WireWrites, of the arguments as they come in.
-/
import Derived.Test.YteilmkknedgmpaaFlat
import Derived.Test.YteilmkknedgmpaaWireWrites
namespace Go.Proofs.Yteilmkknedgmpaa
open Go.RowKit
namespace Wire
theorem u8s_by8 (l : List Nat) (hl : ∀ x ∈ l, x < 256) : u8s l = by8 (l.map UInt8.ofNat) := by
  rw [by8_u8s]
  congr 1
  rw [List.map_map]
  conv => lhs; rw [← List.map_id l]
  apply List.map_congr_left
  intro x hx
  have := hl x hx
  simp; omega
theorem open_u8 {w : World} {v : Value} {l : List Nat} (h : RdB w v l) : ∃ l : List UInt8, RdV w v l.length (by8 l) := by
  have hl : ∀ x ∈ l, x < 256 := by obtain ⟨_, _, _, hl, _⟩ := h; exact hl
  have := h.to
  rw [u8s_by8 l hl] at this
  exact ⟨l.map UInt8.ofNat, by simpa using this⟩
theorem writes_open {H : Type} {enc : TypeId × Value → H} {base : Nat} {d : DataW H} {ps : List MemPlace} (v : Value) (n : Int) (s : ByteArray) (w : World)
    (hok : Value.okWide Try.prog w .any base 22 v) (ht : DataW.Trod enc Try.prog w 0 (fun _ => true) true 22 v d ps) (hn : (Lit.int .u64 n).wf = true) (_ : s.size ≤ maxLen) :
    Calls Try.prog 3 #[v, .int .u64 n, .string s] w fun e w' => e = .returned (.bool true) ∧ Below w.heap.size w w' := by
  obtain ⟨l, hl⟩ := flat_u8s Try.underlying22 Try.underlying5 (by kernel_rfl) hok ht
  exact writes_law v n s w (open_u8 hl) hn
end Wire
end Go.Proofs.Yteilmkknedgmpaa
