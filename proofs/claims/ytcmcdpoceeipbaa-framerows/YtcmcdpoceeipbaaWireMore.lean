/-
  The package wire's reader, walked: the methods above Num, and Of, Str.
-/
import Derived.Test.YtcmcdpoceeipbaaWireRead
namespace Go.Proofs.Ytcmcdpoceeipbaa
open Go.RowKit
namespace Wire
theorem drew_grown (w : World) (r : Option Nat) : w.grownBy w.drew r := ⟨rfl, rfl, rfl, Nat.le_refl _, fun _ _ _ => rfl⟩
theorem num_of (b : Nat) (s : R) (w : World) (h : Rdr w b s) (hl : s.rest.length < 9223372036854775808) :
    Calls Try.prog 23 #[rp b] w (Reads w b (.int .u64 (numR s).1) (numR s).2) := by
  by_cases hc : (byteR s).1 < 248
  · exact num_small_any b s w h hl hc
  · exact num_great_any b s w h hl hc
theorem num_nil (w : World) :
    Calls Try.prog 23 #[.pointer none] w fun e w' => e = .returned (.int .u64 0) ∧ w = w' := by
  go_enter Try.func23, Try.ntmps23
  go_wp2_with fail
  refine (byte_nil w).mono ?_
  rintro e w' ⟨rfl, rfl⟩
  go_wp2
  go_ret
  exact ⟨rfl, rfl⟩
theorem numR_len (s : R) : (numR s).2.rest.length ≤ s.rest.length := by
  have h1 := byteR_len s
  have h2 := takeR_len (byteR s).2 ((byteR s).1 - 247)
  unfold numR; split
  · exact h1
  · split
    · simp
    · exact Nat.le_trans h2 h1
theorem numR_lt (s : R) : (numR s).1 < 18446744073709551616 := by
  unfold numR; split
  · omega
  · split
    · simp
    · have h1 := takeR_len1 (byteR s).2 ((byteR s).1 - 247)
      have h2 := byteR_lt s
      have h3 := beN_lt (takeR (byteR s).2 ((byteR s).1 - 247)).1
      have h4 := pow8 (takeR (byteR s).2 ((byteR s).1 - 247)).1.length (by omega)
      omega
theorem left_of (b : Nat) (s : R) (w : World) (h : Rdr w b s) :
    Calls Try.prog 25 #[rp b] w fun e w' => e = .returned (.int .i64 s.rest.length) ∧ w = w' := by
  have h0 := h.c0
  have hs := bs_size s.rest
  go_enter Try.func25, Try.ntmps25
  go_wp2
  go_ret
  exact ⟨rfl, rfl⟩
theorem left_nil (w : World) :
    Calls Try.prog 25 #[.pointer none] w fun e w' => e = .returned (.int .i64 0) ∧ w = w' := by
  go_enter Try.func25, Try.ntmps25
  go_wp2
  go_ret
  exact ⟨rfl, rfl⟩
theorem err_of (b : Nat) (s : R) (w : World) (h : Rdr w b s) :
    Calls Try.prog 24 #[rp b] w fun e w' => e = .returned (.int .i64 s.e) ∧ w = w' := by
  have h1 := h.c1
  go_enter Try.func24, Try.ntmps24
  go_wp2
  go_ret
  exact ⟨rfl, rfl⟩
theorem err_nil (w : World) :
    Calls Try.prog 24 #[.pointer none] w fun e w' => e = .returned (.int .i64 1) ∧ w = w' := by
  go_enter Try.func24, Try.ntmps24
  go_wp2
  go_ret
  exact ⟨rfl, rfl⟩
theorem new_of (l : List UInt8) (w : World) :
    Calls Try.prog 22 #[.string (bs l)] w fun e w' => e = .returned (rp w.heap.size) ∧ Below w.heap.size w w' ∧ Rdr w' w.heap.size ⟨l, 0⟩ := by
  go_enter Try.func22, Try.ntmps22
  go_wp2
  go_ret
  exact ⟨rfl, below1 _ _, Blk.new _ _⟩
end Wire
end Go.Proofs.Ytcmcdpoceeipbaa
