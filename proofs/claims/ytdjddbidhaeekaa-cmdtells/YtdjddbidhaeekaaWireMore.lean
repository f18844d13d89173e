/-
  The package wire's reader, walked: the methods above Num, and Of, Str.
-/
import Derived.Test.YtdjddbidhaeekaaWireRead
namespace Go.Proofs.Ytdjddbidhaeekaa
open Go.RowKit
namespace Wire
theorem drew_grown (w : World) (r : Option Nat) : w.grownBy w.drew r := ⟨rfl, rfl, rfl, Nat.le_refl _, fun _ _ _ => rfl⟩
theorem num_of (b : Nat) (s : R) (w : World) (h : Rdr w b s) (hl : s.rest.length < 9223372036854775808) :
    Calls Try.prog 43 #[rp b] w (Reads w b (.int .u64 (numR s).1) (numR s).2) := by
  by_cases hc : (byteR s).1 < 248
  · exact num_small_any b s w h hl hc
  · exact num_great_any b s w h hl hc
theorem num_nil (w : World) :
    Calls Try.prog 43 #[.pointer none] w fun e w' => e = .returned (.int .u64 0) ∧ w = w' := by
  go_enter Try.func43, Try.ntmps43
  go_wp2_with fail
  refine (byte_nil w).mono ?_
  rintro e w' ⟨rfl, rfl⟩
  go_wp2
  go_ret
  exact ⟨rfl, rfl⟩
theorem numR_len (s : R) : (numR s).2.rest.length ≤ s.rest.length := by
  have h1 := byteR_len s
  have h2 := takeR_len (byteR s).2 ((byteR s).1 - 247)
  unfold numR; split
  · exact h1
  · split
    · simp
    · exact Nat.le_trans h2 h1
theorem numR_lt (s : R) : (numR s).1 < 18446744073709551616 := by
  unfold numR; split
  · omega
  · split
    · simp
    · have h1 := takeR_len1 (byteR s).2 ((byteR s).1 - 247)
      have h2 := byteR_lt s
      have h3 := beN_lt (takeR (byteR s).2 ((byteR s).1 - 247)).1
      have h4 := pow8 (takeR (byteR s).2 ((byteR s).1 - 247)).1.length (by omega)
      omega
theorem left_of (b : Nat) (s : R) (w : World) (h : Rdr w b s) :
    Calls Try.prog 22 #[rp b] w fun e w' => e = .returned (.int .i64 s.rest.length) ∧ w = w' := by
  have h0 := h.c0
  have hs := bs_size s.rest
  go_enter Try.func22, Try.ntmps22
  go_wp2
  go_ret
  exact ⟨rfl, rfl⟩
theorem left_nil (w : World) :
    Calls Try.prog 22 #[.pointer none] w fun e w' => e = .returned (.int .i64 0) ∧ w = w' := by
  go_enter Try.func22, Try.ntmps22
  go_wp2
  go_ret
  exact ⟨rfl, rfl⟩
theorem err_of (b : Nat) (s : R) (w : World) (h : Rdr w b s) :
    Calls Try.prog 21 #[rp b] w fun e w' => e = .returned (.int .i64 s.e) ∧ w = w' := by
  have h1 := h.c1
  go_enter Try.func21, Try.ntmps21
  go_wp2
  go_ret
  exact ⟨rfl, rfl⟩
theorem err_nil (w : World) :
    Calls Try.prog 21 #[.pointer none] w fun e w' => e = .returned (.int .i64 1) ∧ w = w' := by
  go_enter Try.func21, Try.ntmps21
  go_wp2
  go_ret
  exact ⟨rfl, rfl⟩
theorem bad_of (b : Nat) (s : R) (w : World) (h : Rdr w b s) :
    Calls Try.prog 30 #[rp b] w (Reads w b (.tuple #[]) (badR s)) := by
  by_cases he : s.e = 0
  · have ht : ((s.e : Int) == 0) = true := by simp [he]
    have HX := Lib.hid (show badR s = ⟨[], 4⟩ by unfold badR; rw [if_pos he])
    clear he
    go_enter Try.func30, Try.ntmps30
    go_wp2_with fail
    refine (err_of b s w h).mono ?_
    rintro e w' ⟨rfl, rfl⟩
    go_wp2_with fail
    refine (fail_any b s 4 w h).mono ?_
    rintro e w' ⟨rfl, hg, hr⟩
    go_wp2
    go_end0
    rw [HX.out]
    exact ⟨rfl, hg, hr⟩
  · have ht : ((s.e : Int) == 0) = false := by simp; omega
    have HX := Lib.hid (show badR s = s by unfold badR; rw [if_neg he])
    go_enter Try.func30, Try.ntmps30
    go_wp2_with fail
    refine (err_of b s w h).mono ?_
    rintro e w' ⟨rfl, rfl⟩
    go_wp2
    go_end0
    rw [HX.out]
    exact ⟨rfl, grefl _ _, h⟩
theorem bad_nil (w : World) :
    Calls Try.prog 30 #[.pointer none] w fun e w' => e = .returned (.tuple #[]) ∧ w = w' := by
  go_enter Try.func30, Try.ntmps30
  go_wp2_with fail
  refine (err_nil w).mono ?_
  rintro e w' ⟨rfl, rfl⟩
  go_wp2
  go_end0
  exact ⟨rfl, rfl⟩
theorem end_of (b : Nat) (s : R) (w : World) (h : Rdr w b s) :
    Calls Try.prog 31 #[rp b] w (Reads w b (.int .i64 (endR s).e) (endR s)) := by
  by_cases he : 0 < s.rest.length
  · have ht : decide (0 < s.rest.length) = true := by simp; omega
    have HX := Lib.hid (show endR s = ⟨[], 4⟩ by unfold endR; rw [if_pos he])
    clear he
    go_enter Try.func31, Try.ntmps31
    go_wp2_with fail
    refine (left_of b s w h).mono ?_
    rintro e w' ⟨rfl, rfl⟩
    go_wp2_with fail
    refine (fail_any b s 4 w h).mono ?_
    rintro e w' ⟨rfl, hg, hr⟩
    go_wp2_with fail
    refine (err_of b _ w' hr).mono ?_
    rintro e w' ⟨rfl, rfl⟩
    go_wp2
    go_ret
    rw [HX.out]
    exact ⟨rfl, hg, hr⟩
  · have ht : decide (0 < s.rest.length) = false := by simpa using he
    have HX := Lib.hid (show endR s = s by unfold endR; rw [if_neg he])
    clear he
    go_enter Try.func31, Try.ntmps31
    go_wp2_with fail
    refine (left_of b s w h).mono ?_
    rintro e w' ⟨rfl, rfl⟩
    go_wp2_with fail
    refine (err_of b s _ h).mono ?_
    rintro e w' ⟨rfl, rfl⟩
    go_wp2
    go_ret
    rw [HX.out]
    exact ⟨rfl, grefl _ _, h⟩
theorem end_nil (w : World) :
    Calls Try.prog 31 #[.pointer none] w fun e w' => e = .returned (.int .i64 1) ∧ w = w' := by
  go_enter Try.func31, Try.ntmps31
  go_wp2_with fail
  refine (left_nil w).mono ?_
  rintro e w' ⟨rfl, rfl⟩
  go_wp2_with fail
  refine (err_nil w).mono ?_
  rintro e w' ⟨rfl, rfl⟩
  go_wp2
  go_ret
  exact ⟨rfl, rfl⟩
theorem new_of (l : List UInt8) (w : World) :
    Calls Try.prog 17 #[.string (bs l)] w fun e w' => e = .returned (rp w.heap.size) ∧ Below w.heap.size w w' ∧ Rdr w' w.heap.size ⟨l, 0⟩ := by
  go_enter Try.func17, Try.ntmps17
  go_wp2
  go_ret
  exact ⟨rfl, below1 _ _, Blk.new _ _⟩
end Wire
end Go.Proofs.Ytdjddbidhaeekaa
