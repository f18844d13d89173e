/-
  The package wire's reader, walked: the methods above Num, and Of, Str.
-/
import Derived.Test.YteilmkknedgmpaaWireRead
namespace Go.Proofs.Yteilmkknedgmpaa
open Go.RowKit
namespace Wire
theorem num_of (b : Nat) (s : R) (w : World) (h : Rdr w b s) (hl : s.rest.length < 9223372036854775808) :
    Calls Try.prog 16 #[rp b] w (Reads w b (.int .u64 (numR s).1) (numR s).2) := by
  by_cases hc : (byteR s).1 < 248
  · exact num_small_any b s w h hl hc
  · exact num_great_any b s w h hl hc
theorem num_nil (w : World) :
    Calls Try.prog 16 #[.pointer none] w fun e w' => e = .returned (.int .u64 0) ∧ w = w' := by
  go_enter Try.func16, Try.ntmps16
  go_wp2_with fail
  refine (byte_nil w).mono ?_
  rintro e w' ⟨rfl, rfl⟩
  go_wp2
  go_ret
  exact ⟨rfl, rfl⟩
theorem numR_len (s : R) : (numR s).2.rest.length ≤ s.rest.length := by
  have h1 := byteR_len s
  have h2 := takeR_len (byteR s).2 ((byteR s).1 - 247)
  unfold numR; split
  · exact h1
  · split
    · simp
    · exact Nat.le_trans h2 h1
theorem numR_lt (s : R) : (numR s).1 < 18446744073709551616 := by
  unfold numR; split
  · omega
  · split
    · simp
    · have h1 := takeR_len1 (byteR s).2 ((byteR s).1 - 247)
      have h2 := byteR_lt s
      have h3 := beN_lt (takeR (byteR s).2 ((byteR s).1 - 247)).1
      have h4 := pow8 (takeR (byteR s).2 ((byteR s).1 - 247)).1.length (by omega)
      omega
theorem below_of (b : Nat) (s : R) (x most : Nat) (w : World) (h : Rdr w b s) :
    Calls Try.prog 27 #[rp b, .int .u64 x, .int .u64 most] w (Reads w b (.int .u64 (belR s x most).1) (belR s x most).2) := by
  have h0 := h.c0
  have h1 := h.c1
  have f0 := h.fr 0
  have f1 := h.fr 1
  have hb := h.lt
  by_cases he : s.e = 0
  · have ht : ((s.e : Int) == 0) = true := by simp [he]
    by_cases hm : most < x
    · have hd : decide ((most : Int) < (x : Int)) = true := by simp; omega
      have HX := Lib.hid (show belR s x most = (0, ⟨[], 4⟩) by unfold belR; rw [if_neg (by simp [he]), if_pos hm])
      clear he
      go_enter Try.func27, Try.ntmps27
      go_wp2_with fail
      refine (fail_any b s 4 w h).mono ?_
      rintro e w' ⟨rfl, hg, hr⟩
      have h1' := hr.c1
      go_wp2
      go_ret
      rw [HX.out]
      exact ⟨rfl, hg, hr⟩
    · have hd : decide ((most : Int) < (x : Int)) = false := by simp; omega
      have HX := Lib.hid (show belR s x most = (x, s) by unfold belR; rw [if_neg (by simp [he]), if_neg hm])
      clear he
      go_enter Try.func27, Try.ntmps27
      go_wp2
      go_ret
      rw [HX.out]
      exact ⟨rfl, grefl _ _, h⟩
  · have ht : ((s.e : Int) == 0) = false := by simp; omega
    have HX := Lib.hid (show belR s x most = (0, s) by unfold belR; rw [if_pos he])
    go_enter Try.func27, Try.ntmps27
    go_wp2
    go_ret
    rw [HX.out]
    exact ⟨rfl, grefl _ _, h⟩
theorem left_of (b : Nat) (s : R) (w : World) (h : Rdr w b s) :
    Calls Try.prog 17 #[rp b] w fun e w' => e = .returned (.int .i64 s.rest.length) ∧ w = w' := by
  have h0 := h.c0
  have hs := bs_size s.rest
  go_enter Try.func17, Try.ntmps17
  go_wp2
  go_ret
  exact ⟨rfl, rfl⟩
theorem left_nil (w : World) :
    Calls Try.prog 17 #[.pointer none] w fun e w' => e = .returned (.int .i64 0) ∧ w = w' := by
  go_enter Try.func17, Try.ntmps17
  go_wp2
  go_ret
  exact ⟨rfl, rfl⟩
theorem err_of (b : Nat) (s : R) (w : World) (h : Rdr w b s) :
    Calls Try.prog 19 #[rp b] w fun e w' => e = .returned (.int .i64 s.e) ∧ w = w' := by
  have h1 := h.c1
  go_enter Try.func19, Try.ntmps19
  go_wp2
  go_ret
  exact ⟨rfl, rfl⟩
theorem err_nil (w : World) :
    Calls Try.prog 19 #[.pointer none] w fun e w' => e = .returned (.int .i64 1) ∧ w = w' := by
  go_enter Try.func19, Try.ntmps19
  go_wp2
  go_ret
  exact ⟨rfl, rfl⟩
theorem bad_of (b : Nat) (s : R) (w : World) (h : Rdr w b s) :
    Calls Try.prog 23 #[rp b] w (Reads w b (.tuple #[]) (badR s)) := by
  by_cases he : s.e = 0
  · have ht : ((s.e : Int) == 0) = true := by simp [he]
    have HX := Lib.hid (show badR s = ⟨[], 4⟩ by unfold badR; rw [if_pos he])
    clear he
    go_enter Try.func23, Try.ntmps23
    go_wp2_with fail
    refine (err_of b s w h).mono ?_
    rintro e w' ⟨rfl, rfl⟩
    go_wp2_with fail
    refine (fail_any b s 4 w h).mono ?_
    rintro e w' ⟨rfl, hg, hr⟩
    go_wp2
    go_end0
    rw [HX.out]
    exact ⟨rfl, hg, hr⟩
  · have ht : ((s.e : Int) == 0) = false := by simp; omega
    have HX := Lib.hid (show badR s = s by unfold badR; rw [if_neg he])
    go_enter Try.func23, Try.ntmps23
    go_wp2_with fail
    refine (err_of b s w h).mono ?_
    rintro e w' ⟨rfl, rfl⟩
    go_wp2
    go_end0
    rw [HX.out]
    exact ⟨rfl, grefl _ _, h⟩
theorem bad_nil (w : World) :
    Calls Try.prog 23 #[.pointer none] w fun e w' => e = .returned (.tuple #[]) ∧ w = w' := by
  go_enter Try.func23, Try.ntmps23
  go_wp2_with fail
  refine (err_nil w).mono ?_
  rintro e w' ⟨rfl, rfl⟩
  go_wp2
  go_end0
  exact ⟨rfl, rfl⟩
theorem end_of (b : Nat) (s : R) (w : World) (h : Rdr w b s) :
    Calls Try.prog 18 #[rp b] w (Reads w b (.int .i64 (endR s).e) (endR s)) := by
  by_cases he : 0 < s.rest.length
  · have ht : decide (0 < s.rest.length) = true := by simp; omega
    have HX := Lib.hid (show endR s = ⟨[], 4⟩ by unfold endR; rw [if_pos he])
    clear he
    go_enter Try.func18, Try.ntmps18
    go_wp2_with fail
    refine (left_of b s w h).mono ?_
    rintro e w' ⟨rfl, rfl⟩
    go_wp2_with fail
    refine (fail_any b s 4 w h).mono ?_
    rintro e w' ⟨rfl, hg, hr⟩
    go_wp2_with fail
    refine (err_of b _ w' hr).mono ?_
    rintro e w' ⟨rfl, rfl⟩
    go_wp2
    go_ret
    rw [HX.out]
    exact ⟨rfl, hg, hr⟩
  · have ht : decide (0 < s.rest.length) = false := by simpa using he
    have HX := Lib.hid (show endR s = s by unfold endR; rw [if_neg he])
    clear he
    go_enter Try.func18, Try.ntmps18
    go_wp2_with fail
    refine (left_of b s w h).mono ?_
    rintro e w' ⟨rfl, rfl⟩
    go_wp2_with fail
    refine (err_of b s _ h).mono ?_
    rintro e w' ⟨rfl, rfl⟩
    go_wp2
    go_ret
    rw [HX.out]
    exact ⟨rfl, grefl _ _, h⟩
theorem end_nil (w : World) :
    Calls Try.prog 18 #[.pointer none] w fun e w' => e = .returned (.int .i64 1) ∧ w = w' := by
  go_enter Try.func18, Try.ntmps18
  go_wp2_with fail
  refine (left_nil w).mono ?_
  rintro e w' ⟨rfl, rfl⟩
  go_wp2_with fail
  refine (err_nil w).mono ?_
  rintro e w' ⟨rfl, rfl⟩
  go_wp2
  go_ret
  exact ⟨rfl, rfl⟩
theorem new_of (l : List UInt8) (w : World) :
    Calls Try.prog 14 #[.string (bs l)] w fun e w' => e = .returned (rp w.heap.size) ∧ Below w.heap.size w w' ∧ Rdr w' w.heap.size ⟨l, 0⟩ := by
  go_enter Try.func14, Try.ntmps14
  go_wp2
  go_ret
  exact ⟨rfl, below1 _ _, Blk.new _ _⟩
end Wire
end Go.Proofs.Yteilmkknedgmpaa
