/-
  The package wire's reader, walked: Below and Str; and the writer Str.
-/
import Derived.Deep.RegionWith
import Derived.Test.YtdjddbidhaeekaaWireMore
namespace Go.Proofs.Ytdjddbidhaeekaa
open Go.RowKit
namespace Wire
theorem below_of (b : Nat) (s : R) (x most : Nat) (w : World) (h : Rdr w b s) :
    Calls Try.prog 44 #[rp b, .int .u64 x, .int .u64 most] w (Reads w b (.int .u64 (belR s x most).1) (belR s x most).2) := by
  have h0 := h.c0
  have h1 := h.c1
  have f0 := h.fr 0
  have f1 := h.fr 1
  have hb := h.lt
  by_cases he : s.e = 0
  · have ht : ((s.e : Int) == 0) = true := by simp [he]
    by_cases hm : most < x
    · have hd : decide ((most : Int) < (x : Int)) = true := by simp; omega
      have HX := Lib.hid (show belR s x most = (0, ⟨[], 4⟩) by unfold belR; rw [if_neg (by simp [he]), if_pos hm])
      clear he
      go_enter Try.func44, Try.ntmps44
      go_wp2_with fail
      refine (fail_any b s 4 w h).mono ?_
      rintro e w' ⟨rfl, hg, hr⟩
      have h1' := hr.c1
      go_wp2
      go_ret
      rw [HX.out]
      exact ⟨rfl, hg, hr⟩
    · have hd : decide ((most : Int) < (x : Int)) = false := by simp; omega
      have HX := Lib.hid (show belR s x most = (x, s) by unfold belR; rw [if_neg (by simp [he]), if_neg hm])
      clear he
      go_enter Try.func44, Try.ntmps44
      go_wp2
      go_ret
      rw [HX.out]
      exact ⟨rfl, grefl _ _, h⟩
  · have ht : ((s.e : Int) == 0) = false := by simp; omega
    have HX := Lib.hid (show belR s x most = (0, s) by unfold belR; rw [if_pos he])
    go_enter Try.func44, Try.ntmps44
    go_wp2
    go_ret
    rw [HX.out]
    exact ⟨rfl, grefl _ _, h⟩
theorem belR_len (s : R) (x m : Nat) : (belR s x m).2.rest.length ≤ s.rest.length := by
  unfold belR; split
  · exact Nat.le_refl _
  · split
    · simp
    · exact Nat.le_refl _
theorem belowR_bel (s : R) (n : Nat) (hn : 0 < n) : belowR s n = belR (numR s).2 (numR s).1 (n - 1) := by
  unfold belowR belR
  split
  · rfl
  · by_cases h : (numR s).1 < n
    · rw [if_pos h, if_neg (by omega)]
    · rw [if_neg h, if_pos (by omega)]
theorem below_any (b : Nat) (s : R) (n : Nat) (hn : n < 18446744073709551616) (w : World) (h : Rdr w b s) (hl : s.rest.length < 9223372036854775808) :
    Calls Try.prog 34 #[rp b, .int .u64 n] w (Reads w b (.int .u64 (belowR s n).1) (belowR s n).2) := by
  have HN := Lib.hid (num_of b s w h hl)
  by_cases h0 : n = 0
  · subst h0
    obtain ⟨x, s1, hns⟩ : ∃ x s1, numR s = (x, s1) := ⟨_, _, rfl⟩
    rw [hns] at HN
    by_cases he : s1.e = 0
    · have ht : ((s1.e : Int) == 0) = true := by simp [he]
      have HX := Lib.hid (show belowR s 0 = (0, ⟨[], 4⟩) by unfold belowR; rw [hns]; simp [he])
      have HY := Lib.hid (show belR ⟨[], 4⟩ x 18446744073709551615 = (0, ⟨[], 4⟩) from rfl)
      clear hns he
      go_enter Try.func34, Try.ntmps34
      go_wp2_with fail
      refine HN.out.mono ?_
      rintro e w1 ⟨rfl, hg, hr⟩
      have h1 := hr.c1
      go_wp2_with fail
      refine (fail_any b s1 4 w1 hr).mono ?_
      rintro e w2 ⟨rfl, hg2, hr2⟩
      go_wp2_with fail
      refine (below_of b _ x 18446744073709551615 w2 hr2).mono ?_
      rintro e w3 ⟨rfl, hg3, hr3⟩
      rw [HY.out] at hr3 ⊢
      go_wp2
      go_ret
      rw [HX.out]
      exact ⟨rfl, gtrans (gtrans hg hg2) hg3, hr3⟩
    · have ht : ((s1.e : Int) == 0) = false := by simp; omega
      have HX := Lib.hid (show belowR s 0 = (0, s1) by unfold belowR; rw [hns]; simp [he])
      have HY := Lib.hid (show belR s1 x 18446744073709551615 = (0, s1) by unfold belR; rw [if_pos he])
      clear hns he
      go_enter Try.func34, Try.ntmps34
      go_wp2_with fail
      refine HN.out.mono ?_
      rintro e w1 ⟨rfl, hg, hr⟩
      have h1 := hr.c1
      go_wp2_with fail
      refine (below_of b _ x 18446744073709551615 w1 hr).mono ?_
      rintro e w3 ⟨rfl, hg3, hr3⟩
      rw [HY.out] at hr3 ⊢
      go_wp2
      go_ret
      rw [HX.out]
      exact ⟨rfl, gtrans hg hg3, hr3⟩
  · have hz : ((n : Int) == 0) = false := by simp; omega
    have hw : IntKind.u64.wrap ((n : Int) - 1) = ((n - 1 : Nat) : Int) := by rw [IntKind.wrap_u64]; omega
    have hq : (n : Int) - 1 = ((n - 1 : Nat) : Int) := by omega
    have HX := Lib.hid (belowR_bel s n (by omega))
    obtain ⟨x, s1, hns⟩ : ∃ x s1, numR s = (x, s1) := ⟨_, _, rfl⟩
    rw [hns] at HN HX
    clear hns
    go_enter Try.func34, Try.ntmps34
    go_wp2_with fail
    refine HN.out.mono ?_
    rintro e w1 ⟨rfl, hg, hr⟩
    go_wp2_with fail
    refine (below_of b _ x (n - 1) w1 hr).mono ?_
    rintro e w3 ⟨rfl, hg3, hr3⟩
    go_wp2
    go_ret
    rw [HX.out]
    exact ⟨rfl, gtrans hg hg3, hr3⟩
theorem below_nil (n : Nat) (w : World) :
    Calls Try.prog 34 #[.pointer none, .int .u64 n] w fun e w' => e = .returned (.int .u64 0) ∧ w = w' := by
  go_enter Try.func34, Try.ntmps34
  go_wp2_with fail
  refine (num_nil w).mono ?_
  rintro e w' ⟨rfl, rfl⟩
  go_wp2
  go_ret
  exact ⟨rfl, rfl⟩
theorem str_nil (m : Int) (w : World) :
    Calls Try.prog 35 #[.pointer none, .int .i64 m] w fun e w' => e = .returned (.string (bs [])) ∧ w = w' := by
  go_enter Try.func35, Try.ntmps35
  go_wp2_with fail
  refine (num_nil w).mono ?_
  rintro e w' ⟨rfl, rfl⟩
  go_wp2
  go_ret
  exact ⟨rfl, rfl⟩
set_option maxHeartbeats 1000000 in
theorem str_any (b : Nat) (s : R) (m : Int) (hm : m < 9223372036854775808) (w : World) (h : Rdr w b s) (hl : s.rest.length < 9223372036854775808) :
    Calls Try.prog 35 #[rp b, .int .i64 m] w (Reads w b (.string (bs (strR s m.toNat).1)) (strR s m.toNat).2) := by
  have hl1 := numR_len s
  have HN := Lib.hid (num_of b s w h hl)
  obtain ⟨k, hk⟩ : ∃ k, m.toNat = k := ⟨_, rfl⟩
  have hmx : max m 0 = (k : Int) := by omega
  have hw : IntKind.u64.wrap (k : Int) = k := by rw [IntKind.wrap_u64]; omega
  rw [hk]
  clear hk
  have HX := Lib.hid (show strR s k = takeR (belR (numR s).2 (numR s).1 k).2 (belR (numR s).2 (numR s).1 k).1 from rfl)
  obtain ⟨x, s1, hns⟩ : ∃ x s1, numR s = (x, s1) := ⟨_, _, rfl⟩
  rw [hns] at HN HX hl1
  simp only [] at HX hl1
  clear hns
  have hl2 := belR_len s1 x k
  go_enter Try.func35, Try.ntmps35
  go_wp2_with fail
  refine HN.out.mono ?_
  rintro e w1 ⟨rfl, hg, hr⟩
  go_wp2_with fail
  go_region_with (first
    | (go_at_call 44; refine (below_of b s1 x k _ (Blk.drew hr)).mono ?_; rintro e wa ⟨rfl, hga, hra⟩)
    | (go_at_call 40; refine (take_any b _ _ _ hra (by omega)).mono ?_; rintro e wb ⟨rfl, hgb, hrb⟩))
  go_wp2_with fail
  go_ret
  rw [HX.out]
  exact ⟨rfl, gtrans (gtrans (gtrans hg (drew_grown _ _)) hga) hgb, hrb⟩
theorem strB_length (s : List UInt8) : (strB s).length = (numB s.length).length + s.length := by simp [strB]
theorem strCells_by8 (s : List UInt8) : Lib.strCells (bs s) = by8 s := by unfold Lib.strCells by8; rw [bs_data]
theorem str_put (base : Nat) (vb : Value) (k : Nat) (xs : List Value) (s : List UInt8) (hn : s.length ≤ 1000000000) (w : World) (hown : w.ownsRow base 5 1 vb k xs) (hk : k ≤ 1000000000) (hbase : base ≤ w.heap.size) :
    Calls Try.prog 26 #[vb, .string (bs s)] w fun e w' => ∃ v, e = .returned v ∧ w'.ownsRow base 5 1 v (k + (strB s).length) (xs ++ by8 (strB s)) ∧ Grew w vb w' v := by
  have hs := bs_size s
  have hw : IntKind.u64.wrap (s.length : Int) = s.length := by rw [IntKind.wrap_u64]; omega
  have hle := numB_le s.length
  have HB := Lib.hid (show xs ++ by8 (strB s) = (xs ++ by8 (numB s.length)) ++ Lib.strCells (bs s) by rw [strCells_by8, strB, by8_append, List.append_assoc])
  have HL := Lib.hid (show k + (strB s).length = k + (numB s.length).length + (bs s).size by rw [hs, strB_length, Nat.add_assoc])
  go_enter Try.func26, Try.ntmps26
  go_wp2_with fail
  refine (num_any base vb k xs s.length (by omega) w hown hk hbase).mono ?_
  rintro e w1 ⟨v, rfl, hown1, hg1⟩
  have hz := hg1.size
  go_wp2_with (at_builtin; go_loud (refine appSg rfl _ _ 26 9 rfl base 5 info Try.underlying26 Try.underlying9 _ v _ _ rfl hown1 _ rfl (by omega) (by omega) (by omega) ?_; intro v' w3 hown3 hg3))
  go_ret
  exact ⟨_, rfl, by rw [HB.out, HL.out]; exact hown3, hg1.trans hg3⟩
end Wire
end Go.Proofs.Ytdjddbidhaeekaa
