/-
  Seat 01: the document's own writer and reader, walked.
-/
import Derived.Test.YtcmcdpoceeipbaaWireOwn
namespace Go.Proofs.Ytcmcdpoceeipbaa
open Go.RowKit
namespace Wire
theorem by8_u8 (x : UInt8) (l : List UInt8) : [Value.int .u8 (x.toNat : Int)] ++ by8 l = by8 (x :: l) := by simp [by8]
theorem one_u8 (l : List UInt8) : ∀ u ∈ by8 l, u.oneCell' = true := by
  intro u hu
  simp only [by8, List.mem_map] at hu
  obtain ⟨x, _, rfl⟩ := hu
  rfl
theorem num_at_end (n j : Nat) (hn : n < 18446744073709551616) (h0 : n ≠ 0) (hj : j ≤ wide n) (h : n / 256 ^ j = 0) : j = wide n := by
  have hp : 0 < 256 ^ j := Nat.pow_pos (by decide)
  have h1 : n < 256 ^ j := by
    rcases Nat.lt_or_ge n (256 ^ j) with h2 | h2
    · exact h2
    · have := Nat.div_pos h2 hp; omega
  have h2 := wide_ge n hn h0
  have h3 := wide_pos n hn h0
  rcases Nat.lt_or_ge j (wide n) with hl | hl
  · have := Nat.pow_le_pow_right (n := 256) (by decide) (show j ≤ wide n - 1 by omega)
    omega
  · omega
theorem num_go_on (n j : Nat) (hn : n < 18446744073709551616) (h : 0 < n / 256 ^ j) : j < wide n := by
  have h1 := wide_lt n hn
  rcases Nat.lt_or_ge j (wide n) with hl | hl
  · exact hl
  · have := Nat.pow_le_pow_right (n := 256) (by decide) hl
    have := Nat.div_eq_of_lt (Nat.lt_of_lt_of_le h1 this)
    omega
theorem own_one {w : World} {g base : Nat} {x : Value} (hb : Blk w g (.cells #[x] 5)) (hbase : base ≤ g) : w.ownsRow base 5 1 (.slice (some ⟨g, 0, none⟩) 1 1) 1 [x] :=
  ⟨rfl, .inr ⟨g, 1, #[x], rfl, hbase, hb, Nat.le_refl _, by decide, rfl, rfl⟩⟩
theorem div_step (n j : Nat) : n / 256 ^ j / 256 = n / 256 ^ (j + 1) := by rw [Nat.div_div_eq_div_mul, Nat.pow_succ]
set_option maxHeartbeats 2000000 in
theorem rnum_any (n : Nat) (hn : n < 18446744073709551616) (w : World) :
    Calls Try.prog 20 #[.int .u64 n] w fun e w' => e = .returned (.string (bs (numB n))) ∧ Below w.heap.size w w' := by
  by_cases h : n < 248
  · have h1 : decide ((n : Int) < 248) = true := by simp; omega
    have hw : IntKind.u8.wrap (n : Int) = (n : Int) := by rw [IntKind.wrap_u8]; omega
    have hx : by8 [UInt8.ofNat n] = [.int .u8 (n : Int)] := by simp [by8]; omega
    have HN := Lib.hid (show numB n = [UInt8.ofNat n] by rw [numB, if_pos h])
    have hcv := own_text (w := w.alloc (.cells #[.int .u8 (n : Int)] 5)) (l := [UInt8.ofNat n]) (by rw [hx]; exact own_one (Blk.new w _) (Nat.zero_le _))
    clear hx
    go_enter Try.func20, Try.ntmps20
    go_wp2
    go_ret
    rw [HN.out]
    exact ⟨rfl, below1 _ _⟩
  · have h1 : decide ((n : Int) < 248) = false := by simp; omega
    have HN := Lib.hid (show numB n = UInt8.ofNat (247 + wide n) :: beB (wide n) n by rw [numB, if_neg h])
    go_enter Try.func20, Try.ntmps20
    go_wp2
    go_loopw [0, 3] (fun x v wr => ∃ j : Nat, j ≤ wide n ∧ x = .int .u64 ((n / 256 ^ j : Nat) : Int) ∧ wr.ownsRow w.heap.size 5 1 v j (by8 (beB j n)) ∧ Below w.heap.size w wr) (fun x _ _ => (intOf x).toNat)
    case atStart => exact ⟨0, Nat.zero_le _, by simp, own_nil _ _, Below.refl _ _⟩
    case round =>
      obtain ⟨j, hj, rfl, hown, hB⟩ := hrel
      have hz := hB.size
      have w8 := wide_le n
      obtain ⟨q, hq⟩ : ∃ q, n / 256 ^ j = q := ⟨_, rfl⟩
      rw [hq]
      by_cases h0 : 0 < q
      · have hd : decide ((0 : Int) < (q : Int)) = true := by simp; omega
        have hd' : decide (0 < q) = true := by simp; omega
        have hjl := num_go_on n j hn (by omega)
        have hcv : IntKind.u8.wrap ((q : Int) % 256) = ((UInt8.ofNat q).toNat : Int) := by rw [IntKind.wrap_u8, UInt8.toNat_ofNat']; omega
        obtain ⟨r, hr⟩ : ∃ r, q / 256 = r := ⟨_, rfl⟩
        have hqd : (q : Int) / 256 = (r : Int) := by omega
        have HS := Lib.hid (show r = n / 256 ^ (j + 1) by rw [← hr, ← hq, div_step])
        have HB := Lib.hid (show by8 (beB (j + 1) n) = [Value.int .u8 ((UInt8.ofNat q).toNat : Int)] ++ by8 (beB j n) by rw [beB, hq, by8_u8])
        have hlt : r < q := by omega
        have hqn : q ≤ n := by rw [← hq]; exact Nat.div_le_self _ _
        have hwr : IntKind.u64.wrap (r : Int) = r := by rw [IntKind.wrap_u64]; omega
        generalize UInt8.ofNat q = x at *
        clear hr
        clear hq
        go_wp2_with (at_builtin; go_loud (refine appNg rfl _ _ 22 rfl w.heap.size 5 (.int .u8 0) 1 1 info Try.underlying22 rfl (by decide) _ _ _ _ (own_one (Blk.new wr _) (by omega)) rfl _ j (by8 (beB j n)) (RdV.owns (ownsRow_below hown (below1 _ _))) (by simp [by8_length, beB_length]) (one_u8 _) rfl (by omega) (by omega) (by simp; omega) ?_; intro v' w3 hown3 hg3))
        go_roundw
        case rel => exact ⟨j + 1, by omega, by rw [HS.out], by rw [HB.out]; simpa [Nat.add_comm] using hown3, hg3.below (hB.alloc (by omega) _) (by simp; omega) (fun b hb => by cases hb; exact hz)⟩
        case measure => simp [intOf]; omega
      · have hd : decide ((0 : Int) < (q : Int)) = false := by simp; omega
        have hd' : decide (0 < q) = false := by simp; omega
        have hje := num_at_end n j hn (by omega) hj (by omega)
        have hlen : (by8 (beB j n)).length = j := by rw [by8_length, beB_length]
        have hcv : IntKind.u8.wrap (247 + (j : Int)) = ((UInt8.ofNat (247 + wide n)).toNat : Int) := by rw [IntKind.wrap_u8, UInt8.toNat_ofNat']; omega
        have HM := Lib.hid (show by8 (numB n) = [Value.int .u8 ((UInt8.ofNat (247 + wide n)).toNat : Int)] ++ by8 (beB j n) by rw [HN.out, hje, by8_u8])
        generalize UInt8.ofNat (247 + wide n) = x at *
        clear hq hje
        obtain ⟨p, cap, rfl, _, _, _⟩ := RdV.owns hown
        go_wp2_with (at_builtin; go_loud (refine appNg rfl _ _ 22 rfl w.heap.size 5 (.int .u8 0) 1 1 info Try.underlying22 rfl (by decide) _ _ _ _ (own_one (Blk.new wr _) (by omega)) rfl _ j (by8 (beB j n)) (RdV.owns (ownsRow_below hown (below1 _ _))) (by simp [by8_length, beB_length]) (one_u8 _) rfl (by omega) (by omega) (by simp; omega) ?_; intro v' w3 hown3 hg3; have hcv3 := own_text (l := numB n) (by rw [HM.out]; exact hown3)))
        go_ret
        exact ⟨rfl, hg3.below (hB.alloc (by omega) _) (by simp; omega) (fun b hb => by cases hb; exact hz)⟩
end Wire
end Go.Proofs.Ytcmcdpoceeipbaa
