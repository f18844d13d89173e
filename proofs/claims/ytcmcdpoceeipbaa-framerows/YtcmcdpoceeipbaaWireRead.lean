/-
  The package wire's reader, walked: what each method answers and leaves.
-/
import Derived.Test.YtcmcdpoceeipbaaWireNum
namespace Go.Proofs.Ytcmcdpoceeipbaa
open Go.RowKit
namespace Wire
/-- A reader in memory. -/
def Rdr (w : World) (b : Nat) (s : R) : Prop := Blk w b (.cells #[.string (bs s.rest), .int .i64 s.e] 69)
abbrev rp (b : Nat) : Value := .pointer (some ⟨b, 0, none⟩)
theorem Rdr.c0 {w : World} {b : Nat} {s : R} (h : Rdr w b s) : w.cell? ⟨b, 0, none⟩ = some (.string (bs s.rest)) := Blk.cell h 0
theorem Rdr.c1 {w : World} {b : Nat} {s : R} (h : Rdr w b s) : w.cell? ⟨b, 1, none⟩ = some (.int .i64 s.e) := Blk.cell h 1
theorem Rdr.fr {w : World} {b : Nat} {s : R} (h : Rdr w b s) (j : Nat) : w.frozen? ⟨b, j, none⟩ = false := Blk.frozen h j
theorem Rdr.put {w : World} {b : Nat} {s : R} (h : Rdr w b s) (r : List UInt8) : Rdr (w.setCell ⟨b, 0, none⟩ (.string (bs r))) b ⟨r, s.e⟩ := Blk.set h 0 _
theorem Rdr.set {w : World} {b : Nat} {s : R} (h : Rdr w b s) (n : Nat) : Rdr ((w.setCell ⟨b, 0, none⟩ (.string (bs []))).setCell ⟨b, 1, none⟩ (.int .i64 n)) b ⟨[], n⟩ := Blk.set (Blk.set h 0 _) 1 _
theorem gset (w : World) (b j : Nat) (v : Value) : w.grownBy (w.setCell ⟨b, j, none⟩ v) (some b) := ⟨rfl, rfl, rfl, by simp, fun k _ hne => Below.heap_setCell _ _ _ _ (fun e => hne (by rw [e]))⟩
theorem gtrans {w w1 w2 : World} {r : Option Nat} (h : w.grownBy w1 r) (g : w1.grownBy w2 r) : w.grownBy w2 r :=
  ⟨g.os.trans h.os, g.tape.trans h.tape, g.output.trans h.output, Nat.le_trans h.size g.size, fun k hk hne => (g.block k (Nat.lt_of_lt_of_le hk h.size) hne).trans (h.block k hk hne)⟩
theorem grefl (w : World) (r : Option Nat) : w.grownBy w r := ⟨rfl, rfl, rfl, Nat.le_refl _, fun _ _ _ => rfl⟩
/-- What a method's call brings: the answer, and the reader left. -/
def Reads (w : World) (b : Nat) (v : Value) (s' : R) (e : Ending) (w' : World) : Prop := e = .returned v ∧ w.grownBy w' (some b) ∧ Rdr w' b s'

theorem fail_any (b : Nat) (s : R) (n : Nat) (w : World) (h : Rdr w b s) :
    Calls Try.prog 34 #[rp b, .int .i64 n] w (Reads w b (.tuple #[]) ⟨[], n⟩) := by
  have h0 := h.c0
  have h1 := h.c1
  have f0 := h.fr 0
  have f1 := h.fr 1
  have hb := h.lt
  go_enter Try.func34, Try.ntmps34
  go_wp2
  go_end0
  exact ⟨rfl, gtrans (gset _ _ _ _) (gset _ _ _ _), h.set n⟩
theorem take_any (b : Nat) (s : R) (n : Nat) (w : World) (h : Rdr w b s) (hl : s.rest.length < 9223372036854775808) :
    Calls Try.prog 33 #[rp b, .int .u64 n] w (Reads w b (.string (bs (takeR s n).1)) (takeR s n).2) := by
  have h0 := h.c0
  have h1 := h.c1
  have f0 := h.fr 0
  have f1 := h.fr 1
  have hb := h.lt
  have hs := bs_size s.rest
  by_cases he : s.e = 0
  · have ht : ((s.e : Int) == 0) = true := by simp [he]
    have hw : IntKind.u64.wrap ((s.rest.length : Nat) : Int) = (s.rest.length : Int) := by rw [IntKind.wrap_u64]; omega
    by_cases hn : s.rest.length < n
    · have hd : decide ((s.rest.length : Int) < (n : Int)) = true := by simp; omega
      have HX := Lib.hid (show takeR s n = ([], ⟨[], 3⟩) by unfold takeR; rw [if_neg (by simp [he]), if_pos hn])
      go_enter Try.func33, Try.ntmps33
      go_wp2_with fail
      refine (fail_any b s 3 w h).mono ?_
      rintro e w' ⟨rfl, hg, hr⟩
      go_wp2
      go_ret
      rw [HX.out]
      exact ⟨rfl, hg, hr⟩
    · have hd : decide ((s.rest.length : Int) < (n : Int)) = false := by simp; omega
      have HX := Lib.hid (show takeR s n = (s.rest.take n, ⟨s.rest.drop n, 0⟩) by unfold takeR; rw [if_neg (by simp [he]), if_neg hn])
      go_enter Try.func33, Try.ntmps33
      have e1 : (bs s.rest).extract 0 n = bs (s.rest.take n) := by rw [bs_extract]; simp
      have e2 : (bs s.rest).extract n s.rest.length = bs (s.rest.drop n) := by rw [bs_extract]; congr 1; apply List.take_of_length_le; simp
      go_wp2
      go_ret
      rw [HX.out]
      have h2 := h.put (s.rest.drop n)
      rw [he] at h2
      simp [Reads, h2, gset]
  · have ht : ((s.e : Int) == 0) = false := by simp; omega
    have HX := Lib.hid (show takeR s n = ([], s) by unfold takeR; rw [if_pos he])
    go_enter Try.func33, Try.ntmps33
    go_wp2
    go_ret
    rw [HX.out]
    exact ⟨rfl, grefl _ _, h⟩
theorem takeR_len (s : R) (n : Nat) : (takeR s n).2.rest.length ≤ s.rest.length := by
  unfold takeR; split
  · simp
  · split
    · simp
    · simp
theorem takeR_len1 (s : R) (n : Nat) : (takeR s n).1.length ≤ n := by
  unfold takeR; split
  · simp
  · split
    · simp
    · simp; omega
theorem byte_any (b : Nat) (s : R) (w : World) (h : Rdr w b s) (hl : s.rest.length < 9223372036854775808) :
    Calls Try.prog 32 #[rp b] w (Reads w b (.int .u8 (byteR s).1) (byteR s).2) := by
  have hlen := takeR_len1 s 1
  obtain ⟨l, s', hts⟩ : ∃ l s', takeR s 1 = (l, s') := ⟨_, _, rfl⟩
  have HB := Lib.hid (show byteR s = ((l.headD 0).toNat, s') by unfold byteR; rw [hts])
  have HT := Lib.hid (take_any b s 1 w h hl)
  rw [hts] at HT hlen
  clear hts
  rcases l with _ | ⟨c, l⟩
  · go_enter Try.func32, Try.ntmps32
    go_wp2_with fail
    refine HT.out.mono ?_
    rintro e w' ⟨rfl, hg, hr⟩
    have e1 : (bs []).toList.isEmpty = true := by rw [bs_toList]; rfl
    go_wp2
    go_ret
    rw [HB.out]
    exact ⟨rfl, hg, hr⟩
  · obtain rfl : l = [] := by simpa using hlen
    go_enter Try.func32, Try.ntmps32
    go_wp2_with fail
    refine HT.out.mono ?_
    rintro e w' ⟨rfl, hg, hr⟩
    have e1 : (bs [c]).toList.isEmpty = false := by rw [bs_toList]; rfl
    have e2 : (bs [c]).size = 1 := rfl
    have e3 : (bs [c]).get! 0 = c := rfl
    go_wp2
    go_ret
    rw [HB.out]
    exact ⟨rfl, hg, hr⟩
theorem byte_nil (w : World) :
    Calls Try.prog 32 #[.pointer none] w fun e w' => e = .returned (.int .u8 0) ∧ w = w' := by
  go_enter Try.func32, Try.ntmps32
  go_wp2
  go_ret
  exact ⟨rfl, rfl⟩
theorem byteR_lt (s : R) : (byteR s).1 < 256 := UInt8.toNat_lt _
theorem beN_snoc (l : List UInt8) (c : UInt8) : beN (l ++ [c]) = beN l * 256 + c.toNat := by simp [beN]
theorem or_fact (n c : Nat) (hc : c < 256) : n * 256 ||| c = n * 256 + c := by
  have := Nat.two_pow_add_eq_or_of_lt (i := 8) (by omega : c < 2 ^ 8) n
  rw [Nat.mul_comm]; exact this.symm
theorem bits_or64 (a b : Nat) (ha : a < 18446744073709551616) (hb : b < 18446744073709551616) : bits BinOp.or IntKind.u64 (a : Int) (b : Int) = ((a ||| b : Nat) : Int) := by
  have h := Nat.or_lt_two_pow (n := 64) (x := a) (y := b) (by omega) (by omega)
  have e : IntKind.u64.bits = 64 := rfl
  show IntKind.u64.wrap ((BitVec.ofInt IntKind.u64.bits a ||| BitVec.ofInt IntKind.u64.bits b).toNat : Int) = _
  rw [e, BitVec.ofInt_natCast, BitVec.ofInt_natCast, BitVec.toNat_or, BitVec.toNat_ofNat, BitVec.toNat_ofNat, Nat.mod_eq_of_lt (by omega), Nat.mod_eq_of_lt (by omega), IntKind.wrap_u64]
  omega
set_option maxHeartbeats 1000000 in
theorem num_small_any (b : Nat) (s : R) (w : World) (h : Rdr w b s) (hl : s.rest.length < 9223372036854775808) (hc : (byteR s).1 < 248) :
    Calls Try.prog 23 #[rp b] w (Reads w b (.int .u64 (numR s).1) (numR s).2) := by
  have HN := Lib.hid (show numR s = byteR s by unfold numR; rw [if_pos hc])
  have HB := Lib.hid (byte_any b s w h hl)
  obtain ⟨c, s', hbs⟩ : ∃ c s', byteR s = (c, s') := ⟨_, _, rfl⟩
  rw [hbs] at HN HB hc
  clear hbs
  have hd : decide ((c : Int) < 248) = true := by simp; omega
  go_enter Try.func23, Try.ntmps23
  go_wp2_with fail
  refine HB.out.mono ?_
  rintro e w' ⟨rfl, hg, hr⟩
  go_wp2
  go_ret
  rw [HN.out]
  exact ⟨rfl, hg, hr⟩
theorem byteR_len (s : R) : (byteR s).2.rest.length ≤ s.rest.length := takeR_len s 1
set_option maxRecDepth 100000 in
set_option maxHeartbeats 1000000 in
theorem num_great_any (b : Nat) (s : R) (w : World) (h : Rdr w b s) (hl : s.rest.length < 9223372036854775808) (hc : ¬ (byteR s).1 < 248) :
    Calls Try.prog 23 #[rp b] w (Reads w b (.int .u64 (numR s).1) (numR s).2) := by
  have hc2 := byteR_lt s
  have hl1 := byteR_len s
  obtain ⟨c, s1, hbs⟩ : ∃ c s1, byteR s = (c, s1) := ⟨_, _, rfl⟩
  obtain ⟨l, s2, hts⟩ : ∃ l s2, takeR s1 (c - 247) = (l, s2) := ⟨_, _, rfl⟩
  have HN := Lib.hid (show numR s = if l ≠ [] ∧ (l.headD 0 = 0 ∨ beN l < 248) then (0, ⟨[], 4⟩) else (beN l, s2) by unfold numR; rw [hbs]; simp only []; rw [if_neg (by rw [hbs] at hc; exact hc), hts])
  have HB := Lib.hid (byte_any b s w h hl)
  rw [hbs] at HB hc hc2 hl1
  have ht1 := takeR_len1 s1 (c - 247)
  simp only [] at hl1
  have HT := Lib.hid (fun w h => take_any b s1 (c - 247) w h (by omega))
  rw [hts] at HT ht1
  clear hbs hts hl h hl1
  simp only [] at hc hc2 ht1
  have hl8 : l.length ≤ 8 := by omega
  have hcc : IntKind.u64.wrap ((c : Int) - 248) = ((c - 248 : Nat) : Int) := by rw [IntKind.wrap_u64]; omega
  have hc1 : ((c - 248 : Nat) : Int) + 1 = ((c - 247 : Nat) : Int) := by omega
  have hd : decide ((c : Int) < 248) = false := by simp; omega
  have hsz := bs_size l
  have hcw : (c : Int) - 248 + 1 = ((c - 247 : Nat) : Int) := by omega
  go_enter Try.func23, Try.ntmps23
  go_wp2_with fail
  refine HB.out.mono ?_
  rintro e w1 ⟨rfl, hg1, hr1⟩
  go_wp2_with fail
  refine (HT.out _ hr1).mono ?_
  rintro e w2 ⟨rfl, hg2, hr2⟩
  have hg := gtrans hg1 hg2
  clear hg1 hg2 hr1 HT HB hcc hc1 hd hcw
  go_wp2
  go_loopw [4, 23] (fun n i wr => wr = w2 ∧ ∃ j : Nat, j ≤ l.length ∧ i = .int .i64 j ∧ n = .int .u64 (beN (l.take j))) (fun _ i _ => (l.length - (intOf i).toNat))
  case atStart => exact ⟨rfl, 0, Nat.zero_le _, rfl, rfl⟩
  case round =>
    obtain ⟨rfl, j, hj, rfl, rfl⟩ := hrel
    by_cases hlt : j < l.length
    · have hd : decide ((j : Int) < (l.length : Int)) = true := by simp; omega
      have hor : bits BinOp.or IntKind.u64 (IntKind.u64.wrap ((beN (l.take j) : Nat) * 256)) (IntKind.u64.wrap ((bs l)[j]'(by rw [hsz]; exact hlt)).toNat) = (beN (l.take (j + 1)) : Nat) := by
        have hb1 := beN_lt (l.take j)
        have hb2 : 256 ^ (l.take j).length ≤ 256 ^ 7 := Nat.pow_le_pow_right (by decide) (by simp; omega)
        have hx : ((bs l)[j]'(by rw [hsz]; exact hlt)) = l[j] := by simp [bs, ByteArray.getElem_eq_getElem_data]
        have hx2 := UInt8.toNat_lt l[j]
        rw [hx, List.take_succ_eq_append_getElem hlt, beN_snoc, ← or_fact _ _ hx2, IntKind.wrap_u64, IntKind.wrap_u64]
        have hm : beN (l.take j) * 256 < 18446744073709551616 := by omega
        have q1 : ((beN (l.take j) : Nat) : Int) * 256 % 18446744073709551616 = ((beN (l.take j) * 256 : Nat) : Int) := by omega
        have q2 : ((l[j].toNat : Nat) : Int) % 18446744073709551616 = (l[j].toNat : Nat) := by omega
        rw [q1, q2]
        exact bits_or64 _ _ hm (by omega)
      go_wp2
      exact ⟨⟨trivial, j + 1, by omega, rfl, rfl⟩, by simp [intOf]; omega⟩
    · obtain rfl : j = l.length := by omega
      have hd : decide ((l.length : Int) < (l.length : Int)) = false := by simp
      rw [List.take_length]
      obtain ⟨n, hn⟩ : ∃ n, beN l = n := ⟨_, rfl⟩
      rw [hn] at HN ⊢
      rcases l with _ | ⟨x, l⟩
      · have e1 : (bs []).toList.isEmpty = true := by rw [bs_toList]; rfl
        go_wp2
        go_ret
        rw [HN.out, if_neg (by simp)]
        exact ⟨rfl, hg, hr2⟩
      · have e1 : (bs (x :: l)).toList.isEmpty = false := by rw [bs_toList]; rfl
        have e2 : (bs (x :: l)).size = l.length + 1 := bs_size _
        have e3 : (bs (x :: l))[0]'(by rw [e2]; omega) = x := by simp [bs, ByteArray.getElem_eq_getElem_data]
        simp only [List.length_cons] at hd ⊢
        by_cases hx : x = 0
        · have hx' : ((x.toNat : Int) == 0) = true := by simp [hx]
          have HN2 := Lib.hid (show numR s = (0, ⟨[], 4⟩) by rw [HN.out, if_pos ⟨by simp, .inl (by simpa using hx)⟩])
          clear HN hx
          go_wp2_with fail
          refine (fail_any b s2 4 wr hr2).mono ?_
          rintro e w3 ⟨rfl, hg3, hr3⟩
          go_wp2
          go_ret
          rw [HN2.out]
          exact ⟨rfl, gtrans hg hg3, hr3⟩
        · have hx' : ((x.toNat : Int) == 0) = false := by
            rw [beq_eq_false_iff_ne]; intro h; exact hx (UInt8.toNat_inj.1 (by simpa using h))
          by_cases hn2 : n < 248
          · have hn' : decide ((n : Int) < 248) = true := by simp; omega
            have HN2 := Lib.hid (show numR s = (0, ⟨[], 4⟩) by rw [HN.out, if_pos ⟨by simp, .inr hn2⟩])
            clear HN
            go_wp2_with fail
            refine (fail_any b s2 4 wr hr2).mono ?_
            rintro e w3 ⟨rfl, hg3, hr3⟩
            go_wp2
            go_ret
            rw [HN2.out]
            exact ⟨rfl, gtrans hg hg3, hr3⟩
          · have hn' : decide ((n : Int) < 248) = false := by simp; omega
            have HN2 := Lib.hid (show numR s = (n, s2) by rw [HN.out, if_neg (fun e => e.2.elim (by simpa using hx) hn2)])
            clear HN
            go_wp2
            go_ret
            rw [HN2.out]
            exact ⟨rfl, hg, hr2⟩
end Wire
end Go.Proofs.Ytcmcdpoceeipbaa
