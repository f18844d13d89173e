/-
  The document's Parse.
-/
import Derived.Test.YtdjddbidhaeekaaCmdRTake
import Derived.Test.YtdjddbidhaeekaaCmdParse
import Derived.Test.YtdjddbidhaeekaaWireDocEnd
namespace Go.Proofs.Ytdjddbidhaeekaa
open Go.RowKit Go.WideShapes
namespace Wire
theorem takeR_fine (s : R) (n : Nat) (h : s.fine) : (takeR s n).2.fine := by
  unfold takeR
  split
  · exact h
  · split
    · intro _; rfl
    · intro h2; exact absurd rfl h2
theorem byteR_fine (s : R) (h : s.fine) : (byteR s).2.fine := takeR_fine s 1 h
theorem numR_fine (s : R) (h : s.fine) : (numR s).2.fine := by
  unfold numR
  split
  · exact byteR_fine s h
  · split
    · intro _; rfl
    · exact takeR_fine _ _ (byteR_fine s h)
theorem belowR_fine (s : R) (n : Nat) (h : s.fine) : (belowR s n).2.fine := by
  unfold belowR
  split
  · exact numR_fine s h
  · split
    · exact numR_fine s h
    · intro _; rfl
theorem strR_fine (s : R) (n : Nat) (h : s.fine) : (strR s n).2.fine := by
  unfold strR
  refine takeR_fine _ _ ?_
  unfold belR
  split
  · exact numR_fine s h
  · split
    · intro _; rfl
    · exact numR_fine s h
theorem badR_fine (s : R) (h : s.fine) : (badR s).fine := by
  unfold badR
  split
  · intro _; rfl
  · exact h
end Wire
namespace Cm
open Wire
theorem raw_fine (s : R) (h : s.fine) : (rawC s).2.fine := by
  have f1 := byteR_fine s h
  obtain ⟨c, s1, e0⟩ : ∃ c s1, byteR s = (c, s1) := ⟨_, _, rfl⟩
  rw [e0] at f1
  dsimp only at f1
  have f2 := belowR_fine s1 4294967296 f1
  obtain ⟨n, s2, e1⟩ : ∃ n s2, belowR s1 4294967296 = (n, s2) := ⟨_, _, rfl⟩
  rw [e1] at f2
  dsimp only at f2
  have f3 := byteR_fine s2 f2
  obtain ⟨k, s3, e2⟩ : ∃ k s3, byteR s2 = (k, s3) := ⟨_, _, rfl⟩
  rw [e2] at f3
  dsimp only at f3
  have f4 := strR_fine s3 16 f3
  obtain ⟨K, s4, e3⟩ : ∃ K s4, strR s3 16 = (K, s4) := ⟨_, _, rfl⟩
  rw [e3] at f4
  dsimp only at f4
  have f5 := strR_fine s4 64 f4
  obtain ⟨O, s5, e4⟩ : ∃ O s5, strR s4 64 = (O, s5) := ⟨_, _, rfl⟩
  rw [e4] at f5
  dsimp only at f5
  have f6 := strR_fine s5 64 f5
  obtain ⟨N, s6, e5⟩ : ∃ N s6, strR s5 64 = (N, s6) := ⟨_, _, rfl⟩
  rw [e5] at f6
  dsimp only at f6
  have f7 := byteR_fine s6 f6
  obtain ⟨t, s7, e6⟩ : ∃ t s7, byteR s6 = (t, s7) := ⟨_, _, rfl⟩
  rw [e6] at f7
  dsimp only at f7
  have hraw : rawC s = (⟨c, n, k, bs K, bs O, bs N, t⟩, s7) := by simp only [rawC, e0, e1, e2, e3, e4, e5, e6]
  rw [hraw]
  exact f7
theorem take_snd (s : R) : (takeC s).2 = leftC s := by unfold takeC; dsimp only
theorem left_cases (s : R) : leftC s = (rawC s).2 ∨ leftC s = badR (rawC s).2 := by
  unfold leftC
  generalize (rawC s).2 = x
  split
  · exact .inl rfl
  · exact .inr rfl
theorem take_fine (s : R) (h : s.fine) : (takeC s).2.fine := by
  have h1 := raw_fine s h
  rw [take_snd]
  rcases left_cases s with e | e
  · rw [e]; exact h1
  · rw [e]; exact badR_fine _ h1
theorem raw_err (s : R) (h : s.e ≠ 0) : (rawC s).2 = s := by
  have e0 : byteR s = (0, s) := byte_err s h
  have e1 : belowR s 4294967296 = (0, s) := by unfold belowR; rw [num_err s h, if_pos h]
  have e2 : ∀ m, strR s m = ([], s) := fun m => by
    unfold strR
    have : belR (numR s).2 (numR s).1 m = (0, s) := by rw [num_err s h]; unfold belR; rw [if_pos h]
    rw [this, Wire.take_err s _ h]
  have hraw : rawC s = (⟨0, 0, 0, bs [], bs [], bs [], 0⟩, s) := by simp only [rawC, e0, e1, e2]
  rw [hraw]
theorem take_err (s : R) (h : s.e ≠ 0) : (takeC s).2 = s := by
  have hr := raw_err s h
  rw [take_snd]
  rcases left_cases s with e | e
  · rw [e, hr]
  · rw [e, hr]; unfold badR; rw [if_neg h]
/-- All the commands, errors or not. -/
def allC (s : R) : Nat → List Cm × R
  | 0 => ([], s)
  | k + 1 => ((allC s k).1 ++ [(takeC (allC s k).2).1], (takeC (allC s k).2).2)
theorem docC_succ (s : R) (k : Nat) : docC s (k + 1) = if (docC s k).2.e = 0 then ((docC s k).1 ++ [(takeC (docC s k).2).1], (takeC (docC s k).2).2) else docC s k := by
  conv => lhs; unfold docC
theorem allC_num (s : R) : ∀ k, (allC s k).1.length = k
  | 0 => rfl
  | k + 1 => by rw [allC, List.length_append, allC_num s k]; rfl
theorem allC_len (s : R) : ∀ k, (allC s k).2.rest.length ≤ s.rest.length
  | 0 => Nat.le_refl _
  | k + 1 => by
    rw [allC]
    exact Nat.le_trans (take_c_len _) (allC_len s k)
theorem allC_fine (s : R) (h : s.fine) : ∀ k, (allC s k).2.fine
  | 0 => h
  | k + 1 => by
    have h2 := take_fine (allC s k).2 (allC_fine s h k)
    rw [allC]
    dsimp only
    exact h2
theorem allC_doc (s : R) : ∀ k, ((docC s k).2.e = 0 ∧ allC s k = docC s k) ∨ ((docC s k).2.e ≠ 0 ∧ (allC s k).2 = (docC s k).2)
  | 0 => by
    by_cases h : s.e = 0
    · exact .inl ⟨h, rfl⟩
    · exact .inr ⟨h, rfl⟩
  | k + 1 => by
    rcases allC_doc s k with ⟨h1, h2⟩ | ⟨h1, h2⟩
    · have e0 : docC s (k + 1) = if (docC s k).2.e = 0 then ((docC s k).1 ++ [(takeC (docC s k).2).1], (takeC (docC s k).2).2) else docC s k := docC_succ s k
      have e1 : docC s (k + 1) = ((docC s k).1 ++ [(takeC (docC s k).2).1], (takeC (docC s k).2).2) := e0.trans (if_pos h1)
      have e3 : allC s (k + 1) = ((allC s k).1 ++ [(takeC (allC s k).2).1], (takeC (allC s k).2).2) := by rw [allC]
      have e2 : allC s (k + 1) = docC s (k + 1) := by rw [e3, h2, e1]
      by_cases h3 : (docC s (k + 1)).2.e = 0
      · exact .inl ⟨h3, e2⟩
      · exact .inr ⟨h3, by rw [e2]⟩
    · have e0 : docC s (k + 1) = if (docC s k).2.e = 0 then ((docC s k).1 ++ [(takeC (docC s k).2).1], (takeC (docC s k).2).2) else docC s k := docC_succ s k
      have e1 : docC s (k + 1) = docC s k := e0.trans (if_neg h1)
      have e3 : (allC s (k + 1)).2 = (takeC (allC s k).2).2 := by rw [allC]
      rw [e1]
      exact .inr ⟨h1, by rw [e3, h2]; exact take_err _ h1⟩
theorem docC_err (s : R) (h : s.e ≠ 0) : ∀ k, docC s k = ([], s)
  | 0 => rfl
  | k + 1 => by rw [docC, docC_err s h k, if_neg h]
/-- A batch whose first byte is a number of commands. -/
theorem parse_some (s : List UInt8) (h0 : s ≠ []) (n : Nat) (S0 : R) (hb : byteR ⟨s, 0⟩ = (n, S0)) (hn : ¬ (n = 0 ∨ 4 < n)) :
    ((endR (allC S0 n).2).e = 0 → parseR s = ((allC S0 n).1, 0)) ∧ ((endR (allC S0 n).2).e ≠ 0 → parseR s = ([], (endR (allC S0 n).2).e)) := by
  have hh : headR s = (n, S0) := by unfold headR; rw [hb]; exact if_neg hn
  have hp : parseR s = if (endR (docC S0 n).2).e = 0 then ((docC S0 n).1, 0) else ([], (endR (docC S0 n).2).e) := by
    unfold parseR; rw [if_neg h0, hh]
  rcases allC_doc S0 n with ⟨h1, h2⟩ | ⟨h1, h2⟩
  · rw [h2]
    exact ⟨fun he => by rw [hp, if_pos he], fun he => by rw [hp, if_neg he]⟩
  · rw [h2]
    exact ⟨fun he => by
      exfalso
      unfold endR at he
      split at he
      · simp at he
      · exact h1 he, fun he => by rw [hp, if_neg he]⟩
theorem parse_form (s : List UInt8) (h0 : s ≠ []) (n : Nat) (S0 : R) (hb : byteR ⟨s, 0⟩ = (n, S0)) (hn : n = 0 ∨ 4 < n) : parseR s = ([], 4) := by
  have he : S0.e = 0 := by
    cases s with
    | nil => exact absurd rfl h0
    | cons c l => rw [byte_some] at hb; rw [← (Prod.mk.inj hb).2]
  have hbad : badR S0 = ⟨[], 4⟩ := if_pos he
  have hh : headR s = (n, ⟨[], 4⟩) := by unfold headR; rw [hb, if_pos hn, hbad]
  have h2 : docC (⟨[], 4⟩ : R) n = ([], ⟨[], 4⟩) := docC_err _ (by decide) n
  have h3 : endR (⟨[], 4⟩ : R) = ⟨[], 4⟩ := by unfold endR; simp
  unfold parseR
  rw [if_neg h0, hh]
  simp only [h2, h3]
  rw [if_neg (by decide)]
set_option maxRecDepth 100000 in
set_option maxHeartbeats 2000000 in
theorem rparse_c (s : List UInt8) (hl : s.length ≤ 1000000) (w : World) :
    Calls Try.prog 16 #[.string (bs s)] w fun e w' => ∃ v, e = .returned (.tuple #[v, .int .i64 (parseR s).2]) ∧ RdT cells w' v (parseR s).1 ∧ Below w.heap.size w w' := by
  have zs := bs_size s
  have n2 := size_eq (bs s)
  have n3 := size_list (bs s)
  by_cases h0 : s = []
  · have HR := Lib.hid (show parseR s = ([], 0) from if_pos h0)
    rw [decide_eq_true (by rw [zs, h0]; rfl)] at n2 n3
    clear h0
    go_enter Try.func16, Try.ntmps16
    go_wp2_with fail
    refine bodyPost_ret (v := .tuple #[.slice none 0 0, .int .i64 0]) (by simp [results, Try.results16, go_sem]) rfl ⟨.slice none 0 0, by rw [HR.out]; rfl, by rw [HR.out]; exact rdT_nil _ _, Below.refl _ _⟩
  · rw [decide_eq_false (by rw [zs]; intro e; exact h0 (List.eq_nil_of_length_eq_zero e))] at n2 n3
    have HPS := Lib.hid (parse_some s h0)
    have HPF := Lib.hid (parse_form s h0)
    have HB := Lib.hid (fun w => dbyte_any ⟨s, 0⟩ (by dsimp only; omega) w)
    have lb := byteR_len ⟨s, 0⟩
    have ob := byteR_lt ⟨s, 0⟩
    have hf0 : (byteR ⟨s, 0⟩).2.fine := byteR_fine _ (fun h => absurd rfl h)
    obtain ⟨n, S0, e1⟩ : ∃ n S0, byteR ⟨s, 0⟩ = (n, S0) := ⟨_, _, rfl⟩
    have HP1 := Lib.hid (HPS.out n S0 e1)
    have HP2 := Lib.hid (HPF.out n S0 e1)
    rw [e1] at HB lb ob hf0
    dsimp only at HB lb ob hf0
    clear e1 h0 HPS HPF
    unfold rv at HB
    by_cases hc : n = 0 ∨ 4 < n
    · have HR := Lib.hid (HP2.out hc)
      by_cases hc1 : n = 0
      · have t1 : decide ((n : Int) < 1) = true := decide_eq_true (by omega)
        have t2 : decide (n < 1) = true := decide_eq_true (by omega)
        clear hc hc1
        go_enter Try.func16, Try.ntmps16
        go_wp2_with fail
        refine (HB.out w).mono ?_
        rintro e w1 ⟨rfl, b1⟩
        go_wp2_with fail
        refine bodyPost_ret (v := .tuple #[.slice none 0 0, .int .i64 4]) (by simp [results, Try.results16, go_sem]) rfl ⟨.slice none 0 0, by rw [HR.out]; rfl, by rw [HR.out]; exact rdT_nil _ _, b1.alloc b1.size _⟩
      · have t1 : decide ((n : Int) < 1) = false := decide_eq_false (by omega)
        have t2 : decide (n < 1) = false := decide_eq_false (by omega)
        have t3 : decide ((4 : Int) < (n : Int)) = true := decide_eq_true (by omega)
        have t4 : decide (4 < n) = true := decide_eq_true (by omega)
        clear hc hc1
        go_enter Try.func16, Try.ntmps16
        go_wp2_with fail
        refine (HB.out w).mono ?_
        rintro e w1 ⟨rfl, b1⟩
        go_wp2_with fail
        refine bodyPost_ret (v := .tuple #[.slice none 0 0, .int .i64 4]) (by simp [results, Try.results16, go_sem]) rfl ⟨.slice none 0 0, by rw [HR.out]; rfl, by rw [HR.out]; exact rdT_nil _ _, b1.alloc b1.size _⟩
    · have HP0 := Lib.hid (HP1.out hc)
      have t1 : decide ((n : Int) < 1) = false := decide_eq_false (by omega)
      have t2 : decide (n < 1) = false := decide_eq_false (by omega)
      have t3 : decide ((4 : Int) < (n : Int)) = false := decide_eq_false (by omega)
      have t4 : decide (4 < n) = false := decide_eq_false (by omega)
      have hn4 : n ≤ 4 := by omega
      have HLN := Lib.hid (allC_len S0)
      have HNM := Lib.hid (allC_num S0)
      have HFN := Lib.hid (allC_fine S0 hf0)
      have HST := Lib.hid (show ∀ k, allC S0 (k + 1) = ((allC S0 k).1 ++ [(takeC (allC S0 k).2).1], (takeC (allC S0 k).2).2) from fun k => by rw [allC])
      clear hc HP1 HP2
      go_enter Try.func16, Try.ntmps16
      go_wp2_with fail
      refine (HB.out w).mono ?_
      rintro e w1 ⟨rfl, b1⟩
      go_wp2_with fail
      have kR0 := Blk.new w1 (.cells #[.string (bs S0.rest), .int .i64 S0.e] 44)
      have B0 := b1.alloc b1.size (.cells #[.string (bs S0.rest), .int .i64 S0.e] 44)
      have zr : w.heap.size ≤ w1.heap.size := b1.size
      obtain ⟨rb, hrb⟩ : ∃ rb, w1.heap.size = rb := ⟨_, rfl⟩
      rw [hrb] at kR0 zr ⊢
      clear hrb b1
      go_loopw [6, 7] (fun s6 i wr => ∃ (k : Nat) (sv : Value), k ≤ n ∧ i = .int .i64 k ∧ sv = s6 ∧ Blk wr rb (.cells #[.string (bs (allC S0 k).2.rest), .int .i64 (allC S0 k).2.e] 44) ∧ wr.ownsRow w.heap.size 25 7 sv (allC S0 k).1.length (flat (allC S0 k).1) ∧ some rb ≠ sv.ownBlock ∧ Below w.heap.size w wr) (fun _ i _ => n - (intOf i).toNat)
      case atStart => exact ⟨0, _, Nat.zero_le _, rfl, rfl, kR0, ⟨rfl, .inl ⟨rfl, rfl⟩⟩, by simp [Value.ownBlock], B0⟩
      case round =>
        clear kR0 B0
        obtain ⟨k, sv, hk, rfl, rfl, kR, ho, hne, BB⟩ := hrel
        have hdl := HLN.out k
        have hdn := HNM.out k
        have hdf := HFN.out k
        by_cases hlt2 : k < n
        · have hd : decide ((k : Int) < (n : Int)) = true := decide_eq_true (by omega)
          have hd' : decide (k < n) = true := decide_eq_true hlt2
          have hds := HST.out k
          obtain ⟨D, sk, hD⟩ : ∃ D sk, allC S0 k = (D, sk) := ⟨_, _, rfl⟩
          rw [hD] at hds kR ho hdl hdn hdf
          dsimp only at hds kR ho hdl hdn hdf
          have HTC := Lib.hid (fun w => rtake_c sk (by omega) w)
          obtain ⟨x, hx⟩ : ∃ x, (takeC sk).1 = x := ⟨_, rfl⟩
          obtain ⟨s7, hs7⟩ : ∃ s7, (takeC sk).2 = s7 := ⟨_, rfl⟩
          rw [hx, hs7] at hds HTC
          have HN := Lib.hid hds
          have HDN := Lib.hid hdn
          clear hD hx hs7 hds
          have hDl : D.length ≤ 4 := by omega
          clear hdn
          unfold rv at HTC
          have z0 := kR.cell 0
          have z1 := kR.cell 1
          go_wp2_with fail
          refine (HTC.out wr).mono ?_
          rintro e w2 ⟨rfl, b2⟩
          have kR2 := kR.later b2
          have ho2 := ownsRow_below ho b2
          have B2 := Below.later BB b2 BB.size
          clear kR ho BB z0 z1 b2
          have kA0 := (kR2.alloc (.cells #[.int .u8 x.cl, .int .u32 x.sq, .int .u8 x.kd, .string x.key, .string x.old, .string x.new, .int .u8 x.set] 25)).alloc (.cells #[.string (bs s7.rest), .int .i64 s7.e] 44)
          have kX0 : Blk ((w2.alloc (.cells #[.int .u8 x.cl, .int .u32 x.sq, .int .u8 x.kd, .string x.key, .string x.old, .string x.new, .int .u8 x.set] 25)).alloc (.cells #[.string (bs s7.rest), .int .i64 s7.e] 44)) w2.heap.size (.cells #[.int .u8 x.cl, .int .u32 x.sq, .int .u8 x.kd, .string x.key, .string x.old, .string x.new, .int .u8 x.set] 25) := Blk.alloc (Blk.new w2 _) _
          have kY0 : Blk ((w2.alloc (.cells #[.int .u8 x.cl, .int .u32 x.sq, .int .u8 x.kd, .string x.key, .string x.old, .string x.new, .int .u8 x.set] 25)).alloc (.cells #[.string (bs s7.rest), .int .i64 s7.e] 44)) (w2.heap.size + 1) (.cells #[.string (bs s7.rest), .int .i64 s7.e] 44) := Blk.newAt _ (by simp)
          have ho0 := (ho2.alloc (.cells #[.int .u8 x.cl, .int .u32 x.sq, .int .u8 x.kd, .string x.key, .string x.old, .string x.new, .int .u8 x.set] 25)).alloc (.cells #[.string (bs s7.rest), .int .i64 s7.e] 44)
          have BA1 := (B2.alloc B2.size (.cells #[.int .u8 x.cl, .int .u32 x.sq, .int .u8 x.kd, .string x.key, .string x.old, .string x.new, .int .u8 x.set] 25))
          have BA0 := BA1.alloc BA1.size (.cells #[.string (bs s7.rest), .int .i64 s7.e] 44)
          have zrb : rb < w2.heap.size := kR2.lt
          go_upto_region 11 with (fail)
          obtain ⟨Wx, hWx⟩ : ∃ Wx, (w2.alloc (.cells #[.int .u8 x.cl, .int .u32 x.sq, .int .u8 x.kd, .string x.key, .string x.old, .string x.new, .int .u8 x.set] 25)).alloc (.cells #[.string (bs s7.rest), .int .i64 s7.e] 44) = Wx := ⟨_, rfl⟩
          rw [hWx] at kA0 kX0 kY0 ho0 BA0 ⊢
          obtain ⟨xb, hxb⟩ : ∃ xb, w2.heap.size = xb := ⟨_, rfl⟩
          rw [hxb] at kX0 kY0 zrb ⊢
          clear hWx hxb BA1 ho2 kR2 B2
          have f0 := kA0.frozen 0
          have f1 := kA0.frozen 1
          have y0 := kA0.cell 0
          have y1 := kA0.cell 1
          have v0 := kY0.cell 0
          have v1 := kY0.cell 1
          have kS := (kA0.set 0 (.string (bs s7.rest))).set 1 (.int .i64 s7.e)
          have kXs := (kX0.other (a := ⟨rb, 0, none⟩) (by dsimp only; omega) (.string (bs s7.rest))).other (a := ⟨rb, 1, none⟩) (by dsimp only; omega) (.int .i64 s7.e)
          have hos := ownsRow_blkset (ownsRow_blkset ho0 (a := ⟨rb, 0, none⟩) hne (.string (bs s7.rest))) (a := ⟨rb, 1, none⟩) hne (.int .i64 s7.e)
          have Bs := (BA0.setCell (p := ⟨rb, 0, none⟩) (by dsimp only; omega) (.string (bs s7.rest))).setCell (p := ⟨rb, 1, none⟩) (by dsimp only; omega) (.int .i64 s7.e)
          go_upto_region 12 with (fail)
          obtain ⟨Wy, hWy⟩ : ∃ Wy, (Wx.setCell ⟨rb, 0, none⟩ (.string (bs s7.rest))).setCell ⟨rb, 1, none⟩ (.int .i64 s7.e) = Wy := ⟨_, rfl⟩
          rw [hWy] at kS kXs hos Bs ⊢
          have kS2 : Blk Wy rb (.cells #[.string (bs s7.rest), .int .i64 s7.e] 44) := kS
          clear hWy kS kA0 kX0 kY0 f0 f1 y0 y1 v0 v1 ho0 BA0
          have c0 := kXs.cell 0
          have c1 := kXs.cell 1
          have c2 := kXs.cell 2
          have c3 := kXs.cell 3
          have c4 := kXs.cell 4
          have c5 := kXs.cell 5
          have c6 := kXs.cell 6
          go_wp2_with (at_builtin; go_loud (refine appSt rfl _ _ 22 rfl w.heap.size 25 zero.val 7 72 infoC Try.underlying22 rfl (by decide) Wy #[.int .u8 x.cl, .int .u32 x.sq, .int .u8 x.kd, .string x.key, .string x.old, .string x.new, .int .u8 x.set] 25 rfl (by intro u hu; simp at hu; rcases hu with rfl | rfl | rfl | rfl | rfl | rfl | rfl <;> rfl) sv D.length (flat D) hos rfl _ rfl rfl (by omega) (by omega) Bs.size ?_; intro v8 w8 ho8 g8))
          have kR8 : Blk w8 rb (.cells #[.string (bs s7.rest), .int .i64 s7.e] 44) := kS2.grown g8.1 hne
          have hne8 := g8.stays hne kS2.lt
          have B8 := g8.below Bs Bs.size (fun b hb => by
            rcases hos.2 with ⟨e1, _⟩ | ⟨g, _, _, e1, hg, _⟩
            · rw [e1] at hb; cases hb
            · rw [e1] at hb; cases hb; exact hg)
          go_roundw
          case rel => exact ⟨k + 1, v8, by omega, by go_num, rfl, by rw [HN.out]; exact kR8, by
              rw [HN.out]
              have e : flat (D ++ [x]) = flat D ++ x.cells := by simp [flat]
              rw [e, List.length_append]; exact ho8, hne8, B8⟩
          case measure => simp [intOf]; omega
        · have hd : decide ((k : Int) < (n : Int)) = false := decide_eq_false (by omega)
          have hd' : decide (k < n) = false := decide_eq_false hlt2
          have hkn : k = n := by omega
          subst hkn
          obtain ⟨D, sk, hD⟩ : ∃ D sk, allC S0 k = (D, sk) := ⟨_, _, rfl⟩
          rw [hD] at kR ho hdf HP0
          dsimp only at kR ho hdf HP0
          have HP := HP0
          have HDE := Lib.hid (fun w => dend_any sk hdf w)
          unfold rv at HDE
          clear hD hlt2 hdl hdn HP0
          obtain ⟨sz, hsz⟩ : ∃ sz, endR sk = sz := ⟨_, rfl⟩
          rw [hsz] at HP HDE
          clear hsz
          have z0 := kR.cell 0
          have z1 := kR.cell 1
          go_wp2_with fail
          refine (HDE.out _).mono ?_
          rintro e w9 ⟨rfl, b9⟩
          have kR9 := kR.later b9
          have ho9 := ownsRow_below ho b9
          have B9 := Below.later BB b9 BB.size
          have y0 := kR9.cell 0
          have y1 := kR9.cell 1
          have f0 := kR9.frozen 0
          have f1 := kR9.frozen 1
          have kRs := (kR9.set 0 (.string (bs sz.rest))).set 1 (.int .i64 sz.e)
          have hos := ownsRow_blkset (ownsRow_blkset ho9 (a := ⟨rb, 0, none⟩) hne (.string (bs sz.rest))) (a := ⟨rb, 1, none⟩) hne (.int .i64 sz.e)
          have Bs := (B9.setCell (p := ⟨rb, 0, none⟩) (by dsimp only; omega) (.string (bs sz.rest))).setCell (p := ⟨rb, 1, none⟩) (by dsimp only; omega) (.int .i64 sz.e)
          clear z0 z1
          by_cases he : sz.e = 0
          · have q1 : ((sz.e : Int) != 0) = false := by simp [he]
            have HR := Lib.hid (HP.out.1 he)
            clear he
            go_wp2_with fail
            refine bodyPost_ret (v := .tuple #[sv, .int .i64 0]) (by simp [results, Try.results16, go_sem]) rfl ⟨sv, by rw [HR.out]; rfl, by rw [HR.out]; exact RdT.owns hos, Bs⟩
          · have q1 : ((sz.e : Int) != 0) = true := by simp [he]
            have HR := Lib.hid (HP.out.2 he)
            clear he
            go_wp2_with fail
            obtain ⟨Wz, hWz⟩ : ∃ Wz, (w9.setCell ⟨rb, 0, none⟩ (.string (bs sz.rest))).setCell ⟨rb, 1, none⟩ (.int .i64 sz.e) = Wz := ⟨_, rfl⟩
            rw [hWz] at kRs Bs ⊢
            clear hWz
            have F := kRs.held
            refine wp_region_ord (fun w' => Below Wz.heap.size Wz w') (0 :: 1 :: 2 :: 3 :: []) [] (by kernel_rfl) (by kernel_rfl) (by intro c d v a w h; cases d <;> exact h) (Below.drew (Below.refl _ _)) ?_
            repeat (first
              | (refine wpOrd_take (v := ?_) rfl rfl ?_ ?_ ?_; rotate_left; rfl; (· intro w' hSw; (try dsimp only at hSw); go_simp <;> with_reducible rfl); simp only [Act.put, List.setIfInBounds_toArray, List.set_cons_zero, List.set_cons_succ])
              | (refine wpOrd_skip rfl rfl ?_ ?_; rfl; simp only [Act.put, List.setIfInBounds_toArray, List.set_cons_zero, List.set_cons_succ]))
            refine wpOrd_nil ?_
            go_wp2_with fail
            refine bodyPost_ret (v := .tuple #[.slice none 0 0, .int .i64 sz.e]) (by simp [results, Try.results16, go_sem]) rfl ⟨.slice none 0 0, by rw [HR.out], by rw [HR.out]; exact rdT_nil _ _, Bs.drew⟩
end Cm
end Go.Proofs.Ytdjddbidhaeekaa
