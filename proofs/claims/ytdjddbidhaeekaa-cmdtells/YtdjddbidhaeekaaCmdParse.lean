/-
  cmd.Parse.
-/
import Derived.Test.YtdjddbidhaeekaaCmdBatch
import Derived.Test.YtdjddbidhaeekaaApart
namespace Go.Proofs.Ytdjddbidhaeekaa
open Go.RowKit Go.WideShapes
namespace Cm
open Wire
abbrev flat (l : List Cm) : List Value := l.flatMap cells
theorem raw_len (s : R) : (rawC s).2.rest.length ≤ s.rest.length := by
  have l1 := byteR_len s
  have l2 := belowR_len' (byteR s).2 4294967296
  have l3 := byteR_len (belowR (byteR s).2 4294967296).2
  have l4 := strR_len' (byteR (belowR (byteR s).2 4294967296).2).2 16
  have l5 := strR_len' (strR (byteR (belowR (byteR s).2 4294967296).2).2 16).2 64
  have l6 := strR_len' (strR (strR (byteR (belowR (byteR s).2 4294967296).2).2 16).2 64).2 64
  have l7 := byteR_len (strR (strR (strR (byteR (belowR (byteR s).2 4294967296).2).2 16).2 64).2 64).2
  unfold rawC
  dsimp only
  omega
theorem take_c_len (s : R) : (takeC s).2.rest.length ≤ s.rest.length := by
  have h1 := raw_len s
  unfold takeC leftC
  dsimp only
  split
  · exact h1
  · exact Nat.le_trans (badR_len _) h1
theorem docC_len (s : R) : ∀ k, (docC s k).2.rest.length ≤ s.rest.length
  | 0 => Nat.le_refl _
  | k + 1 => by
    have h := docC_len s k
    unfold docC
    split
    · exact Nat.le_trans (take_c_len _) h
    · exact h
theorem docC_num (s : R) : ∀ k, (docC s k).1.length ≤ k
  | 0 => Nat.le_refl _
  | k + 1 => by
    have h := docC_num s k
    unfold docC
    split
    · simp; omega
    · omega
theorem head_len (s : List UInt8) : (headR s).2.rest.length ≤ s.length := by
  have h1 := byteR_len ⟨s, 0⟩
  unfold headR
  split
  · exact Nat.le_trans (badR_len _) h1
  · exact h1
theorem head_lt (s : List UInt8) : (headR s).1 < 256 := by
  have h1 := byteR_lt ⟨s, 0⟩
  unfold headR
  split <;> exact h1
set_option maxRecDepth 100000 in
set_option maxHeartbeats 4000000 in
theorem parse_c (s : List UInt8) (hl : s.length < 1000000000) (w : World) :
    Calls Try.prog 15 #[.string (bs s)] w fun e w' => ∃ v, e = .returned (.tuple #[v, .int .i64 (parseR s).2]) ∧ RdT cells w' v (parseR s).1 ∧ Below w.heap.size w w' := by
  have zs := bs_size s
  have n2 := size_eq (bs s)
  have n3 := size_list (bs s)
  by_cases h0 : s = []
  · have HR := Lib.hid (show parseR s = ([], 0) from if_pos h0)
    rw [decide_eq_true (by rw [zs, h0]; rfl)] at n2 n3
    clear h0
    go_enter Try.func15, Try.ntmps15
    go_wp2_with fail
    refine bodyPost_ret (v := .tuple #[.slice none 0 0, .int .i64 0]) (by simp [results, Try.results15, go_sem]) rfl ⟨.slice none 0 0, by rw [HR.out]; rfl, by rw [HR.out]; exact rdT_nil _ _, Below.refl _ _⟩
  · rw [decide_eq_false (by rw [zs]; intro e; exact h0 (List.eq_nil_of_length_eq_zero e))] at n2 n3
    have HP := Lib.hid (show parseR s = if (endR (docC (headR s).2 (headR s).1).2).e = 0 then ((docC (headR s).2 (headR s).1).1, 0) else ([], (endR (docC (headR s).2 (headR s).1).2).e) from if_neg h0)
    have HH := Lib.hid (show headR s = if (byteR ⟨s, 0⟩).1 = 0 ∨ 4 < (byteR ⟨s, 0⟩).1 then ((byteR ⟨s, 0⟩).1, badR (byteR ⟨s, 0⟩).2) else byteR ⟨s, 0⟩ from rfl)
    have hhl := head_len s
    have hlt := head_lt s
    have HB := Lib.hid (fun b w h => byte_any b ⟨s, 0⟩ w h (by dsimp only; omega))
    obtain ⟨c, s1, e1⟩ : ∃ c s1, byteR ⟨s, 0⟩ = (c, s1) := ⟨_, _, rfl⟩
    rw [e1] at HB HH
    obtain ⟨n, S0, eh⟩ : ∃ n S0, headR s = (n, S0) := ⟨_, _, rfl⟩
    have HDL := Lib.hid (docC_len S0)
    have HDN := Lib.hid (docC_num S0)
    have HDS := Lib.hid (show ∀ k, docC S0 (k + 1) = if (docC S0 k).2.e = 0 then ((docC S0 k).1 ++ [(takeC (docC S0 k).2).1], (takeC (docC S0 k).2).2) else docC S0 k from fun k => rfl)
    rw [eh] at HP HH hhl hlt
    dsimp only at HB HH HP hhl hlt
    clear e1 eh h0
    have hcn : n = c := by have h := congrArg Prod.fst HH.out; revert h; split <;> exact fun h => h
    have HS0 := Lib.hid (show S0 = if c = 0 ∨ 4 < c then badR s1 else s1 by have h := congrArg Prod.snd HH.out; revert h; split <;> exact fun h => h)
    clear HH
    subst hcn
    go_enter Try.func15, Try.ntmps15
    go_wp2_with fail
    refine (of_any s w).mono ?_
    rintro e w1 ⟨br, rfl, hbr, b1, r1⟩
    go_wp2_with fail
    refine (HB.out br w1 r1).mono ?_
    rintro e w2 ⟨rfl, g2, r2⟩
    have B2 := Below.grew b1 g2 b1.size hbr
    have z2 := Blk.lt r2
    clear b1 g2 r1
    by_cases hc : n = 0 ∨ 4 < n
    · rw [if_pos hc] at HS0
      by_cases hc1 : n = 0
      · have t1 : ((n : Int) == 0) = true := by simp [hc1]
        clear hc hc1
        go_wp2_with fail
        refine (bad_of br s1 w2 r2).mono ?_
        rintro e w3 ⟨rfl, g3, r3⟩
        have r4 : Rdr w3 br S0 := by rw [HS0.out]; exact r3
        have B4 := Below.grew B2 g3 B2.size hbr
        clear r3 g3 r2 B2
        go_wp2_with fail
        go_loopw [6, 23] (fun s6 i wr => ∃ (k : Nat) (sv : Value), k ≤ n ∧ i = .int .u8 k ∧ sv = s6 ∧ Rdr wr br (docC S0 k).2 ∧ wr.ownsRow w.heap.size 25 7 sv (docC S0 k).1.length (flat (docC S0 k).1) ∧ some br ≠ sv.ownBlock ∧ Below w.heap.size w wr) (fun _ i _ => n - (intOf i).toNat)
        case atStart => exact ⟨0, _, Nat.zero_le _, rfl, rfl, r4, ⟨rfl, .inl ⟨rfl, rfl⟩⟩, by simp [Value.ownBlock], B4⟩
        case round =>
          clear r4 B4
          obtain ⟨k, sv, hk, rfl, rfl, r, ho, hne, BB⟩ := hrel
          have hdl := HDL.out k
          have hdn := HDN.out k
          by_cases hlt2 : k < n
          · have hd : decide ((k : Int) < (n : Int)) = true := decide_eq_true (by omega)
            have hd' : decide (k < n) = true := decide_eq_true hlt2
            have hw8 : IntKind.u8.wrap ((k : Int) + 1) = ((k + 1 : Nat) : Int) := by rw [IntKind.wrap_u8]; omega
            have hds := HDS.out k
            obtain ⟨D, sk, hD⟩ : ∃ D sk, docC S0 k = (D, sk) := ⟨_, _, rfl⟩
            rw [hD] at hds r ho hdl hdn
            dsimp only at hds r ho hdl hdn
            have HD := Lib.hid hD
            clear hD
            go_wp2_with fail
            refine (err_of br sk wr r).mono ?_
            rintro e w5 ⟨rfl, rfl⟩
            by_cases he : sk.e = 0
            · rw [if_pos he] at hds
              have HN := Lib.hid hds
              have q1 : ((sk.e : Int) == 0) = true := by simp [he]
              clear he hds
              go_wp2_with fail
              refine (take_c br sk wr r (by omega)).mono ?_
              rintro e w6 ⟨rfl, g6, r6⟩
              have ho6 := ho.kept g6 (by
                cases hb : sv.ownBlock with
                | none => exact .inl rfl
                | some b2 => exact .inr (fun e => by rw [← hb] at e; exact hne e.symm))
              have B6 := Below.grew BB g6 BB.size hbr
              obtain ⟨x, hx⟩ : ∃ x, (takeC sk).1 = x := ⟨_, rfl⟩
              obtain ⟨s7, hs7⟩ : ∃ s7, (takeC sk).2 = s7 := ⟨_, rfl⟩
              rw [hx, hs7] at HN
              rw [hs7] at r6
              rw [hx]
              clear hx hs7 g6 r ho BB
              go_wp2_with (at_builtin; go_loud (refine appSt rfl _ _ 22 rfl w.heap.size 25 zero.val 7 72 infoC Try.underlying22 rfl (by decide) w6 #[.int .u8 x.cl, .int .u32 x.sq, .int .u8 x.kd, .string x.key, .string x.old, .string x.new, .int .u8 x.set] 25 rfl (by intro u hu; simp at hu; rcases hu with rfl | rfl | rfl | rfl | rfl | rfl | rfl <;> rfl) sv D.length (flat D) ho6 rfl _ rfl rfl (by omega) (by omega) B6.size ?_; intro v8 w8 ho8 g8))
              have r8 : Rdr w8 br s7 := Blk.grown r6 g8.1 hne
              have hne8 := g8.stays hne (Blk.lt r6)
              have B8 := g8.below B6 B6.size (fun b hb => by
                rcases ho6.2 with ⟨e1, _⟩ | ⟨g, _, _, e1, hg, _⟩
                · rw [e1] at hb; cases hb
                · rw [e1] at hb; cases hb; exact hg)
              go_roundw
              case rel => exact ⟨k + 1, v8, by omega, by go_num, rfl, by rw [HN.out]; exact r8, by
                  rw [HN.out]
                  have e : flat (D ++ [x]) = flat D ++ x.cells := by simp [flat]
                  rw [e, List.length_append]; exact ho8, hne8, B8⟩
              case measure => simp [intOf]; omega
            · rw [if_neg he] at hds
              have HN := Lib.hid hds
              have q1 : ((sk.e : Int) == 0) = false := by simp [he]
              clear he hds
              go_wp2_with fail
              go_roundw
              case rel => exact ⟨k + 1, sv, by omega, by go_num, rfl, by rw [HN.out]; exact r, by rw [HN.out]; exact ho, hne, BB⟩
              case measure => simp [intOf]; omega
          · have hd : decide ((k : Int) < (n : Int)) = false := decide_eq_false (by omega)
            have hd' : decide (k < n) = false := decide_eq_false hlt2
            have hkn : k = n := by omega
            subst hkn
            obtain ⟨D, sk, hD⟩ : ∃ D sk, docC S0 k = (D, sk) := ⟨_, _, rfl⟩
            rw [hD] at r ho hdl hdn HP
            dsimp only at r ho hdl hdn HP
            clear hD hlt2
            go_wp2_with fail
            refine (end_of br sk wr r).mono ?_
            rintro e w9 ⟨rfl, g9, r9⟩
            have ho9 := ho.kept g9 (by
              cases hb : sv.ownBlock with
              | none => exact .inl rfl
              | some b2 => exact .inr (fun e => by rw [← hb] at e; exact hne e.symm))
            have B9 := Below.grew BB g9 BB.size hbr
            obtain ⟨E, hE⟩ : ∃ E, (endR sk).e = E := ⟨_, rfl⟩
            rw [hE] at HP ⊢
            clear hE
            by_cases he : E = 0
            · have q1 : ((E : Int) != 0) = false := by simp [he]
              have HR := Lib.hid (HP.out.trans (if_pos he))
              clear he
              go_wp2_with fail
              refine bodyPost_ret (v := .tuple #[sv, .int .i64 0]) (by simp [results, Try.results15, go_sem]) rfl ⟨sv, by rw [HR.out]; rfl, by rw [HR.out]; exact RdT.owns ho9, B9⟩
            · have q1 : ((E : Int) != 0) = true := by simp [he]
              have HR := Lib.hid (HP.out.trans (if_neg he))
              clear he
              go_wp2_with fail
              refine bodyPost_ret (v := .tuple #[.slice none 0 0, .int .i64 E]) (by simp [results, Try.results15, go_sem]) rfl ⟨.slice none 0 0, by rw [HR.out], by rw [HR.out]; exact rdT_nil _ _, B9⟩
      · have t1 : ((n : Int) == 0) = false := by rw [beq_eq_false_iff_ne]; omega
        have t2 : decide ((4 : Int) < (n : Int)) = true := decide_eq_true (by omega)
        have t3 : decide (4 < n) = true := decide_eq_true (by omega)
        clear hc hc1
        go_wp2_with fail
        refine (bad_of br s1 w2 r2).mono ?_
        rintro e w3 ⟨rfl, g3, r3⟩
        have r4 : Rdr w3 br S0 := by rw [HS0.out]; exact r3
        have B4 := Below.grew B2 g3 B2.size hbr
        clear r3 g3 r2 B2
        go_wp2_with fail
        go_loopw [6, 23] (fun s6 i wr => ∃ (k : Nat) (sv : Value), k ≤ n ∧ i = .int .u8 k ∧ sv = s6 ∧ Rdr wr br (docC S0 k).2 ∧ wr.ownsRow w.heap.size 25 7 sv (docC S0 k).1.length (flat (docC S0 k).1) ∧ some br ≠ sv.ownBlock ∧ Below w.heap.size w wr) (fun _ i _ => n - (intOf i).toNat)
        case atStart => exact ⟨0, _, Nat.zero_le _, rfl, rfl, r4, ⟨rfl, .inl ⟨rfl, rfl⟩⟩, by simp [Value.ownBlock], B4⟩
        case round =>
          clear r4 B4
          obtain ⟨k, sv, hk, rfl, rfl, r, ho, hne, BB⟩ := hrel
          have hdl := HDL.out k
          have hdn := HDN.out k
          by_cases hlt2 : k < n
          · have hd : decide ((k : Int) < (n : Int)) = true := decide_eq_true (by omega)
            have hd' : decide (k < n) = true := decide_eq_true hlt2
            have hw8 : IntKind.u8.wrap ((k : Int) + 1) = ((k + 1 : Nat) : Int) := by rw [IntKind.wrap_u8]; omega
            have hds := HDS.out k
            obtain ⟨D, sk, hD⟩ : ∃ D sk, docC S0 k = (D, sk) := ⟨_, _, rfl⟩
            rw [hD] at hds r ho hdl hdn
            dsimp only at hds r ho hdl hdn
            have HD := Lib.hid hD
            clear hD
            go_wp2_with fail
            refine (err_of br sk wr r).mono ?_
            rintro e w5 ⟨rfl, rfl⟩
            by_cases he : sk.e = 0
            · rw [if_pos he] at hds
              have HN := Lib.hid hds
              have q1 : ((sk.e : Int) == 0) = true := by simp [he]
              clear he hds
              go_wp2_with fail
              refine (take_c br sk wr r (by omega)).mono ?_
              rintro e w6 ⟨rfl, g6, r6⟩
              have ho6 := ho.kept g6 (by
                cases hb : sv.ownBlock with
                | none => exact .inl rfl
                | some b2 => exact .inr (fun e => by rw [← hb] at e; exact hne e.symm))
              have B6 := Below.grew BB g6 BB.size hbr
              obtain ⟨x, hx⟩ : ∃ x, (takeC sk).1 = x := ⟨_, rfl⟩
              obtain ⟨s7, hs7⟩ : ∃ s7, (takeC sk).2 = s7 := ⟨_, rfl⟩
              rw [hx, hs7] at HN
              rw [hs7] at r6
              rw [hx]
              clear hx hs7 g6 r ho BB
              go_wp2_with (at_builtin; go_loud (refine appSt rfl _ _ 22 rfl w.heap.size 25 zero.val 7 72 infoC Try.underlying22 rfl (by decide) w6 #[.int .u8 x.cl, .int .u32 x.sq, .int .u8 x.kd, .string x.key, .string x.old, .string x.new, .int .u8 x.set] 25 rfl (by intro u hu; simp at hu; rcases hu with rfl | rfl | rfl | rfl | rfl | rfl | rfl <;> rfl) sv D.length (flat D) ho6 rfl _ rfl rfl (by omega) (by omega) B6.size ?_; intro v8 w8 ho8 g8))
              have r8 : Rdr w8 br s7 := Blk.grown r6 g8.1 hne
              have hne8 := g8.stays hne (Blk.lt r6)
              have B8 := g8.below B6 B6.size (fun b hb => by
                rcases ho6.2 with ⟨e1, _⟩ | ⟨g, _, _, e1, hg, _⟩
                · rw [e1] at hb; cases hb
                · rw [e1] at hb; cases hb; exact hg)
              go_roundw
              case rel => exact ⟨k + 1, v8, by omega, by go_num, rfl, by rw [HN.out]; exact r8, by
                  rw [HN.out]
                  have e : flat (D ++ [x]) = flat D ++ x.cells := by simp [flat]
                  rw [e, List.length_append]; exact ho8, hne8, B8⟩
              case measure => simp [intOf]; omega
            · rw [if_neg he] at hds
              have HN := Lib.hid hds
              have q1 : ((sk.e : Int) == 0) = false := by simp [he]
              clear he hds
              go_wp2_with fail
              go_roundw
              case rel => exact ⟨k + 1, sv, by omega, by go_num, rfl, by rw [HN.out]; exact r, by rw [HN.out]; exact ho, hne, BB⟩
              case measure => simp [intOf]; omega
          · have hd : decide ((k : Int) < (n : Int)) = false := decide_eq_false (by omega)
            have hd' : decide (k < n) = false := decide_eq_false hlt2
            have hkn : k = n := by omega
            subst hkn
            obtain ⟨D, sk, hD⟩ : ∃ D sk, docC S0 k = (D, sk) := ⟨_, _, rfl⟩
            rw [hD] at r ho hdl hdn HP
            dsimp only at r ho hdl hdn HP
            clear hD hlt2
            go_wp2_with fail
            refine (end_of br sk wr r).mono ?_
            rintro e w9 ⟨rfl, g9, r9⟩
            have ho9 := ho.kept g9 (by
              cases hb : sv.ownBlock with
              | none => exact .inl rfl
              | some b2 => exact .inr (fun e => by rw [← hb] at e; exact hne e.symm))
            have B9 := Below.grew BB g9 BB.size hbr
            obtain ⟨E, hE⟩ : ∃ E, (endR sk).e = E := ⟨_, rfl⟩
            rw [hE] at HP ⊢
            clear hE
            by_cases he : E = 0
            · have q1 : ((E : Int) != 0) = false := by simp [he]
              have HR := Lib.hid (HP.out.trans (if_pos he))
              clear he
              go_wp2_with fail
              refine bodyPost_ret (v := .tuple #[sv, .int .i64 0]) (by simp [results, Try.results15, go_sem]) rfl ⟨sv, by rw [HR.out]; rfl, by rw [HR.out]; exact RdT.owns ho9, B9⟩
            · have q1 : ((E : Int) != 0) = true := by simp [he]
              have HR := Lib.hid (HP.out.trans (if_neg he))
              clear he
              go_wp2_with fail
              refine bodyPost_ret (v := .tuple #[.slice none 0 0, .int .i64 E]) (by simp [results, Try.results15, go_sem]) rfl ⟨.slice none 0 0, by rw [HR.out], by rw [HR.out]; exact rdT_nil _ _, B9⟩
    · rw [if_neg hc] at HS0
      have t1 : ((n : Int) == 0) = false := by rw [beq_eq_false_iff_ne]; omega
      have t2 : decide ((4 : Int) < (n : Int)) = false := decide_eq_false (by omega)
      have t3 : decide (4 < n) = false := decide_eq_false (by omega)
      clear hc
      have r4 : Rdr w2 br S0 := by rw [HS0.out]; exact r2
      have B4 := B2
      clear r2 B2
      go_wp2_with fail
      go_loopw [6, 23] (fun s6 i wr => ∃ (k : Nat) (sv : Value), k ≤ n ∧ i = .int .u8 k ∧ sv = s6 ∧ Rdr wr br (docC S0 k).2 ∧ wr.ownsRow w.heap.size 25 7 sv (docC S0 k).1.length (flat (docC S0 k).1) ∧ some br ≠ sv.ownBlock ∧ Below w.heap.size w wr) (fun _ i _ => n - (intOf i).toNat)
      case atStart => exact ⟨0, _, Nat.zero_le _, rfl, rfl, r4, ⟨rfl, .inl ⟨rfl, rfl⟩⟩, by simp [Value.ownBlock], B4⟩
      case round =>
        clear r4 B4
        obtain ⟨k, sv, hk, rfl, rfl, r, ho, hne, BB⟩ := hrel
        have hdl := HDL.out k
        have hdn := HDN.out k
        by_cases hlt2 : k < n
        · have hd : decide ((k : Int) < (n : Int)) = true := decide_eq_true (by omega)
          have hd' : decide (k < n) = true := decide_eq_true hlt2
          have hw8 : IntKind.u8.wrap ((k : Int) + 1) = ((k + 1 : Nat) : Int) := by rw [IntKind.wrap_u8]; omega
          have hds := HDS.out k
          obtain ⟨D, sk, hD⟩ : ∃ D sk, docC S0 k = (D, sk) := ⟨_, _, rfl⟩
          rw [hD] at hds r ho hdl hdn
          dsimp only at hds r ho hdl hdn
          have HD := Lib.hid hD
          clear hD
          go_wp2_with fail
          refine (err_of br sk wr r).mono ?_
          rintro e w5 ⟨rfl, rfl⟩
          by_cases he : sk.e = 0
          · rw [if_pos he] at hds
            have HN := Lib.hid hds
            have q1 : ((sk.e : Int) == 0) = true := by simp [he]
            clear he hds
            go_wp2_with fail
            refine (take_c br sk wr r (by omega)).mono ?_
            rintro e w6 ⟨rfl, g6, r6⟩
            have ho6 := ho.kept g6 (by
              cases hb : sv.ownBlock with
              | none => exact .inl rfl
              | some b2 => exact .inr (fun e => by rw [← hb] at e; exact hne e.symm))
            have B6 := Below.grew BB g6 BB.size hbr
            obtain ⟨x, hx⟩ : ∃ x, (takeC sk).1 = x := ⟨_, rfl⟩
            obtain ⟨s7, hs7⟩ : ∃ s7, (takeC sk).2 = s7 := ⟨_, rfl⟩
            rw [hx, hs7] at HN
            rw [hs7] at r6
            rw [hx]
            clear hx hs7 g6 r ho BB
            go_wp2_with (at_builtin; go_loud (refine appSt rfl _ _ 22 rfl w.heap.size 25 zero.val 7 72 infoC Try.underlying22 rfl (by decide) w6 #[.int .u8 x.cl, .int .u32 x.sq, .int .u8 x.kd, .string x.key, .string x.old, .string x.new, .int .u8 x.set] 25 rfl (by intro u hu; simp at hu; rcases hu with rfl | rfl | rfl | rfl | rfl | rfl | rfl <;> rfl) sv D.length (flat D) ho6 rfl _ rfl rfl (by omega) (by omega) B6.size ?_; intro v8 w8 ho8 g8))
            have r8 : Rdr w8 br s7 := Blk.grown r6 g8.1 hne
            have hne8 := g8.stays hne (Blk.lt r6)
            have B8 := g8.below B6 B6.size (fun b hb => by
              rcases ho6.2 with ⟨e1, _⟩ | ⟨g, _, _, e1, hg, _⟩
              · rw [e1] at hb; cases hb
              · rw [e1] at hb; cases hb; exact hg)
            go_roundw
            case rel => exact ⟨k + 1, v8, by omega, by go_num, rfl, by rw [HN.out]; exact r8, by
                rw [HN.out]
                have e : flat (D ++ [x]) = flat D ++ x.cells := by simp [flat]
                rw [e, List.length_append]; exact ho8, hne8, B8⟩
            case measure => simp [intOf]; omega
          · rw [if_neg he] at hds
            have HN := Lib.hid hds
            have q1 : ((sk.e : Int) == 0) = false := by simp [he]
            clear he hds
            go_wp2_with fail
            go_roundw
            case rel => exact ⟨k + 1, sv, by omega, by go_num, rfl, by rw [HN.out]; exact r, by rw [HN.out]; exact ho, hne, BB⟩
            case measure => simp [intOf]; omega
        · have hd : decide ((k : Int) < (n : Int)) = false := decide_eq_false (by omega)
          have hd' : decide (k < n) = false := decide_eq_false hlt2
          have hkn : k = n := by omega
          subst hkn
          obtain ⟨D, sk, hD⟩ : ∃ D sk, docC S0 k = (D, sk) := ⟨_, _, rfl⟩
          rw [hD] at r ho hdl hdn HP
          dsimp only at r ho hdl hdn HP
          clear hD hlt2
          go_wp2_with fail
          refine (end_of br sk wr r).mono ?_
          rintro e w9 ⟨rfl, g9, r9⟩
          have ho9 := ho.kept g9 (by
            cases hb : sv.ownBlock with
            | none => exact .inl rfl
            | some b2 => exact .inr (fun e => by rw [← hb] at e; exact hne e.symm))
          have B9 := Below.grew BB g9 BB.size hbr
          obtain ⟨E, hE⟩ : ∃ E, (endR sk).e = E := ⟨_, rfl⟩
          rw [hE] at HP ⊢
          clear hE
          by_cases he : E = 0
          · have q1 : ((E : Int) != 0) = false := by simp [he]
            have HR := Lib.hid (HP.out.trans (if_pos he))
            clear he
            go_wp2_with fail
            refine bodyPost_ret (v := .tuple #[sv, .int .i64 0]) (by simp [results, Try.results15, go_sem]) rfl ⟨sv, by rw [HR.out]; rfl, by rw [HR.out]; exact RdT.owns ho9, B9⟩
          · have q1 : ((E : Int) != 0) = true := by simp [he]
            have HR := Lib.hid (HP.out.trans (if_neg he))
            clear he
            go_wp2_with fail
            refine bodyPost_ret (v := .tuple #[.slice none 0 0, .int .i64 E]) (by simp [results, Try.results15, go_sem]) rfl ⟨.slice none 0 0, by rw [HR.out], by rw [HR.out]; exact rdT_nil _ _, B9⟩
end Cm
end Go.Proofs.Ytdjddbidhaeekaa
