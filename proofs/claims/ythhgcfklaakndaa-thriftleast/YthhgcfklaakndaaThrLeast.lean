/-
  ThriftLeast, walked.
-/
import Derived.Test.YthhgcfklaakndaaThrPure
import Derived.Test.YthhgcfklaakndaaThrPlays
namespace Go.Proofs.Ythhgcfklaakndaa
open Go.RowKit
namespace Thr
open Mem R8
set_option maxRecDepth 100000 in
set_option maxHeartbeats 4000000 in
theorem least_walk (self c : Nat) (hs : self < 256) (hc : c < 256) (v : Value) (l : List Nat) (w : World) (hv : RdB w v l) :
    Calls Try.prog 3 #[.int .u8 self, v, .int .u8 c] w fun e w' => e = .returned (.bool true) ∧ Below w.heap.size w w' := by
  have HV := Lib.hid hv
  obtain ⟨p, cap, rfl, hb, _, _⟩ := hv
  by_cases hlen : 100 < l.length
  · have d1 : decide (100 < l.length) = true := decide_eq_true hlen
    have d1' : decide ((100 : Int) < (l.length : Int)) = true := decide_eq_true (by omega)
    clear hb
    go_enter Try.func3, Try.ntmps3
    go_wp2_with fail
    refine (wakes_any _).mono ?_
    rintro e w1 ⟨rfl, hb⟩
    go_wp2
    go_ret
    exact ⟨rfl, hb⟩
  · have d1 : decide (100 < l.length) = false := decide_eq_false hlen
    have d1' : decide ((100 : Int) < (l.length : Int)) = false := decide_eq_false (by omega)
    by_cases h7 : 7 ≤ self
    · have t1 : decide (7 ≤ self) = true := decide_eq_true (by omega)
      have t2 : decide ((7 : Int) ≤ (self : Int)) = true := decide_eq_true (by omega)
      clear hb
      go_enter Try.func3, Try.ntmps3
      go_wp2_with fail
      refine (wakes_any _).mono ?_
      rintro e w1 ⟨rfl, hb⟩
      go_wp2
      go_ret
      exact ⟨rfl, hb⟩
    · have t1 : decide (7 ≤ self) = false := decide_eq_false (by omega)
      have t2 : decide ((7 : Int) ≤ (self : Int)) = false := decide_eq_false (by omega)
      go_enter Try.func3, Try.ntmps3
      go_wp2_with fail
      refine (new_any self (by omega) _).mono ?_
      rintro e w1 ⟨rfl, q1, B1⟩
      go_wp2_with fail
      refine (Mem.with_any _ 0 (by omega) (by omega) (by omega) (by omega) _).mono ?_
      rintro e wz ⟨rfl, rfl⟩
      rw [Int.toNat_natCast, show (0 : Int).toNat = 0 from rfl]
      have hC := mWith_lt c 0
      generalize mWith c 0 = C at hC ⊢

      go_wp2_with fail
      refine (Mem.len_any _ (by omega) (by omega) _).mono ?_
      rintro e wz ⟨rfl, rfl⟩
      simp only [Int.toNat_natCast]
      by_cases h0 : cnt C = 0
      · have hC0 := cnt_none C hC h0
        have t3 : ((cnt C : Int) == 0) = true := by simp [h0]
        have HPA := pick_any w.heap.size self w.heap.size _ [] C (by omega) hs (by simp) _ q1.blk q1.row
        rw [show pk C (self :: [] ++ listN C) = 0 by rw [hC0]; exact pk_none _] at HPA
        have HPB := Lib.hid HPA
        clear hb HPA hC0 h0
        go_wp2_with fail
        refine HPB.out.mono ?_
        rintro e w2 ⟨rfl, b2⟩
        have B2 := Below.later B1 b2 B1.size
        go_wp2_with fail
        refine (wakes_any _).mono ?_
        rintro e w3 ⟨rfl, b3⟩
        go_wp2_with fail
        go_ret
        exact ⟨rfl, Below.later B2 b3 B2.size⟩
      · have t3 : ((cnt C : Int) == 0) = false := by simp; omega
        have HPA := Lib.hid (pick_any w.heap.size self w.heap.size _ [] C (by omega) hs (by simp) _ q1.blk q1.row)
        have hF1 := pk_major C h0 (self :: [])
        have hF2 := pk_len C h0 (self :: [])
        have hF3 := pk_lt C (self :: [] ++ listN C)
        have HF4 := Lib.hid (fun m => pk_meets C h0 m (self :: []))
        obtain ⟨F, hF⟩ : ∃ F, pk C (self :: [] ++ listN C) = F := ⟨_, rfl⟩
        rw [hF] at HPA hF1 hF2 hF3 HF4
        clear hF
        have HF1 := Lib.hid hF1
        have HF2 := Lib.hid hF2
        have H0 := Lib.hid h0
        clear hF1 hF2 h0
        go_wp2_with fail
        refine HPA.out.mono ?_
        rintro e w2 ⟨rfl, b2⟩
        have B2 := Below.later B1 b2 B1.size
        have q2 := q1.below b2
        clear HPA q1 B1 b2
        go_wp2_with fail
        go_loopw [11] (fun i wr => ∃ (k : Nat) (vm : Value), k ≤ l.length ∧ i = .int .i64 k ∧ Mm wr w.heap.size w.heap.size self vm (hds self (l.take k)) ∧ Below w.heap.size w wr) (fun i _ => l.length - (intOf i).toNat)
        case atStart => exact ⟨0, _, Nat.zero_le _, rfl, q2, B2⟩
        case round =>
          clear q2 B2
          obtain ⟨k, vm, hk, rfl, q, BB⟩ := hrel
          by_cases hlt : k < l.length
          · have g1 : decide ((k : Int) < (l.length : Int)) = true := decide_eq_true (by omega)
            have g2 : decide (k < l.length) = true := decide_eq_true hlt
            have hRl := hds_len self (l.take k)
            rw [List.length_take] at hRl
            have hRl2 : (hds self (l.take k)).length ≤ 100 := by omega
            have HSN := Lib.hid (show hds self (l.take (k + 1)) = hd self (hds self (l.take k)) l[k] by rw [take_snoc l k hlt, hds_snoc])
            obtain ⟨R, hR⟩ : ∃ R, hds self (l.take k) = R := ⟨_, rfl⟩
            rw [hR] at q HSN hRl2
            clear hR hRl
            have hx := hb _ (List.getElem_mem hlt)
            have HCELL : RowKit.Hid (∀ x w', l[k] = x → Below w.heap.size w w' → ∃ b off, p = some ⟨b, off, none⟩ ∧ w'.cell? ⟨b, off + k, none⟩ = some (.int .u8 (x : Int))) := Lib.hid (fun x w' he hb => by
              obtain ⟨p', cap', e, _, _, hcx, _⟩ := HV.out.below hb (Nat.le_refl _)
              cases e
              obtain ⟨b, off, e2, hcell⟩ := hcx k hlt
              rw [getD_at l k hlt, he] at hcell
              exact ⟨b, off, e2, hcell⟩)
            obtain ⟨x, hxe⟩ : ∃ x, l[k] = x := ⟨_, rfl⟩
            have HC2 := Lib.hid (fun w' => HCELL.out x w' hxe)
            rw [hxe] at hx HSN
            clear hxe HCELL
            obtain ⟨ab, off, rfl, hcell⟩ := HC2.out _ BB
            go_wp2_with fail
            refine (heard_any w.heap.size w.heap.size self vm R (by omega) x hx _ q).mono ?_
            rintro e x1 ⟨rfl, vm1, q1, m1⟩
            have B1 := m1.below BB BB.size (Nat.le_refl _) (own_base q.row)
            have hsm1 := q1.small
            clear q m1 BB hcell
            have HPA := Lib.hid (pick_any w.heap.size self w.heap.size vm1 (hd self R x) C (by omega) hs (fun y hy => by have := hsm1 y hy; omega) _ q1.blk q1.row)
            have hP1 := pk_major C H0.out (self :: hd self R x)
            have hP2 := pk_within C (by omega) (self :: hd self R x ++ listN C)
            have hP3 := pk_lt C (self :: hd self R x ++ listN C)
            have hP4 := HF4.out (self :: hd self R x)
            have hP5 := pk_self C self H0.out (hd self R x)
            have hP6 := pk_has C (self :: hd self R x ++ listN C) self
            have HP7 := Lib.hid (pk_least C (self :: hd self R x ++ listN C))
            have HP8 := Lib.hid (fun h1 => pk_last C self x h1 R)
            obtain ⟨P, hP⟩ : ∃ P, pk C (self :: hd self R x ++ listN C) = P := ⟨_, rfl⟩
            rw [hP] at HPA hP1 hP2 hP3 hP4 hP5 hP6 HP7
            simp only [hP] at HP8
            clear hP
            have HP1 := Lib.hid hP1
            have HP2 := Lib.hid hP2
            have HP4 := Lib.hid hP4
            have HP5 := Lib.hid (show mHas P self = mHas C self by
              cases h1 : mHas C self
              · cases h2 : mHas P self
                · rfl
                · have := hP6 h2; rw [h1] at this; cases this
              · exact hP5 h1)
            clear hP1 hP2 hP4 hP5 hP6
            go_wp2_with fail
            refine HPA.out.mono ?_
            rintro e x2 ⟨rfl, b2⟩
            have B2 := Below.later B1 b2 B1.size
            have q2 := q1.below b2
            clear HPA q1 B1 b2 hsm1
            go_wp2_with fail
            refine (Mem.without_any _ _ (by omega) (by omega) (by omega) (by omega) _).mono ?_
            rintro e wz ⟨rfl, rfl⟩
            simp only [Int.toNat_natCast]
            rw [HP2.out]
            go_wp2_with fail
            refine (Mem.major_any _ _ (by omega) (by omega) (by omega) (by omega) _).mono ?_
            rintro e wz ⟨rfl, rfl⟩
            simp only [Int.toNat_natCast]
            rw [HP1.out]
            go_wp2_with fail
            refine (Mem.both_any _ _ (by omega) (by omega) (by omega) (by omega) _).mono ?_
            rintro e wz ⟨rfl, rfl⟩
            simp only [Int.toNat_natCast]
            have t6 : ((mBoth P F : Int) == 0) = false := by
              have := HP4.out
              simp; exact this
            have hbo := mBoth_lt P F
            go_wp2_with fail
            refine (Mem.has_any _ _ (by omega) (by omega) (by omega) (by omega) _).mono ?_
            rintro e wz ⟨rfl, rfl⟩
            simp only [Int.toNat_natCast]
            go_wp2_with fail
            refine (Mem.has_any _ _ (by omega) (by omega) (by omega) (by omega) _).mono ?_
            rintro e wz ⟨rfl, rfl⟩
            simp only [Int.toNat_natCast]
            rw [HP5.out]
            have t7 : (mHas C self != mHas C self) = false := by simp
            go_wp2_with fail
            clear t6 hbo
            go_loopw [13] (fun j wr2 => ∃ m : Nat, m ≤ 7 ∧ j = .int .u8 m ∧ Below x2.heap.size x2 wr2) (fun j _ => 7 - (intOf j).toNat)
            case atStart => exact ⟨0, by omega, rfl, Below.refl _ _⟩
            case round =>
              obtain ⟨m, hm, rfl, b3⟩ := hrel
              by_cases hm7 : m < 7
              · have HL := Lib.hid (HP7.out m hm7)
                have g5 : decide ((m : Int) < 7) = true := decide_eq_true (by omega)
                have g6 : decide (m < 7) = true := decide_eq_true hm7
                go_wp2_with fail
                refine (Mem.has_any _ _ (by omega) (by omega) (by omega) (by omega) _).mono ?_
                rintro e wz ⟨rfl, rfl⟩
                simp only [Int.toNat_natCast]
                cases h9 : mHas P m
                · go_wp2
                  go_roundw
                  case rel => exact ⟨m + 1, by omega, by go_num, b3⟩
                  case measure => simp [intOf]; omega
                · have HL2 := Lib.hid (HL.out h9)
                  clear h9 HL
                  go_wp2_with fail
                  refine (of_new _ [m] _ _ _ _ _ ((mOf [m] : Nat) : Int) rfl rfl rfl rfl (by simp; omega) (by simp)).mono ?_
                  rintro e x4 ⟨rfl, hx4⟩
                  have b4 : Below x2.heap.size x2 x4 := by rw [← hx4]; exact Below.later b3 (below1 _ _) b3.size
                  have hof := mOf_lt [m]
                  clear hx4
                  go_wp2_with fail
                  refine (Mem.without_any _ _ (by omega) (by omega) (by omega) (by omega) _).mono ?_
                  rintro e wz ⟨rfl, rfl⟩
                  simp only [Int.toNat_natCast]
                  have hwo := mWithout_lt P (mOf [m])
                  go_wp2_with fail
                  refine (Mem.major_any _ _ (by omega) (by omega) (by omega) (by omega) _).mono ?_
                  rintro e wz ⟨rfl, rfl⟩
                  simp only [Int.toNat_natCast]
                  rw [HL2.out]
                  go_wp2
                  go_roundw
                  case rel =>
                    refine ⟨_, _, _, _, _, _, _, _, _, _, _, _, _, _, _, _, _, _, ?_, rfl⟩
                    exact ⟨m + 1, by omega, by go_num, b4⟩
                  case measure => simp [intOf]; omega
              · have g5 : decide ((m : Int) < 7) = false := decide_eq_false (by omega)
                have g6 : decide (m < 7) = false := decide_eq_false hm7
                have q3 := q2.below b3
                have B3 := Below.later B2 b3 B2.size
                clear q2 B2 b3
                obtain ⟨ab2, off2, e2, hcell⟩ := HC2.out _ B3
                cases e2
                go_wp2_with fail
                refine (Mem.len_any _ (by omega) (by omega) _).mono ?_
                rintro e wz ⟨rfl, rfl⟩
                simp only [Int.toNat_natCast]
                have hcl := cnt_le C
                by_cases h1 : 1 < cnt C
                · have t8 : decide ((1 : Int) < (cnt C : Int)) = true := decide_eq_true (by omega)
                  have t9 : decide (1 < cnt C) = true := decide_eq_true h1
                  have HL := Lib.hid (HP8.out h1)
                  go_wp2_with fail
                  refine (Mem.has_any _ _ (by omega) (by omega) (by omega) (by omega) _).mono ?_
                  rintro e wz ⟨rfl, rfl⟩
                  simp only [Int.toNat_natCast]
                  cases h9 : mHas C x
                  · go_wp2
                    go_roundw
                    case rel => exact ⟨k + 1, vm1, by omega, by go_num, by rw [HSN.out]; exact q3, B3⟩
                    case measure => simp [intOf]; omega
                  · have HL2 := Lib.hid (HL.out h9)
                    clear h9 HL
                    go_wp2_with fail
                    refine (Mem.has_any _ _ (by omega) (by omega) (by omega) (by omega) _).mono ?_
                    rintro e wz ⟨rfl, rfl⟩
                    simp only [Int.toNat_natCast]
                    rw [HL2.out]
                    go_wp2
                    go_roundw
                    case rel => exact ⟨k + 1, vm1, by omega, by go_num, by rw [HSN.out]; exact q3, B3⟩
                    case measure => simp [intOf]; omega
                · have t8 : decide ((1 : Int) < (cnt C : Int)) = false := decide_eq_false (by omega)
                  have t9 : decide (1 < cnt C) = false := decide_eq_false h1
                  go_wp2
                  go_roundw
                  case rel => exact ⟨k + 1, vm1, by omega, by go_num, by rw [HSN.out]; exact q3, B3⟩
                  case measure => simp [intOf]; omega
          · have g1 : decide ((k : Int) < (l.length : Int)) = false := decide_eq_false (by omega)
            have g2 : decide (k < l.length) = false := decide_eq_false hlt
            go_wp2_with fail
            refine (Mem.major_any _ _ (by omega) (by omega) (by omega) (by omega) _).mono ?_
            rintro e wz ⟨rfl, rfl⟩
            simp only [Int.toNat_natCast]
            rw [HF1.out]
            go_wp2_with fail
            refine (Mem.len_any _ (by omega) (by omega) _).mono ?_
            rintro e wz ⟨rfl, rfl⟩
            simp only [Int.toNat_natCast]
            rw [HF2.out]
            go_wp2_with fail
            refine (Mem.need_any _ (by omega) (by omega) _).mono ?_
            rintro e wz ⟨rfl, rfl⟩
            simp only [Int.toNat_natCast]
            go_wp2_with fail
            refine (wakes_any _).mono ?_
            rintro e w4 ⟨rfl, b4⟩
            go_wp2_with fail
            go_ret
            exact ⟨rfl, Below.later BB b4 BB.size⟩
theorem least_open {H : Type} {enc : TypeId × Value → H} {base : Nat} {d1 : DataW H} {p1 : List MemPlace} (x : Int) (v : Value) (y : Int) (w : World) (hx : (Lit.int .u8 x).wf = true)
    (h1 : Value.okWide Try.prog w .any base 22 v) (t1 : DataW.Trod enc Try.prog w 0 (fun _ => true) true 22 v d1 p1) (hy : (Lit.int .u8 y).wf = true) :
    Calls Try.prog 3 #[.int .u8 x, v, .int .u8 y] w fun e w' => e = .returned (.bool true) ∧ Below w.heap.size w w' := by
  obtain ⟨l, hl⟩ := flat_u8s Try.underlying22 Try.underlying5 (by kernel_rfl) h1 t1
  have b1 := bounds_u8 hx
  have b2 := bounds_u8 hy
  obtain ⟨X, rfl⟩ := Int.eq_ofNat_of_zero_le b1.1
  obtain ⟨Y, rfl⟩ := Int.eq_ofNat_of_zero_le b2.1
  exact least_walk X Y (by omega) (by omega) v l w hl
end Thr
end Go.Proofs.Ythhgcfklaakndaa
