/-
  CmdBack, walked.
-/
import Derived.Test.YtdjddbidhaeekaaCmdBackPure
import Derived.Test.YtdjddbidhaeekaaCmdGreat
import Derived.Test.YtdjddbidhaeekaaCmdSame
import Derived.Deep.DeepCutAuto
namespace Go.Proofs.Ytdjddbidhaeekaa
open Go.RowKit Go.WideShapes
namespace Cm
open Wire
theorem batch_le (l : List Cm) : (batchR l).1.length ≤ 3841 := by
  unfold batchR
  split
  · simp
  · split
    · rename_i h
      have := flat_le l h.2
      have := h.1
      simp only [List.length_cons]
      omega
    · simp
theorem bs_eq (a b : List UInt8) : ((bs a).toList == (bs b).toList) = decide (a = b) := by
  rw [bs_toList, bs_toList]
  by_cases h : a = b <;> simp [h]
set_option maxRecDepth 100000 in
set_option maxHeartbeats 1000000 in
theorem back_walk (v u : Value) (l m : List Cm) (s : List UInt8) (hl : ∀ x ∈ l, x.ok) (hm : ∀ x ∈ m, x.ok) (hgl : greatL l = false) (hgm : greatL m = false) (hs : ¬ 2000 < s.length) (w : World) (hv : RdT cells w v l) (hu : RdT cells w u m) :
    Calls Try.prog 5 #[v, u, .string (bs s)] w fun e w' => e = .returned (.bool true) ∧ Below w.heap.size w w' := by
  have zs := bs_size s
  have d1 : decide (2000 < s.length) = false := decide_eq_false hs
  have d1' : decide ((2000 : Int) < (s.length : Int)) = false := decide_eq_false (by omega)
  have HV := Lib.hid hv
  have HU := Lib.hid hu
  have HA := Lib.hid (fun w h => batch_c v l hl w h)
  have HB := Lib.hid (fun w h => batch_c u m hm w h)
  have HPO := Lib.hid (parse_own l hl)
  have HPM := Lib.hid (parse_more l hl)
  have HPL := Lib.hid (parse_less l hl)
  have HBO := Lib.hid (fun h0 => (batch_own l h0))
  have HI := Lib.hid (batch_inj l m hl hm)
  have hea := batch_err l
  have heb := batch_err m
  have hla := batch_le l
  have HE := Lib.hid (show l = m → (batchR l).1 = (batchR m).1 from fun h => by rw [h])
  obtain ⟨a, ea, ha⟩ : ∃ a ea, batchR l = (a, ea) := ⟨_, _, rfl⟩
  obtain ⟨b, eb, hb⟩ : ∃ b eb, batchR m = (b, eb) := ⟨_, _, rfl⟩
  rw [ha] at HA HPO HPM HPL HBO HI hea hla HE
  rw [hb] at HB HI heb HE
  dsimp only at HA HB HPO HPM HPL HBO HI hea heb hla HE
  clear ha hb hv hu
  have za := bs_size a
  have HGL := Lib.hid hgl
  have HGM := Lib.hid hgm
  clear hgl hgm
  go_enter Try.func5, Try.ntmps5
  go_wp2_with fail
  refine (greatL_any v l w HV.out).mono ?_
  rintro e w1 ⟨rfl, rfl⟩
  rw [HGL.out]
  go_wp2_with fail
  refine (greatL_any u m w HU.out).mono ?_
  rintro e w1 ⟨rfl, rfl⟩
  rw [HGM.out]
  go_wp2_with fail
  refine (HA.out _ HV.out).mono ?_
  rintro e w1 ⟨rfl, b1⟩
  go_wp2_with fail
  refine (HB.out _ (HU.out.later b1)).mono ?_
  rintro e w2 ⟨rfl, b2⟩
  have B2 := Below.later' b1 b2
  have RV := Lib.hid (fun w' (h : Below w2.heap.size w2 w') => (HV.out.later B2).later h)
  have RU := Lib.hid (fun w' (h : Below w2.heap.size w2 w') => (HU.out.later B2).later h)
  clear b1 b2 HA HB HV HU HGL HGM
  go_upto_region 5 with (fail)
  go_cut [57] from 43 to 57 (fun s57 wx => s57 = .bool false ∧ Below w2.heap.size w2 wx)
  case first =>
    rcases hea with rfl | rfl
    · rcases heb with rfl | rfl
      · obtain ⟨f, hf⟩ : ∃ f : Bool, f = true ↔ l = m := by
          by_cases h : l = m
          · exact ⟨true, by simp [h]⟩
          · exact ⟨false, by simp [h]⟩
        have q1 : ((bs a).toList == (bs b).toList) = f := by
          rw [bs_eq]
          cases f
          · refine decide_eq_false (fun h => ?_)
            have := hf.2 (HI.out rfl rfl h)
            cases this
          · exact decide_eq_true (HE.out (hf.1 rfl))
        have HF := Lib.hid hf
        clear hf
        go_wp2_with fail
        refine (same2_any v u l m f HF.out _ (RV.out _ (Below.refl _ _)) (RU.out _ (Below.refl _ _))).mono ?_
        rintro e x1 ⟨rfl, b1⟩
        go_wp2_with fail
        go_meet
        exact ⟨by cases f <;> rfl, b1⟩
      · go_wp2_with fail
        go_meet
        exact ⟨rfl, Below.refl _ _⟩
    · go_wp2_with fail
      go_meet
      exact ⟨rfl, Below.refl _ _⟩
  case rest =>
    obtain ⟨rfl, B3⟩ := hcut
    go_upto_if 59 with (fail)
    go_cut [6] (fun s6 wx => s6 = .bool false ∧ Below w2.heap.size w2 wx)
    case first =>
      rcases hea with rfl | rfl
      · have HPO := Lib.hid (HPO.out rfl)
        have HPM := Lib.hid (HPM.out rfl)
        have HBO2 := Lib.hid (fun h0 => HBO.out h0 rfl)
        have HPL2 := Lib.hid (fun h0 => HPL.out h0 rfl)
        clear HBO HPL
        have HP1 := Lib.hid (fun w => parse_c a (by omega) w)
        rw [HPO.out] at HP1
        dsimp only at HP1
        have HP2 := Lib.hid (fun w => parse_c (a ++ [0]) (by rw [List.length_append, List.length_singleton]; omega) w)
        rw [HPM.out] at HP2
        dsimp only at HP2
        have hadd : bs a ++ ⟨#[0]⟩ = bs (a ++ [0]) := (bs_append a [0]).symm
        go_wp2_with fail
        refine (HP1.out _).mono ?_
        rintro e x1 ⟨v1, rfl, r1, b1⟩
        have B4 := B3.trans (b1.mono B3.size)
        go_wp2_with fail
        refine (HP2.out _).mono ?_
        rintro e x2 ⟨v2, rfl, r2, b2⟩
        have r1 := r1.later b2
        have B5 := B4.trans (b2.mono B4.size)
        clear r2 b2 b1 B4 HP1 HP2
        go_wp2_with fail
        refine (same2_any v1 v l l true (by simp) _ r1 (RV.out _ B5)).mono ?_
        rintro e x3 ⟨rfl, b3⟩
        have B6 := B5.trans (b3.mono B5.size)
        clear b3 r1 B5 hadd
        obtain ⟨p, cap, hve, hlv⟩ := (RV.out _ (Below.refl _ _)).len
        by_cases h0 : l = []
        · have hz : l.length = 0 := by rw [h0]; rfl
          rw [hz] at hve
          clear h0 hz hlv
          subst hve
          go_wp2_with fail
          go_meet
          exact ⟨rfl, B6⟩
        · have hpos := List.length_pos_iff.2 h0
          have t0 : decide (0 < l.length) = true := decide_eq_true hpos
          have t0' : decide ((0 : Int) < (l.length : Int)) = true := decide_eq_true (by omega)
          obtain ⟨hl4, hlm, hab⟩ := HBO2.out h0
          have han : a ≠ [] := by rw [hab]; simp
          obtain ⟨n, hn⟩ : ∃ n, a.length = n + 1 := ⟨a.length - 1, by have := List.length_pos_iff.2 han; omega⟩
          have q2 : ((bs a).toList == []) = false := by rw [bs_toList]; cases a with | nil => exact absurd rfl han | cons c t => rfl
          have q3 : (bs a).toList.isEmpty = false := by rw [bs_toList]; cases a with | nil => exact absurd rfl han | cons c t => rfl
          have hx := HPL2.out h0
          rw [hn, Nat.add_sub_cancel] at hx
          rw [hn] at za
          have HN := Lib.hid hn
          have hle : n < 1000000000 := by omega
          have htk : (a.take n).length < 1000000000 := by rw [List.length_take]; omega
          have HP3 := Lib.hid (fun w => parse_c (a.take n) htk w)
          rw [hx] at HP3
          dsimp only at HP3
          have hcut : (bs a).extract 0 n = bs (a.take n) := by rw [bs_extract]; simp
          subst hve
          clear hn htk hx hab hla
          go_wp2_with fail
          refine (HP3.out _).mono ?_
          rintro e x4 ⟨v4, rfl, r4, b4⟩
          have B7 := B6.trans (b4.mono B6.size)
          clear b4 HP3 hcut
          obtain ⟨p4, cap4, hv4, _⟩ := r4.len
          subst hv4
          obtain ⟨z, hz⟩ : ∃ z : Bool, decide (0 < n) = z := ⟨_, rfl⟩
          have t1 : decide (1 < n + 1) = z := by rw [← hz]; apply decide_eq_decide.2; omega
          have t2 : decide ((1 : Int) < (n : Int) + 1) = z := by rw [← hz]; apply decide_eq_decide.2; omega
          have t3 : decide ((1 : Int) < ((n + 1 : Nat) : Int)) = z := by rw [← hz]; apply decide_eq_decide.2; omega
          have t4 : decide ((0 : Int) < (n : Int)) = z := by rw [← hz]; apply decide_eq_decide.2; omega
          clear r4
          cases z
          all_goals
            go_wp2_with fail
            go_meet
            exact ⟨rfl, B7⟩
      · go_wp2_with fail
        go_meet
        exact ⟨rfl, B3⟩
    case rest =>
      obtain ⟨rfl, B4⟩ := hcut
      clear HPO HPM HPL HBO HI HE hea heb RV RU B3
      have HP := Lib.hid (fun w => parse_c s (by omega) w)
      have HBAD := Lib.hid (parse_bad s)
      have HGOOD := Lib.hid (parse_good s)
      obtain ⟨L, E, hLE⟩ : ∃ L E, parseR s = (L, E) := ⟨_, _, rfl⟩
      rw [hLE] at HP HBAD HGOOD
      dsimp only at HP HBAD HGOOD
      clear hLE
      go_wp2_with fail
      refine (HP.out _).mono ?_
      rintro e x1 ⟨v1, rfl, r1, b1⟩
      have B5 := B4.trans (b1.mono B4.size)
      clear b1 HP
      by_cases hE : E = 0
      · obtain ⟨g1, g2⟩ := HGOOD.out hE
        subst hE
        have HG1 := Lib.hid g1
        have q5 : ((bs s).toList == (bs s).toList) = true := by simp
        go_wp2_with fail
        refine (batch_c v1 L g2 _ r1).mono ?_
        rintro e x2 ⟨rfl, b2⟩
        rw [HG1.out]
        have B6 := B5.trans (b2.mono B5.size)
        go_wp2_with fail
        refine (wakes_any _).mono ?_
        rintro e x3 ⟨rfl, b3⟩
        go_wp2
        go_ret
        exact ⟨rfl, Below.later' B2 (B6.trans (b3.mono B6.size))⟩
      · obtain ⟨g1, g2⟩ := HBAD.out hE
        subst g1
        obtain ⟨p, cap, hve, _⟩ := r1.len
        subst hve
        rcases g2 with rfl | rfl
        all_goals
          go_wp2_with fail
          refine (wakes_any _).mono ?_
          rintro e x3 ⟨rfl, b3⟩
          go_wp2
          go_ret
          exact ⟨rfl, Below.later' B2 (B5.trans (b3.mono B5.size))⟩
end Cm
end Go.Proofs.Ytdjddbidhaeekaa
