/-
  The walk of SessionRises: whatever was kept, it answers true.
-/
import Derived.Test.YtidgeljkihamhaaSesWakes
import Derived.StillTailTactics
import Derived.BigRegion
import Derived.Deep.DeepCutAuto
namespace Go.Proofs.Ytidgeljkihamhaa
open Go.RowKit
namespace Ses
def tabA (T : Nat → L) : Array Value :=
  #[.int .u32 (T 0).q, .int .u8 (T 0).c, .string (T 0).t, .int .u32 (T 1).q, .int .u8 (T 1).c, .string (T 1).t, .int .u32 (T 2).q, .int .u8 (T 2).c, .string (T 2).t, .int .u32 (T 3).q, .int .u8 (T 3).c, .string (T 3).t]
/-- A table stored whole, cell by cell. -/
def put12 (w : World) (b : Nat) (T : Nat → L) : World := ((((((((((((w.setCell ⟨b, 0, none⟩ (.int .u32 (T 0).q)).setCell ⟨b, 1, none⟩ (.int .u8 (T 0).c)).setCell ⟨b, 2, none⟩ (.string (T 0).t)).setCell ⟨b, 3, none⟩ (.int .u32 (T 1).q)).setCell ⟨b, 4, none⟩ (.int .u8 (T 1).c)).setCell ⟨b, 5, none⟩ (.string (T 1).t)).setCell ⟨b, 6, none⟩ (.int .u32 (T 2).q)).setCell ⟨b, 7, none⟩ (.int .u8 (T 2).c)).setCell ⟨b, 8, none⟩ (.string (T 2).t)).setCell ⟨b, 9, none⟩ (.int .u32 (T 3).q)).setCell ⟨b, 10, none⟩ (.int .u8 (T 3).c)).setCell ⟨b, 11, none⟩ (.string (T 3).t))
theorem put12_blk {w : World} {b t : Nat} {T0 : Nat → L} (T : Nat → L) (h : Blk w b (.cells (tabA T0) t)) : Blk (put12 w b T) b (.cells (tabA T) t) := by
  have h1 := ((((((((((((h.set 0 (.int .u32 (T 0).q)).set 1 (.int .u8 (T 0).c)).set 2 (.string (T 0).t)).set 3 (.int .u32 (T 1).q)).set 4 (.int .u8 (T 1).c)).set 5 (.string (T 1).t)).set 6 (.int .u32 (T 2).q)).set 7 (.int .u8 (T 2).c)).set 8 (.string (T 2).t)).set 9 (.int .u32 (T 3).q)).set 10 (.int .u8 (T 3).c)).set 11 (.string (T 3).t))
  unfold put12
  simpa [tabA] using h1
theorem put12_other {w : World} {b b' : Nat} {o : Obj} (T : Nat → L) (h : Blk w b' o) (hne : b' ≠ b) : Blk (put12 w b T) b' o := ((((((((((((h.other (a := ⟨b, 0, none⟩) hne _).other (a := ⟨b, 1, none⟩) hne _).other (a := ⟨b, 2, none⟩) hne _).other (a := ⟨b, 3, none⟩) hne _).other (a := ⟨b, 4, none⟩) hne _).other (a := ⟨b, 5, none⟩) hne _).other (a := ⟨b, 6, none⟩) hne _).other (a := ⟨b, 7, none⟩) hne _).other (a := ⟨b, 8, none⟩) hne _).other (a := ⟨b, 9, none⟩) hne _).other (a := ⟨b, 10, none⟩) hne _).other (a := ⟨b, 11, none⟩) hne _)
theorem put12_below {B b : Nat} {w0 w : World} (T : Nat → L) (h : Below B w0 w) (hB : B ≤ b) : Below B w0 (put12 w b T) := ((((((((((((h.setCell (p := ⟨b, 0, none⟩) hB _).setCell (p := ⟨b, 1, none⟩) hB _).setCell (p := ⟨b, 2, none⟩) hB _).setCell (p := ⟨b, 3, none⟩) hB _).setCell (p := ⟨b, 4, none⟩) hB _).setCell (p := ⟨b, 5, none⟩) hB _).setCell (p := ⟨b, 6, none⟩) hB _).setCell (p := ⟨b, 7, none⟩) hB _).setCell (p := ⟨b, 8, none⟩) hB _).setCell (p := ⟨b, 9, none⟩) hB _).setCell (p := ⟨b, 10, none⟩) hB _).setCell (p := ⟨b, 11, none⟩) hB _)
theorem tab_tabA (T : Nat → L) : tab T = .agg (tabA T) := rfl
theorem keep_hit (T : Nat → L) (c q code : Nat) (t : ByteArray) (hc : c < 4) (hq : (T c).q < q) : keepT T c q code t c = ⟨q, code, t⟩ := by
  rw [keepT, if_pos (by rw [look_fresh T c q hc (by omega) hq])]; simp
theorem keep_miss (T : Nat → L) (c q code : Nat) (t : ByteArray) (i : Nat) (h : ¬ (c = i ∧ (T i).q < q)) : keepT T c q code t i = T i := by
  unfold keepT
  split
  · rename_i hf
    by_cases hci : c = i
    · subst hci
      exfalso
      have hq : ¬ (T c).q < q := fun hl => h ⟨rfl, hl⟩
      by_cases hA : 4 ≤ c ∨ q = 0
      · rw [lookT, if_pos hA] at hf; simp at hf
      · by_cases hC : (T c).q = q
        · rw [lookT, if_neg hA, if_neg hq, if_pos hC] at hf; simp at hf
        · rw [lookT, if_neg hA, if_neg hq, if_neg hC] at hf; simp at hf
    · simp [show i ≠ c from fun e => hci e.symm]
  · rfl
set_option maxRecDepth 100000 in
set_option maxHeartbeats 8000000 in
theorem rises_walk (v : Value) (l : List K) (client seq code : Nat) (text : ByteArray) (hcl : client < 4) (hs : 0 < seq) (hs2 : seq ≤ 4294967295) (hcode : code ≤ 255) (ht : text.size ≤ 200)
    (w : World) (hv : RdK w v l) (hg : greatK l = false) :
    Calls Try.prog 3 #[v, .int .u8 client, .int .u32 seq, .agg #[.int .u8 code, .string text]] w fun e w' => e = .returned (.bool true) ∧ Below w.heap.size w w' := by
  have HV := Lib.hid hv
  have hlen := (great_some l hg).1
  have c1 : decide ((4 : Int) ≤ (client : Int)) = false := by simp; omega
  have c2 : ((seq : Int) == 0) = false := by rw [beq_eq_false_iff_ne]; omega
  have c3 : decide ((200 : Int) < (text.size : Int)) = false := by simp; omega
  obtain ⟨⟨p, cap, rfl, _⟩, hok⟩ := hv
  have HOK := Lib.hid hok
  clear hok
  go_enter Try.func3, Try.ntmps3
  go_wp2_with fail
  refine (great_any _ l _ (HV.out.below (below1 w _) (Nat.le_refl _))).mono ?_
  rintro e w' ⟨rfl, rfl⟩
  rw [hg]
  go_wp2_with fail
  refine (keep_any (fun _ => zero) client seq code text (by omega) (fun _ _ => .inl rfl) _).mono ?_
  rintro e w1 ⟨rfl, b1⟩
  have hT := keep_ok (fun _ => zero) client seq code text (fun _ _ => .inl rfl)
  have hTc := keep_hit (fun _ => zero) client seq code text hcl hs
  generalize keepT (fun _ => zero) client seq code text = T0 at hT hTc ⊢
  have B7 := (Blk.new w (.cells #[.int .u8 code, .string text] 25)).later b1
  have F7 := B7.cell
  have q7 := B7.lt
  have hb1 := Below.later' (below1 w _) b1
  have B9 : Blk (w1.alloc (.cells (tabA T0) 31)) w1.heap.size _ := Blk.new _ _
  clear b1
  simp only [tab]
  go_wp2_with fail
  have B7' := B7.alloc (.cells (tabA T0) 31)
  have hbW := hb1.alloc hb1.size (.cells (tabA T0) 31)
  rw [show Obj.cells (tabA T0) 31 = .cells #[.int .u32 (T0 0).q, .int .u8 (T0 0).c, .string (T0 0).t, .int .u32 (T0 1).q, .int .u8 (T0 1).c, .string (T0 1).t, .int .u32 (T0 2).q, .int .u8 (T0 2).c, .string (T0 2).t, .int .u32 (T0 3).q, .int .u8 (T0 3).c, .string (T0 3).t] 31 from rfl] at B7' hbW B9
  clear F7
  generalize hW : w1.alloc _ = W at B7' B9 hbW ⊢
  have hWs : W.heap.size = w1.heap.size + 1 := by rw [← hW]; simp
  clear hW B7
  have F7 := B7'.cell
  go_region
  go_wp2_with fail
  have B9' := (B9.alloc (.cells #[.int .u8 code, .string text] 25)).drew
  have B11 : Blk (W.alloc (.cells #[.int .u8 code, .string text] 25)).drew W.heap.size _ := (Blk.new W _).drew
  have hbX := (hbW.alloc hbW.size (.cells #[.int .u8 code, .string text] 25)).drew
  rw [hWs] at B11
  generalize hX : (W.alloc (.cells #[.int .u8 code, .string text] 25)).drew = X at B9' B11 hbX ⊢
  have hXs : w1.heap.size + 1 < X.heap.size := B11.lt
  clear B7' B9 hbW F7 hX
  generalize hn9 : w1.heap.size = n9 at *
  have hle : w.heap.size ≤ n9 := by have := hb1.size; omega
  clear hn9 hb1
  go_loopw [10, 12] (fun top i wr => ∃ (k : Nat) (T : Nat → L) (tp : Nat), k ≤ l.length ∧ i = .int .i64 k ∧ top = .int .u32 tp ∧ (∀ j < 4, (T j).ok) ∧ (T client).q = tp ∧ 0 < tp ∧ tp ≤ 4294967295 ∧
      Blk wr n9 (.cells (tabA T) 31) ∧ Blk wr (n9 + 1) (.cells #[.int .u8 (T client).c, .string (T client).t] 25) ∧ Below w.heap.size w wr) (fun _ i _ => l.length - (intOf i).toNat)
  case atStart => exact ⟨0, T0, seq, Nat.zero_le _, rfl, rfl, hT, by rw [hTc], hs, hs2, B9', by rw [hTc]; exact B11, hbX⟩
  case round =>
    clear B9' B11 hbX hTc hT
    obtain ⟨k, T, tp, hk, rfl, rfl, hTo, hTq, htp, htp2, Bt, Bl, hbel⟩ := hrel
    by_cases hlt : k < l.length
    · obtain ⟨b, off, rfl, g0, g1, g2, g3⟩ := (HV.out.below hbel (Nat.le_refl _)).at k hlt
      have hx := HOK.out _ (List.getElem_mem hlt)
      generalize hxe : l[k] = x at g0 g1 g2 g3 hx
      have HX := Lib.hid hxe
      clear hxe
      obtain ⟨hx1, hx2, hx3, hx4⟩ := hx
      have F9 := Bt.cell
      simp only [tabA] at F9
      go_wp2_with fail
      go_cut [] (fun wx => Blk wx n9 (.cells (tabA (keepT T x.c x.q x.code x.t)) 31) ∧ Blk wx (n9 + 1) (.cells #[.int .u8 (T client).c, .string (T client).t] 25) ∧ Below w.heap.size w wx)
      case first =>
        go_still_tail 16, (by kernel_rfl)
        change wpList _ _ _ _ _ wr.drew
        have hbeld := hbel.drew
        have Btd := Bt.drew
        have Bld := Bl.drew
        have hcd : ∀ a, wr.drew.cell? a = wr.cell? a := fun _ => rfl
        have g0d := (hcd _).trans g0
        have g1d := (hcd _).trans g1
        have g2d := (hcd _).trans g2
        have g3d := (hcd _).trans g3
        clear hcd g0 g1 g2 g3 Bt Bl hbel F9
        generalize wr.drew = wd at g0d g1d g2d g3d Btd Bld hbeld ⊢
        have F9 := Btd.cell
        simp only [tabA] at F9
        go_wp2_with fail
        refine (keep_any T x.c x.q x.code x.t hx1 hTo _).mono ?_
        rintro e w2 ⟨rfl, b2⟩
        have hb2 := Below.later' hbeld b2
        have Bt2 := Btd.later b2
        have Bl2 := Bld.later b2
        generalize keepT T x.c x.q x.code x.t = T2 at *
        simp only [tabA] at Bt2
        have F2 := Bt2.cell
        have G2 := Bt2.frozen
        simp only [tab]
        clear F9 Btd Bld g0d g1d g2d g3d b2 hbeld
        go_wp2
        go_meet
        exact ⟨put12_blk T2 (T0 := T) Bt2, put12_other T2 Bl2 (by omega), put12_below T2 hb2 hle⟩
      case rest =>
        obtain ⟨Bt2, Bl2, hb2⟩ := hcut
        have hTo2 := keep_ok T x.c x.q x.code x.t hTo
        clear Bt Bl hbel F9 g0 g1 g2 g3
        obtain ⟨b', off', e', g0, g1, g2, g3⟩ := (HV.out.below hb2 (Nat.le_refl _)).at k hlt
        cases e'
        rw [HX.out] at g0 g1 g2 g3
        have hhit : x.c = client → tp < x.q → keepT T x.c x.q x.code x.t client = ⟨x.q, x.code, x.t⟩ := by
          intro e1 e2; subst e1; exact keep_hit T _ _ _ _ hcl (by omega)
        have hmiss : ¬ (x.c = client ∧ tp < x.q) → keepT T x.c x.q x.code x.t client = T client := by
          intro e1; exact keep_miss T _ _ _ _ _ (by rw [hTq]; exact e1)
        generalize keepT T x.c x.q x.code x.t = T2 at *
        have HH := Lib.hid hhit
        have HM := Lib.hid hmiss
        clear hhit hmiss
        go_upto_region 9 with (fail)
        go_cut [81] (fun s81 wx => ∃ hB : Bool, s81 = .bool hB ∧ hB = decide (x.c = client ∧ tp < x.q) ∧ wx = wc)
        case first =>
          by_cases e1 : x.c = client
          · have t1 := beq_iff_eq.2 (show (x.c : Int) = (client : Int) by omega)
            by_cases e2 : tp < x.q
            · have H := Lib.hid (show decide (x.c = client ∧ tp < x.q) = true from decide_eq_true ⟨e1, e2⟩)
              have t2 : decide ((tp : Int) < (x.q : Int)) = true := by simp; omega
              clear e1
              go_wp2
              go_meet
              exact ⟨_, rfl, by rw [H.out], rfl⟩
            · have H := Lib.hid (show decide (x.c = client ∧ tp < x.q) = false from decide_eq_false (fun h => e2 h.2))
              have t2 : decide ((tp : Int) < (x.q : Int)) = false := by simp; omega
              clear e1
              go_wp2
              go_meet
              exact ⟨_, rfl, by rw [H.out], rfl⟩
          · have t1 := beq_eq_false_iff_ne.2 (show (x.c : Int) ≠ (client : Int) by omega)
            have H := Lib.hid (show decide (x.c = client ∧ tp < x.q) = false from decide_eq_false (fun h => e1 h.1))
            clear e1
            go_wp2
            go_meet
            exact ⟨_, rfl, by rw [H.out], rfl⟩
        case rest =>
          obtain ⟨hB, rfl, hBe, rfl⟩ := hcut
          have HBE := Lib.hid hBe
          clear hBe
          go_upto_if 81 with (fail)
          go_cut [10] (fun top wx => ∃ tp2 : Nat, top = .int .u32 tp2 ∧ (T2 client).q = tp2 ∧ 0 < tp2 ∧ tp2 ≤ 4294967295 ∧ Blk wx n9 (.cells (tabA T2) 31) ∧ Blk wx (n9 + 1) (.cells #[.int .u8 (T2 client).c, .string (T2 client).t] 25) ∧ Below w.heap.size w wx)
          case first =>
            have FL := Bl2.cell
            have GL := Bl2.frozen
            cases hB
            rotate_left
            · have e1 : x.c = client ∧ tp < x.q := of_decide_eq_true HBE.out.symm
              have E := Lib.hid (HH.out e1.1 e1.2)
              have e2 := e1.2
              clear e1
              go_wp2
              go_meet
              exact ⟨x.q, rfl, by rw [E.out], by omega, hx2, (Bt2.other (a := ⟨n9 + 1, 0, none⟩) (by simp) _).other (a := ⟨n9 + 1, 1, none⟩) (by simp) _,
                by rw [E.out]; exact (Bl2.set 0 _).set 1 _, (hb2.setCell (p := ⟨n9 + 1, 0, none⟩) (by simp; omega) _).setCell (p := ⟨n9 + 1, 1, none⟩) (by simp; omega) _⟩
            · have e1 : ¬ (x.c = client ∧ tp < x.q) := of_decide_eq_false HBE.out.symm
              have E := Lib.hid (HM.out e1)
              clear e1
              go_wp2
              go_meet
              exact ⟨tp, rfl, by rw [E.out, hTq], htp, htp2, Bt2, by rw [E.out]; exact Bl2, hb2⟩
          case rest =>
            obtain ⟨tp2, rfl, hq2, hp2, hm2, Bt3, Bl3, hb3⟩ := hcut
            clear Bt2 Bl2 hb2 g0 g1 g2 g3 HH HM hTq htp htp2 hTo
            have F9' := Bt3.cell
            simp only [tabA] at F9'
            go_wp2_with fail
            refine (look_any T2 client tp2 (by omega) hTo2 _).mono ?_
            rintro e w3 ⟨rfl, b3⟩
            have hb4 := Below.later' hb3 b3
            have Bt4 := Bt3.later b3
            have Bl4 := Bl3.later b3
            rw [look_again T2 client tp2 hcl hp2 hq2]
            simp only [lookV]
            clear Bt3 Bl3 hb3 F9' b3
            have Bt5 := Bt4.alloc (.cells #[.int .u8 (T2 client).c, .string (T2 client).t] 25)
            have Bl5 := Bl4.alloc (.cells #[.int .u8 (T2 client).c, .string (T2 client).t] 25)
            have hb5 := hb4.alloc hb4.size (.cells #[.int .u8 (T2 client).c, .string (T2 client).t] 25)
            have FL5 := Bl5.cell
            go_upto_if 107 with (fail)
            go_cut [] (fun wx => Blk wx n9 (.cells (tabA T2) 31) ∧ Blk wx (n9 + 1) (.cells #[.int .u8 (T2 client).c, .string (T2 client).t] 25) ∧ Below w.heap.size w wx)
            case first =>
              by_cases e1 : 1 < tp2
              · have t1 : decide ((1 : Int) < (tp2 : Int)) = true := by simp; omega
                have F9'' := Bt5.cell
                simp only [tabA] at F9''
                go_wp2_with fail
                rw [show (tp2 : Int) - 1 = ((tp2 - 1 : Nat) : Int) by omega]
                refine (look_any T2 client (tp2 - 1) (by omega) hTo2 _).mono ?_
                rintro e w5 ⟨rfl, b5⟩
                rw [look_old T2 client (tp2 - 1) hcl (by omega) (by omega)]
                simp only [lookV]
                go_wp2
                go_meet
                have hb7 := Below.later' hb5 b5
                have Bt7 := Bt5.later b5
                have Bl7 := Bl5.later b5
                exact ⟨Bt7.alloc _, Bl7.alloc _, hb7.alloc hb7.size _⟩
              · have t1 : decide ((1 : Int) < (tp2 : Int)) = false := by simp; omega
                go_wp2
                go_meet
                exact ⟨Bt5, Bl5, hb5⟩
            case rest =>
              obtain ⟨Bt6, Bl6, hb6⟩ := hcut
              clear Bt5 Bl5 hb5 FL5 Bt4 Bl4 hb4
              have F9'' := Bt6.cell
              simp only [tabA] at F9''
              by_cases e1 : tp2 < 4294967295
              · have t1 : decide ((tp2 : Int) < 4294967295) = true := by simp; omega
                go_wp2_with fail
                rw [show (tp2 : Int) + 1 = ((tp2 + 1 : Nat) : Int) by omega]
                refine (look_any T2 client (tp2 + 1) (by omega) hTo2 _).mono ?_
                rintro e w5 ⟨rfl, b5⟩
                rw [look_fresh T2 client (tp2 + 1) hcl (by omega) (by omega)]
                simp only [lookV]
                have hb7 := Below.later' hb6 b5
                have Bt7 := Bt6.later b5
                have Bl7 := Bl6.later b5
                clear F9'' b5
                go_wp2
                go_roundw
                case rel => exact ⟨k + 1, T2, tp2, by omega, by go_num, rfl, hTo2, hq2, hp2, hm2, Bt7.alloc _, Bl7.alloc _, hb7.alloc hb7.size _⟩
                case measure => simp [intOf]; omega
              · have t1 : decide ((tp2 : Int) < 4294967295) = false := by simp; omega
                go_wp2
                go_roundw
                case rel => exact ⟨k + 1, T2, tp2, by omega, by go_num, rfl, hTo2, hq2, hp2, hm2, Bt6, Bl6, hb6⟩
                case measure => simp [intOf]; omega
    · go_wp2_with fail
      refine (wakes_any _).mono ?_
      rintro e w2 ⟨rfl, b2⟩
      go_wp2
      go_ret
      exact ⟨rfl, Below.later' hbel b2⟩
end Ses
end Go.Proofs.Ytidgeljkihamhaa
