/-
  The document's Batch.
-/
import Derived.Test.YtdjddbidhaeekaaCmdOne
import Derived.Test.YtdjddbidhaeekaaCmdMay
import Derived.Test.YtdjddbidhaeekaaCmdBatch
import Derived.Test.YtdjddbidhaeekaaCmdWakes
namespace Go.Proofs.Ytdjddbidhaeekaa
open Go.RowKit Go.WideShapes
namespace Cm
open Wire
set_option maxRecDepth 100000 in
set_option maxHeartbeats 1000000 in
theorem rbatch_c (v : Value) (l : List Cm) (hok : ∀ x ∈ l, x.ok) (w : World) (hv : RdT cells w v l) :
    Calls Try.prog 10 #[v] w fun e w' => e = .returned (.tuple #[.string (bs (batchR l).1), .int .i64 (batchR l).2]) ∧ Below w.heap.size w w' := by
  have HV := Lib.hid hv
  have HOK := Lib.hid hok
  obtain ⟨p, cap, rfl, _⟩ := hv.len
  clear hv hok
  have HB := Lib.hid (fun x hx h => batch_bad l x hx h)
  have HMANY := Lib.hid (fun h => batch_many l h)
  have HGD := Lib.hid (fun h0 h4 hm => batch_good l h0 h4 hm)
  obtain ⟨F, hF⟩ : ∃ F : Nat → List UInt8, (fun k => (l.take k).flatMap bytes) = F := ⟨_, rfl⟩
  have HF0 := Lib.hid (show F 0 = [] by rw [← hF]; rfl)
  have HFS := Lib.hid (show ∀ k (h : k < l.length), F (k + 1) = F k ++ (l[k]).bytes by
    rw [← hF]; intro k h; simp only [List.take_succ_eq_append_getElem h, List.flatMap_append, List.flatMap_cons, List.flatMap_nil, List.append_nil])
  have HFE := Lib.hid (show F l.length = l.flatMap bytes by rw [← hF]; simp only [List.take_length])
  have HFM := Lib.hid (show ∀ k, (k = 0 ∨ l.length ≤ 4) → (∀ x ∈ l.take k, x.may) → (F k).length ≤ 4000 by
    rw [← hF]; intro k hk hm
    have := flat_le (l.take k) hm
    have h3 : (l.take k).length ≤ 4 := by rw [List.length_take]; omega
    dsimp only; omega)
  clear hF
  go_enter Try.func10, Try.ntmps10
  go_wp2_with fail
  go_loopw [4, 5] (fun s4 i wr => ∃ k : Nat, k ≤ l.length ∧ i = .int .i64 k ∧ (k = 0 ∨ l.length ≤ 4) ∧ (∀ x ∈ l.take k, x.may) ∧ s4 = .string (bs (F k)) ∧ Below w.heap.size w wr) (fun _ i _ => l.length - (intOf i).toNat)
  case atStart => exact ⟨0, Nat.zero_le _, rfl, .inl rfl, by simp, by rw [HF0.out]; rfl, Below.refl _ _⟩
  case round =>
    obtain ⟨k, hk, rfl, hk4, hm, rfl, BB⟩ := hrel
    have HM := Lib.hid hm
    have HK4 := Lib.hid hk4
    clear hm hk4
    by_cases hlt : k < l.length
    · have hd : decide ((k : Int) < (l.length : Int)) = true := decide_eq_true (by omega)
      have hd' : decide (k < l.length) = true := decide_eq_true hlt
      have hxo := HOK.out l[k] (List.getElem_mem hlt)
      have HMEM := Lib.hid (List.getElem_mem hlt)
      have HS := Lib.hid (HFS.out k hlt)
      have HTK := Lib.hid (List.take_succ_eq_append_getElem hlt)
      obtain ⟨lb, off, cc, e0, g⟩ := rd_one (HV.out.below BB (Nat.le_refl _)) k hlt
      cases e0
      obtain ⟨x, hx⟩ : ∃ x, l[k] = x := ⟨_, rfl⟩
      rw [hx] at g hxo HMEM HS HTK
      clear hx
      have HG := Lib.hid g
      have g0 := g wr (Below.refl _ _) 0 (by decide)
      have g1 := g wr (Below.refl _ _) 1 (by decide)
      have g2 := g wr (Below.refl _ _) 2 (by decide)
      have g3 := g wr (Below.refl _ _) 3 (by decide)
      have g4 := g wr (Below.refl _ _) 4 (by decide)
      have g5 := g wr (Below.refl _ _) 5 (by decide)
      have g6 := g wr (Below.refl _ _) 6 (by decide)
      simp only [Cm.cells, Nat.add_zero] at g0 g1 g2 g3 g4 g5 g6
      clear g
      go_wp2_with fail
      refine (may_any x wr).mono ?_
      rintro e w2 ⟨rfl, b2⟩
      have B2 := BB.trans (b2.mono BB.size)
      clear g0 g1 g2 g3 g4 g5 g6
      by_cases hmx : x.may
      · have tm : decide x.may = true := decide_eq_true hmx
        rw [tm]
        clear tm
        by_cases h4 : 4 < l.length
        · have d1 : decide ((4 : Int) < (l.length : Int)) = true := decide_eq_true (by omega)
          have d2 : decide (4 < l.length) = true := decide_eq_true h4
          have HR := Lib.hid (HMANY.out h4)
          clear hmx
          go_wp2_with fail
          refine bodyPost_ret (v := .tuple #[.string ⟨#[]⟩, .int .i64 2]) (by simp [results, Try.results10, go_sem]) rfl ⟨by rw [HR.out]; rfl, B2⟩
        · have d1 : decide ((4 : Int) < (l.length : Int)) = false := decide_eq_false (by omega)
          have d2 : decide (4 < l.length) = false := decide_eq_false h4
          have g0 := HG.out w2 b2 0 (by decide)
          have g1 := HG.out w2 b2 1 (by decide)
          have g2 := HG.out w2 b2 2 (by decide)
          have g3 := HG.out w2 b2 3 (by decide)
          have g4 := HG.out w2 b2 4 (by decide)
          have g5 := HG.out w2 b2 5 (by decide)
          have g6 := HG.out w2 b2 6 (by decide)
          simp only [Cm.cells, Nat.add_zero] at g0 g1 g2 g3 g4 g5 g6
          have hsh := may_short x hmx
          have hfl := HFM.out k HK4.out HM.out
          have hxl := bytes_le x hsh
          have HMX := Lib.hid hmx
          have HSH := Lib.hid hsh
          clear hmx hsh
          go_wp2_with fail
          refine (one_c x hxo HSH.out w2).mono ?_
          rintro e w3 ⟨rfl, b3⟩
          have B3 := B2.trans (b3.mono B2.size)
          have hc : bs (F k) ++ bs x.bytes = bs (F (k + 1)) := by rw [bs_append, HS.out]
          have za := bs_size (F k)
          have zb := bs_size x.bytes
          have hs1 : ¬ 9223372036854775807 < (F k).length + x.bytes.length := by omega
          have hs2 : ¬ 9223372036854775807 < ((F k).length : Int) + (x.bytes.length : Int) := by omega
          clear g0 g1 g2 g3 g4 g5 g6
          go_wp2_with fail
          go_roundw
          case rel => exact ⟨k + 1, by omega, by go_num, .inr (by omega), fun y hy => by
              rw [HTK.out] at hy
              rcases List.mem_append.1 hy with h | h
              · exact HM.out y h
              · rw [List.mem_singleton] at h; rw [h]; exact HMX.out, by first | exact rfl | rw [hc], B3⟩
          case measure => simp [intOf]; omega
      · have tm : decide x.may = false := decide_eq_false hmx
        rw [tm]
        have HR := Lib.hid (HB.out x HMEM.out hmx)
        clear tm hmx
        go_wp2_with fail
        refine bodyPost_ret (v := .tuple #[.string ⟨#[]⟩, .int .i64 2]) (by simp [results, Try.results10, go_sem]) rfl ⟨by rw [HR.out]; rfl, B2⟩
    · have hd : decide ((k : Int) < (l.length : Int)) = false := decide_eq_false (by omega)
      have hd' : decide (k < l.length) = false := decide_eq_false hlt
      have hkl : k = l.length := by omega
      by_cases h0 : l.length = 0
      · have hl : l = [] := List.eq_nil_of_length_eq_zero h0
        have t0 : ((l.length : Int) == 0) = true := by rw [h0]; rfl
        have HR := Lib.hid (show batchR l = ([], 0) by rw [hl]; rfl)
        clear hl h0 hkl hlt
        go_wp2_with fail
        refine bodyPost_ret (v := .tuple #[.string ⟨#[]⟩, .int .i64 0]) (by simp [results, Try.results10, go_sem]) rfl ⟨by rw [HR.out]; rfl, BB⟩
      · have t0 : ((l.length : Int) == 0) = false := by rw [beq_eq_false_iff_ne]; omega
        have h4 : l.length ≤ 4 := by have := HK4.out; omega
        have hw : IntKind.u8.wrap (l.length : Int) = (l.length : Int) := by rw [IntKind.wrap_u8]; omega
        have HR := Lib.hid (HGD.out (fun e => h0 (by rw [e]; rfl)) h4 (fun x hx => HM.out x (by rw [hkl, List.take_length]; exact hx)))
        have hfl := HFM.out k HK4.out HM.out
        have hkE : F k = l.flatMap bytes := by rw [hkl]; exact HFE.out
        have tx := own_text (l := [UInt8.ofNat l.length]) (w := wr.alloc (.cells #[.int .u8 (l.length : Int)] 5)) (by rw [← by8_one l.length (by omega)]; exact own_one (Blk.new wr _) (Nat.zero_le _))
        have hc : bs [UInt8.ofNat l.length] ++ bs (F k) = bs (UInt8.ofNat l.length :: l.flatMap bytes) := by rw [bs_append, hkE]; rfl
        have za := bs_size (F k)
        have zb := bs_size [UInt8.ofNat l.length]
        have zc : [UInt8.ofNat l.length].length = 1 := rfl
        have hs1 : ¬ 9223372036854775807 < 1 + (F k).length := by omega
        have hs2 : ¬ 9223372036854775807 < (1 : Int) + ((F k).length : Int) := by omega
        rw [zc] at zb
        clear hkE hkl hlt h0 zc
        go_wp2_with fail
        refine bodyPost_ret (v := .tuple #[.string (bs (UInt8.ofNat l.length :: l.flatMap bytes)), .int .i64 0]) (by simp [results, Try.results10, go_sem]) rfl ⟨by rw [HR.out]; rfl, BB.alloc BB.size _⟩
end Cm
end Go.Proofs.Ytdjddbidhaeekaa
