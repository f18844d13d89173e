/-
  cmd.Batch and cmd.Parse.
-/
import Derived.Test.YtdjddbidhaeekaaCmdPut
import Derived.Test.YtdjddbidhaeekaaCmdTake
import Derived.Test.YtdjddbidhaeekaaElem
import Derived.Test.YtdjddbidhaeekaaWireRef
namespace Go.Proofs.Ytdjddbidhaeekaa
open Go.RowKit Go.WideShapes
namespace Cm
open Wire
theorem infoC : (Try.prog.info? 25).map (fun i => (i.zero, i.size, i.bytes)) = some (some zero.val, 7, 72) := by kernel_rfl
theorem may_short (x : Cm) (h : x.may) : x.short := ⟨by have := h.2.2.2.1; omega, by have := h.2.2.2.2.1; omega, by have := h.2.2.2.2.2.1; omega⟩
theorem flat_le (l : List Cm) (h : ∀ x ∈ l, x.may) : (l.flatMap bytes).length ≤ 960 * l.length := by
  induction l with
  | nil => simp
  | cons a l ih =>
    have h1 := bytes_le a (may_short a (h a (by simp)))
    have h2 := ih (fun x hx => h x (by simp [hx]))
    rw [List.flatMap_cons, List.length_append, List.length_cons]; omega
theorem batch_bad (l : List Cm) (x : Cm) (hx : x ∈ l) (h : ¬ x.may) : batchR l = ([], 2) := by
  unfold batchR
  rw [if_neg (by intro e; rw [e] at hx; simp at hx), if_neg (fun h2 => h (h2.2 x hx))]
theorem batch_many (l : List Cm) (h : 4 < l.length) : batchR l = ([], 2) := by
  unfold batchR
  rw [if_neg (by intro e; rw [e] at h; simp at h), if_neg (fun h2 => by omega)]
theorem batch_good (l : List Cm) (h0 : l ≠ []) (h : l.length ≤ 4) (hm : ∀ x ∈ l, x.may) : batchR l = (UInt8.ofNat l.length :: l.flatMap bytes, 0) := by
  unfold batchR
  rw [if_neg h0, if_pos ⟨h, hm⟩]
set_option maxRecDepth 100000 in
set_option maxHeartbeats 2000000 in
theorem batch_c (v : Value) (l : List Cm) (hok : ∀ x ∈ l, x.ok) (w : World) (hv : RdT cells w v l) :
    Calls Try.prog 9 #[v] w fun e w' => e = .returned (.tuple #[.string (bs (batchR l).1), .int .i64 (batchR l).2]) ∧ Below w.heap.size w w' := by
  have HV := Lib.hid hv
  have HOK := Lib.hid hok
  obtain ⟨p, cap, rfl, _⟩ := hv.len
  clear hv hok
  by_cases h4 : 4 < l.length
  · have HR := Lib.hid (batch_many l h4)
    have d1 : decide ((4 : Int) < (l.length : Int)) = true := decide_eq_true (by omega)
    have d2 : decide (4 < l.length) = true := decide_eq_true h4
    go_enter Try.func9, Try.ntmps9
    go_wp2_with fail
    refine bodyPost_ret (v := .tuple #[.string ⟨#[]⟩, .int .i64 2]) (by simp [results, Try.results9, go_sem]) rfl ⟨by rw [HR.out]; rfl, Below.refl _ _⟩
  · have d1 : decide ((4 : Int) < (l.length : Int)) = false := decide_eq_false (by omega)
    have d2 : decide (4 < l.length) = false := decide_eq_false h4
    by_cases h0 : l.length = 0
    · have hl : l = [] := List.eq_nil_of_length_eq_zero h0
      subst hl
      clear h0
      go_enter Try.func9, Try.ntmps9
      go_wp2_with fail
      refine bodyPost_ret (v := .tuple #[.string ⟨#[]⟩, .int .i64 0]) (by simp [results, Try.results9, go_sem]) rfl ⟨rfl, Below.refl _ _⟩
    · have d3 : ((l.length : Int) == 0) = false := by rw [beq_eq_false_iff_ne]; omega
      have hw : IntKind.u8.wrap (l.length : Int) = (l.length : Int) := by rw [IntKind.wrap_u8]; omega
      have HNE := Lib.hid (show l ≠ [] from fun e => h0 (by rw [e]; rfl))
      have HB := Lib.hid (fun x hx h => batch_bad l x hx h)
      have HGD := Lib.hid (fun hm => batch_good l HNE.out (by omega) hm)
      have HCV := Lib.hid (show ∀ Y : Cm, Y.may → chk Y = 0 from fun Y h => if_pos h)
      have HCW := Lib.hid (show ∀ Y : Cm, ¬ Y.may → chk Y = 2 from fun Y h => if_neg h)
      obtain ⟨F, hF⟩ : ∃ F : Nat → List UInt8, (fun k => UInt8.ofNat l.length :: (l.take k).flatMap bytes) = F := ⟨_, rfl⟩
      have HF0 := Lib.hid (show by8 (F 0) = [.int .u8 (l.length : Int)] by rw [← hF]; simp [by8]; omega)
      have HFL0 := Lib.hid (show (F 0).length = 1 by rw [← hF]; simp)
      have HFS := Lib.hid (show ∀ k (h : k < l.length), F (k + 1) = F k ++ (l[k]).bytes by
        rw [← hF]; intro k h; simp only [List.take_succ_eq_append_getElem h, List.flatMap_append, List.flatMap_cons, List.flatMap_nil, List.append_nil, List.cons_append])
      have HFE := Lib.hid (show F l.length = UInt8.ofNat l.length :: l.flatMap bytes by rw [← hF]; simp only [List.take_length])
      have HFM := Lib.hid (show ∀ k, k ≤ l.length → (∀ x ∈ l.take k, x.may) → (F k).length ≤ 4000 by
        rw [← hF]; intro k hk hm
        have := flat_le (l.take k) hm
        have h3 : (l.take k).length ≤ 4 := by rw [List.length_take]; omega
        simp only [List.length_cons]; omega)
      clear h0 hF
      go_enter Try.func9, Try.ntmps9
      go_wp2_with fail
      have k0 := Blk.new w (.cells #[.int .u8 (l.length : Int)] 5)
      have o0 : (w.alloc (.cells #[.int .u8 (l.length : Int)] 5)).ownsRow w.heap.size 5 1 (.slice (some ⟨w.heap.size, 0, none⟩) 1 1) (F 0).length (by8 (F 0)) := by
        rw [HF0.out, HFL0.out]; exact own_one k0 (Nat.le_refl _)
      have B0 := below1 w (.cells #[.int .u8 (l.length : Int)] 5)
      go_loopw [4, 20] (fun s4 i wr => ∃ (k : Nat) (sv : Value), k ≤ l.length ∧ i = .int .i64 k ∧ sv = s4 ∧ (∀ x ∈ l.take k, x.may) ∧ wr.ownsRow w.heap.size 5 1 sv (F k).length (by8 (F k)) ∧ Below w.heap.size w wr) (fun _ i _ => l.length - (intOf i).toNat)
      case atStart => exact ⟨0, _, Nat.zero_le _, rfl, rfl, by simp, o0, B0⟩
      case round =>
        clear k0 o0 B0
        obtain ⟨k, sv, hk, rfl, rfl, hm, ho, BB⟩ := hrel
        have HM := Lib.hid hm
        clear hm
        by_cases hlt : k < l.length
        · have hd : decide ((k : Int) < (l.length : Int)) = true := decide_eq_true (by omega)
          have hd' : decide (k < l.length) = true := decide_eq_true hlt
          obtain ⟨lb, off, e0, g⟩ := (HV.out.below BB (Nat.le_refl _)).at 7 (by decide) cells_len k hlt
          subst e0
          have hxo := HOK.out l[k] (List.getElem_mem hlt)
          have HMEM := Lib.hid (List.getElem_mem hlt)
          have HS := Lib.hid (HFS.out k hlt)
          have HTK := Lib.hid (List.take_succ_eq_append_getElem hlt)
          obtain ⟨x, hx⟩ : ∃ x, l[k] = x := ⟨_, rfl⟩
          rw [hx] at g hxo HMEM HS HTK
          clear hx
          have g0 := g 0 (by decide)
          have g1 := g 1 (by decide)
          have g2 := g 2 (by decide)
          have g3 := g 3 (by decide)
          have g4 := g 4 (by decide)
          have g5 := g 5 (by decide)
          have g6 := g 6 (by decide)
          simp only [Cm.cells, Nat.add_zero] at g0 g1 g2 g3 g4 g5 g6
          clear g
          go_wp2_with fail
          have kX := Blk.new wr (.cells #[.int .u8 x.cl, .int .u32 x.sq, .int .u8 x.kd, .string x.key, .string x.old, .string x.new, .int .u8 x.set] 25)
          have hoA := ho.alloc (.cells #[.int .u8 x.cl, .int .u32 x.sq, .int .u8 x.kd, .string x.key, .string x.old, .string x.new, .int .u8 x.set] 25)
          have BA := BB.alloc BB.size (.cells #[.int .u8 x.cl, .int .u32 x.sq, .int .u8 x.kd, .string x.key, .string x.old, .string x.new, .int .u8 x.set] 25)
          obtain ⟨wA, hwA⟩ : ∃ wA, wr.alloc (.cells #[.int .u8 x.cl, .int .u32 x.sq, .int .u8 x.kd, .string x.key, .string x.old, .string x.new, .int .u8 x.set] 25) = wA := ⟨_, rfl⟩
          rw [hwA] at kX hoA BA ⊢
          clear hwA ho BB g0 g1 g2 g3 g4 g5 g6
          refine (check_any x hxo wA).mono ?_
          rintro e w2 ⟨rfl, b2⟩
          have kX2 := kX.later b2
          have ho2 := ownsRow_below hoA b2
          have B2 := Below.later BA b2 BA.size
          clear kX hoA BA b2
          by_cases hmx : x.may
          · rw [HCV.out x hmx]
            have hsh := may_short x hmx
            have c0 := kX2.cell 0
            have c1 := kX2.cell 1
            have c2 := kX2.cell 2
            have c3 := kX2.cell 3
            have c4 := kX2.cell 4
            have c5 := kX2.cell 5
            have c6 := kX2.cell 6
            have hfm := HFM.out k hk HM.out
            go_wp2_with fail
            refine (put_c w.heap.size sv _ _ x hxo hsh w2 ho2 (by omega) B2.size).mono ?_
            rintro e w3 ⟨v3, rfl, ho3, g3⟩
            rw [← by8_append, ← List.length_append, ← HS.out] at ho3
            have B3 := g3.below B2 B2.size (fun b hb => by
              rcases ho2.2 with ⟨e1, _⟩ | ⟨g, _, _, e1, hg, _⟩
              · rw [e1] at hb; cases hb
              · rw [e1] at hb; cases hb; exact hg)
            have HMX := Lib.hid hmx
            clear c0 c1 c2 c3 c4 c5 c6 kX2 ho2 B2 g3 hmx hsh hfm
            go_wp2_with fail
            go_roundw
            case rel => exact ⟨k + 1, v3, by omega, by go_num, rfl, fun y hy => by
                rw [HTK.out] at hy
                rcases List.mem_append.1 hy with h | h
                · exact HM.out y h
                · rw [List.mem_singleton] at h; rw [h]; exact HMX.out, ho3, B3⟩
            case measure => simp [intOf]; omega
          · rw [HCW.out x hmx]
            have HR := Lib.hid (HB.out x HMEM.out hmx)
            clear hmx
            go_wp2_with fail
            refine bodyPost_ret (v := .tuple #[.string ⟨#[]⟩, .int .i64 2]) (by simp [results, Try.results9, go_sem]) rfl ⟨by rw [HR.out]; rfl, B2⟩
        · have hd : decide ((k : Int) < (l.length : Int)) = false := decide_eq_false (by omega)
          have hd' : decide (k < l.length) = false := decide_eq_false hlt
          have hkl : k = l.length := by omega
          have HR := Lib.hid (HGD.out (fun x hx => HM.out x (by rw [hkl, List.take_length]; exact hx)))
          have tx := own_text ho
          have htx : F k = UInt8.ofNat l.length :: l.flatMap bytes := by rw [hkl]; exact HFE.out
          rw [htx] at tx
          clear hkl htx hlt
          go_wp2_with fail
          refine bodyPost_ret (v := .tuple #[.string (bs (UInt8.ofNat l.length :: l.flatMap bytes)), .int .i64 0]) (by simp [results, Try.results9, go_sem]) rfl ⟨by rw [HR.out]; rfl, BB⟩
end Cm
end Go.Proofs.Ytdjddbidhaeekaa
