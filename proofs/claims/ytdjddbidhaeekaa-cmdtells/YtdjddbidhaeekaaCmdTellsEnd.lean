/-
  CmdTells: any commands, any bytes ahead.
-/
import Derived.Test.YtdjddbidhaeekaaCmdTells
namespace Go.Proofs.Ytdjddbidhaeekaa
open Go.RowKit Go.WideShapes
namespace Cm
open Wire
theorem tells_great (v u : Value) (l : List Cm) (a : Cm) (L : List UInt8) (h : greatL l = true ∨ greatL l = false ∧ greatL [a] = true ∨ greatL l = false ∧ greatL [a] = false ∧ 100 < L.length) (w : World) (hv : RdT cells w v l) (hu : RdV w u L.length (by8 L)) :
    Calls Try.prog 3 #[v, a.val, u] w fun e w' => e = .returned (.bool true) ∧ Below w.heap.size w w' := by
  have HV := Lib.hid hv
  have HU := Lib.hid hu
  obtain ⟨p, cap, rfl, _, _, _⟩ := hu
  clear hv
  have k := Blk.new w (.cells #[.int .u8 a.cl, .int .u32 a.sq, .int .u8 a.kd, .string a.key, .string a.old, .string a.new, .int .u8 a.set] 25)
  have b0 := below1 w (.cells #[.int .u8 a.cl, .int .u32 a.sq, .int .u8 a.kd, .string a.key, .string a.old, .string a.new, .int .u8 a.set] 25)
  rcases h with h | ⟨h, h2⟩ | ⟨h, h2, h3⟩
  · have HG := Lib.hid h
    clear h
    go_enter Try.func3, Try.ntmps3
    go_wp2_with fail
    obtain ⟨W, hW⟩ : ∃ W, w.alloc (.cells #[.int .u8 a.cl, .int .u32 a.sq, .int .u8 a.kd, .string a.key, .string a.old, .string a.new, .int .u8 a.set] 25) = W := ⟨_, rfl⟩
    rw [hW] at k b0 ⊢
    clear hW
    refine (greatL_any v l W (HV.out.later b0)).mono ?_
    rintro e w1 ⟨rfl, rfl⟩
    rw [HG.out]
    go_wp2_with fail
    refine (wakes_any _).mono ?_
    rintro e w2 ⟨rfl, b3⟩
    go_wp2
    go_ret
    exact ⟨rfl, Below.later' b0 b3⟩
  · have HG := Lib.hid h
    have HM := Lib.hid h2
    clear h h2
    go_enter Try.func3, Try.ntmps3
    go_wp2_with fail
    obtain ⟨W, hW⟩ : ∃ W, w.alloc (.cells #[.int .u8 a.cl, .int .u32 a.sq, .int .u8 a.kd, .string a.key, .string a.old, .string a.new, .int .u8 a.set] 25) = W := ⟨_, rfl⟩
    rw [hW] at k b0 ⊢
    clear hW
    refine (greatL_any v l W (HV.out.later b0)).mono ?_
    rintro e w1 ⟨rfl, rfl⟩
    rw [HG.out]
    have k2 := Blk.new W (.cells #[.int .u8 a.cl, .int .u32 a.sq, .int .u8 a.kd, .string a.key, .string a.old, .string a.new, .int .u8 a.set] 25)
    have b2 := below1 W (.cells #[.int .u8 a.cl, .int .u32 a.sq, .int .u8 a.kd, .string a.key, .string a.old, .string a.new, .int .u8 a.set] 25)
    have c0 := k.cell 0
    have c1 := k.cell 1
    have c2 := k.cell 2
    have c3 := k.cell 3
    have c4 := k.cell 4
    have c5 := k.cell 5
    have c6 := k.cell 6
    go_wp2_with fail
    have r1 : RdT cells (W.alloc (.cells #[.int .u8 a.cl, .int .u32 a.sq, .int .u8 a.kd, .string a.key, .string a.old, .string a.new, .int .u8 a.set] 25)) (.slice (some ⟨W.heap.size, 0, none⟩) 1 1) [a] := rdV_block W _ 25 1 1 (by decide)
    obtain ⟨X, hX⟩ : ∃ X, W.alloc (.cells #[.int .u8 a.cl, .int .u32 a.sq, .int .u8 a.kd, .string a.key, .string a.old, .string a.new, .int .u8 a.set] 25) = X := ⟨_, rfl⟩
    rw [hX] at k2 b2 r1 ⊢
    clear hX
    refine (greatL_any _ [a] X r1).mono ?_
    rintro e w1 ⟨rfl, rfl⟩
    rw [HM.out]
    go_wp2_with fail
    refine (wakes_any _).mono ?_
    rintro e w2 ⟨rfl, b3⟩
    go_wp2
    go_ret
    exact ⟨rfl, Below.later' b0 (b2.trans (b3.mono b2.size))⟩
  · have HG := Lib.hid h
    have HM := Lib.hid h2
    have d1 : decide (100 < L.length) = true := decide_eq_true h3
    have d1' : decide ((100 : Int) < (L.length : Int)) = true := decide_eq_true (by omega)
    clear h h2
    go_enter Try.func3, Try.ntmps3
    go_wp2_with fail
    obtain ⟨W, hW⟩ : ∃ W, w.alloc (.cells #[.int .u8 a.cl, .int .u32 a.sq, .int .u8 a.kd, .string a.key, .string a.old, .string a.new, .int .u8 a.set] 25) = W := ⟨_, rfl⟩
    rw [hW] at k b0 ⊢
    clear hW
    refine (greatL_any v l W (HV.out.later b0)).mono ?_
    rintro e w1 ⟨rfl, rfl⟩
    rw [HG.out]
    have k2 := Blk.new W (.cells #[.int .u8 a.cl, .int .u32 a.sq, .int .u8 a.kd, .string a.key, .string a.old, .string a.new, .int .u8 a.set] 25)
    have b2 := below1 W (.cells #[.int .u8 a.cl, .int .u32 a.sq, .int .u8 a.kd, .string a.key, .string a.old, .string a.new, .int .u8 a.set] 25)
    have c0 := k.cell 0
    have c1 := k.cell 1
    have c2 := k.cell 2
    have c3 := k.cell 3
    have c4 := k.cell 4
    have c5 := k.cell 5
    have c6 := k.cell 6
    go_wp2_with fail
    have r1 : RdT cells (W.alloc (.cells #[.int .u8 a.cl, .int .u32 a.sq, .int .u8 a.kd, .string a.key, .string a.old, .string a.new, .int .u8 a.set] 25)) (.slice (some ⟨W.heap.size, 0, none⟩) 1 1) [a] := rdV_block W _ 25 1 1 (by decide)
    obtain ⟨X, hX⟩ : ∃ X, W.alloc (.cells #[.int .u8 a.cl, .int .u32 a.sq, .int .u8 a.kd, .string a.key, .string a.old, .string a.new, .int .u8 a.set] 25) = X := ⟨_, rfl⟩
    rw [hX] at k2 b2 r1 ⊢
    clear hX
    refine (greatL_any _ [a] X r1).mono ?_
    rintro e w1 ⟨rfl, rfl⟩
    rw [HM.out]
    go_wp2_with fail
    refine (wakes_any _).mono ?_
    rintro e w2 ⟨rfl, b3⟩
    go_wp2
    go_ret
    exact ⟨rfl, Below.later' b0 (b2.trans (b3.mono b2.size))⟩
theorem u8s_by8 (l : List Nat) (hl : ∀ x ∈ l, x < 256) : u8s l = by8 (l.map UInt8.ofNat) := by
  rw [by8_u8s]
  congr 1
  induction l with
  | nil => rfl
  | cons a l ih =>
    have ha := hl a (by simp)
    simp [← ih (fun x hx => hl x (by simp [hx]))]
    omega
theorem open_u8 {w : World} {v : Value} {l : List Nat} (h : RdB w v l) : ∃ l : List UInt8, RdV w v l.length (by8 l) := by
  have hl : ∀ x ∈ l, x < 256 := by obtain ⟨_, _, _, hl, _⟩ := h; exact hl
  have := h.to
  rw [u8s_by8 l hl] at this
  exact ⟨l.map UInt8.ofNat, by rw [List.length_map]; exact this⟩
theorem open_cmd1 {H : Type} {enc : TypeId × Value → H} {base : Nat} {d : DataW H} {ps : List MemPlace} {v : Value} {w : World}
    (hok : Value.okWide Try.prog w .any base 25 v) (ht : DataW.Trod enc Try.prog w 0 (fun _ => true) true 25 v d ps) : ∃ x : Cm, v = x.val ∧ x.ok := by
  have hf := fit_Trod 4 (ks := [Leaf.int .u8, .int .u32, .int .u8, .str, .str, .str, .int .u8]) (by kernel_rfl) ht
  obtain ⟨cs, rfl, _⟩ := okWide_struct Try.underlying25 hok
  obtain ⟨cs⟩ := cs
  obtain ⟨x, hx, hk⟩ := dec cs hf
  exact ⟨x, by rw [hx], hk⟩
theorem tells_law {H : Type} {enc : TypeId × Value → H} {base : Nat} {d d1 d2 : DataW H} {ps ps1 ps2 : List MemPlace} (v va u : Value) (w : World)
    (hok : Value.okWide Try.prog w .any base 22 v) (ht : DataW.Trod enc Try.prog w 0 (fun _ => true) true 22 v d ps)
    (hok1 : Value.okWide Try.prog w .any base 25 va) (ht1 : DataW.Trod enc Try.prog w 0 (fun _ => true) true 25 va d1 ps1)
    (hok2 : Value.okWide Try.prog w .any base 26 u) (ht2 : DataW.Trod enc Try.prog w 0 (fun _ => true) true 26 u d2 ps2) :
    Calls Try.prog 3 #[v, va, u] w fun e w' => e = .returned (.bool true) ∧ Below w.heap.size w w' := by
  obtain ⟨l, hl, hlo⟩ := open_rows 4 (ks := [Leaf.int .u8, .int .u32, .int .u8, .str, .str, .str, .int .u8]) Cm.cells Cm.ok Cm.dec Try.underlying22 (by kernel_rfl) (by kernel_rfl) hok ht
  obtain ⟨a, rfl, hao⟩ := open_cmd1 hok1 ht1
  obtain ⟨L0, hL0⟩ := flat_u8s Try.underlying26 Try.underlying5 (by kernel_rfl) hok2 ht2
  obtain ⟨L, hL⟩ := open_u8 hL0
  by_cases h1 : greatL l = true
  · exact tells_great v u l a L (.inl h1) w hl hL
  · by_cases h2 : greatL [a] = true
    · exact tells_great v u l a L (.inr (.inl ⟨Bool.eq_false_iff.2 h1, h2⟩)) w hl hL
    · by_cases h3 : 100 < L.length
      · exact tells_great v u l a L (.inr (.inr ⟨Bool.eq_false_iff.2 h1, Bool.eq_false_iff.2 h2, h3⟩)) w hl hL
      · by_cases hm : a.may
        · exact tells_may v u l a L hlo hao (great_short a (Bool.eq_false_iff.2 h2)) (Bool.eq_false_iff.2 h1) (Bool.eq_false_iff.2 h2) h3 hm w hl hL
        · exact tells_not v u l a L hlo hao (great_short a (Bool.eq_false_iff.2 h2)) (Bool.eq_false_iff.2 h1) (Bool.eq_false_iff.2 h2) h3 hm w hl hL
end Cm
end Go.Proofs.Ytdjddbidhaeekaa
