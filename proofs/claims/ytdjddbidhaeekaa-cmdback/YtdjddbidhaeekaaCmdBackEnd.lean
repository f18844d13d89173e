/-
  CmdBack: any rows, any bytes.
-/
import Derived.Test.YtdjddbidhaeekaaCmdBack
namespace Go.Proofs.Ytdjddbidhaeekaa
open Go.RowKit Go.WideShapes
namespace Cm
open Wire
theorem open_cmds {H : Type} {enc : TypeId × Value → H} {base : Nat} {d : DataW H} {ps : List MemPlace} {v : Value} {w : World}
    (hok : Value.okWide Try.prog w .any base 22 v) (ht : DataW.Trod enc Try.prog w 0 (fun _ => true) true 22 v d ps) : ∃ l : List Cm, RdT Cm.cells w v l ∧ ∀ x ∈ l, x.ok :=
  open_rows 4 (ks := [Leaf.int .u8, .int .u32, .int .u8, .str, .str, .str, .int .u8]) Cm.cells Cm.ok Cm.dec Try.underlying22 (by kernel_rfl) (by kernel_rfl) hok ht
theorem back_great (v u : Value) (l m : List Cm) (s : List UInt8) (h : greatL l = true ∨ greatL l = false ∧ greatL m = true ∨ greatL l = false ∧ greatL m = false ∧ 2000 < s.length) (w : World) (hv : RdT cells w v l) (hu : RdT cells w u m) :
    Calls Try.prog 5 #[v, u, .string (bs s)] w fun e w' => e = .returned (.bool true) ∧ Below w.heap.size w w' := by
  have zs := bs_size s
  have HV := Lib.hid hv
  have HU := Lib.hid hu
  clear hv hu
  rcases h with h | ⟨h, h2⟩ | ⟨h, h2, h3⟩
  · have HG := Lib.hid h
    clear h
    go_enter Try.func5, Try.ntmps5
    go_wp2_with fail
    refine (greatL_any v l w HV.out).mono ?_
    rintro e w1 ⟨rfl, rfl⟩
    rw [HG.out]
    go_wp2_with fail
    refine (wakes_any _).mono ?_
    rintro e w2 ⟨rfl, b2⟩
    go_wp2
    go_ret
    exact ⟨rfl, b2⟩
  · have HG := Lib.hid h
    have HM := Lib.hid h2
    clear h h2
    go_enter Try.func5, Try.ntmps5
    go_wp2_with fail
    refine (greatL_any v l w HV.out).mono ?_
    rintro e w1 ⟨rfl, rfl⟩
    rw [HG.out]
    go_wp2_with fail
    refine (greatL_any u m w HU.out).mono ?_
    rintro e w1 ⟨rfl, rfl⟩
    rw [HM.out]
    go_wp2_with fail
    refine (wakes_any _).mono ?_
    rintro e w2 ⟨rfl, b2⟩
    go_wp2
    go_ret
    exact ⟨rfl, b2⟩
  · have HG := Lib.hid h
    have HM := Lib.hid h2
    have d1 : decide (2000 < s.length) = true := decide_eq_true h3
    have d1' : decide ((2000 : Int) < (s.length : Int)) = true := decide_eq_true (by omega)
    clear h h2
    go_enter Try.func5, Try.ntmps5
    go_wp2_with fail
    refine (greatL_any v l w HV.out).mono ?_
    rintro e w1 ⟨rfl, rfl⟩
    rw [HG.out]
    go_wp2_with fail
    refine (greatL_any u m w HU.out).mono ?_
    rintro e w1 ⟨rfl, rfl⟩
    rw [HM.out]
    go_wp2_with fail
    refine (wakes_any _).mono ?_
    rintro e w2 ⟨rfl, b2⟩
    go_wp2
    go_ret
    exact ⟨rfl, b2⟩
theorem back_law {H : Type} {enc : TypeId × Value → H} {base : Nat} {d d2 : DataW H} {ps ps2 : List MemPlace} (v u : Value) (s : ByteArray) (w : World)
    (hok : Value.okWide Try.prog w .any base 22 v) (ht : DataW.Trod enc Try.prog w 0 (fun _ => true) true 22 v d ps)
    (hok2 : Value.okWide Try.prog w .any base 22 u) (ht2 : DataW.Trod enc Try.prog w 0 (fun _ => true) true 22 u d2 ps2) (_ : s.size ≤ maxLen) :
    Calls Try.prog 5 #[v, u, .string s] w fun e w' => e = .returned (.bool true) ∧ Below w.heap.size w w' := by
  obtain ⟨l, hl, hlo⟩ := open_cmds hok ht
  obtain ⟨m, hm, hmo⟩ := open_cmds hok2 ht2
  rw [← bs_list s]
  by_cases h1 : greatL l = true
  · exact back_great v u l m _ (.inl h1) w hl hm
  · by_cases h2 : greatL m = true
    · exact back_great v u l m _ (.inr (.inl ⟨Bool.eq_false_iff.2 h1, h2⟩)) w hl hm
    · by_cases h3 : 2000 < s.data.toList.length
      · exact back_great v u l m _ (.inr (.inr ⟨Bool.eq_false_iff.2 h1, Bool.eq_false_iff.2 h2, h3⟩)) w hl hm
      · exact back_walk v u l m _ hlo hmo (Bool.eq_false_iff.2 h1) (Bool.eq_false_iff.2 h2) h3 w hl hm
end Cm
end Go.Proofs.Ytdjddbidhaeekaa
