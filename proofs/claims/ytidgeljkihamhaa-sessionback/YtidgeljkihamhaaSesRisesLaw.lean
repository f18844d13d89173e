/-
  The walk of SessionRises at every input: great ones, too.
-/
import Derived.Test.YtidgeljkihamhaaSesRises
namespace Go.Proofs.Ytidgeljkihamhaa
open Go.RowKit Go.WideShapes
theorem okWide_struct {P : Program} {w : World} {r : Reach} {base : Nat} {t : TypeId} {fs : Array Field} {v : Value} (hu : P.underlying t = some (.struct fs)) (h : Value.okWide P w r base t v) : ∃ cs, v = .agg cs := by
  unfold Value.okWide at h
  rw [hu] at h
  obtain ⟨cs, rfl, _⟩ := h
  exact ⟨cs, rfl⟩
theorem okWide_array {P : Program} {w : World} {r : Reach} {base : Nat} {t e : TypeId} {n : Nat} {v : Value} (hu : P.underlying t = some (.array n e)) (h : Value.okWide P w r base t v) : ∃ cs, v = .agg cs := by
  unfold Value.okWide at h
  rw [hu] at h
  obtain ⟨cs, rfl, _⟩ := h
  exact ⟨cs, rfl⟩
namespace Ses
theorem fit_kept : ∀ (n : Nat) (xs : List Value), Fit (List.replicate n [Leaf.int .u8, .int .u32, .int .u8, .str]).flatten xs → ∃ l : List K, xs = keptVs l ∧ l.length = n ∧ ∀ x ∈ l, x.ok := by
  intro n
  induction n with
  | zero => intro xs h; cases xs with
    | nil => exact ⟨[], rfl, rfl, by simp⟩
    | cons a b => exact h.elim
  | succ n ih =>
    intro xs h
    match xs, h with
    | [], h => exact h.elim
    | [_], h => exact h.2.elim
    | [_, _], h => exact h.2.2.elim
    | [_, _, _], h => exact h.2.2.2.elim
    | a :: b :: c :: d :: r, h =>
      obtain ⟨⟨x1, rfl, h1⟩, ⟨x2, rfl, h2⟩, ⟨x3, rfl, h3⟩, ⟨s, rfl, h4⟩, hr⟩ := h
      obtain ⟨l, rfl, rfl, hl⟩ := ih r hr
      obtain ⟨a0, a1⟩ := bounds_u8 h1
      obtain ⟨b0, b1⟩ := bounds_u32 h2
      obtain ⟨c0, c1⟩ := bounds_u8 h3
      refine ⟨⟨x1.toNat, x2.toNat, x3.toNat, s⟩ :: l, ?_, rfl, ?_⟩
      · show _ = keptV _ ++ keptVs l
        simp [keptV, Int.toNat_of_nonneg a0, Int.toNat_of_nonneg b0, Int.toNat_of_nonneg c0]
      · intro y hy
        rcases List.mem_cons.1 hy with h | h
        · subst h; refine ⟨?_, ?_, ?_, ?_⟩ <;> simp only [maxLen] at * <;> omega
        · exact hl y h
set_option maxRecDepth 100000 in
set_option maxHeartbeats 4000000 in
theorem rises_other (v : Value) (l : List K) (client seq code : Nat) (text : ByteArray) (w : World) (hv : RdK w v l) (h : greatK l = true ∨ 4 ≤ client ∨ seq = 0 ∨ 200 < text.size) (hts : text.size ≤ 9223372036854775807) :
    Calls Try.prog 3 #[v, .int .u8 client, .int .u32 seq, .agg #[.int .u8 code, .string text]] w fun e w' => e = .returned (.bool true) ∧ Below w.heap.size w w' := by
  have HV := Lib.hid hv
  obtain ⟨⟨p, cap, rfl, _⟩, _⟩ := hv
  have H := Lib.hid h
  clear h
  cases hg : greatK l
  · by_cases h1 : 4 ≤ client
    · have c1 : decide ((4 : Int) ≤ (client : Int)) = true := by simp; omega
      go_enter Try.func3, Try.ntmps3
      go_wp2_with fail
      refine (great_any _ l _ (HV.out.below (below1 w _) (Nat.le_refl _))).mono ?_
      rintro e w' ⟨rfl, rfl⟩
      rw [hg]
      go_wp2_with fail
      refine (wakes_any _).mono ?_
      rintro e w2 ⟨rfl, b2⟩
      go_wp2
      go_ret
      exact ⟨rfl, Below.later' (below1 w _) b2⟩
    · have c1 : decide ((4 : Int) ≤ (client : Int)) = false := by simp; omega
      by_cases h2 : seq = 0
      · subst h2
        go_enter Try.func3, Try.ntmps3
        go_wp2_with fail
        refine (great_any _ l _ (HV.out.below (below1 w _) (Nat.le_refl _))).mono ?_
        rintro e w' ⟨rfl, rfl⟩
        rw [hg]
        go_wp2_with fail
        refine (wakes_any _).mono ?_
        rintro e w2 ⟨rfl, b2⟩
        go_wp2
        go_ret
        exact ⟨rfl, Below.later' (below1 w _) b2⟩
      · have c2 : ((seq : Int) == 0) = false := by rw [beq_eq_false_iff_ne]; omega
        have h3 : 200 < text.size := by rcases H.out with h | h | h | h; (rw [hg] at h; cases h); exact absurd h h1; exact absurd h h2; exact h
        have c3 : decide ((200 : Int) < (text.size : Int)) = true := by simp; omega
        go_enter Try.func3, Try.ntmps3
        go_wp2_with fail
        refine (great_any _ l _ (HV.out.below (below1 w _) (Nat.le_refl _))).mono ?_
        rintro e w' ⟨rfl, rfl⟩
        rw [hg]
        go_wp2_with fail
        refine (wakes_any _).mono ?_
        rintro e w2 ⟨rfl, b2⟩
        go_wp2
        go_ret
        exact ⟨rfl, Below.later' (below1 w _) b2⟩
  · go_enter Try.func3, Try.ntmps3
    go_wp2_with fail
    refine (great_any _ l _ (HV.out.below (below1 w _) (Nat.le_refl _))).mono ?_
    rintro e w' ⟨rfl, rfl⟩
    rw [hg]
    go_wp2_with fail
    refine (wakes_any _).mono ?_
    rintro e w2 ⟨rfl, b2⟩
    go_wp2
    go_ret
    exact ⟨rfl, Below.later' (below1 w _) b2⟩
theorem open_kept {H : Type} {enc : TypeId × Value → H} {base : Nat} {d : DataW H} {ps : List MemPlace} {v : Value} {w : World}
    (hok : Value.okWide Try.prog w .any base 22 v) (ht : DataW.Trod enc Try.prog w 0 (fun _ => true) true 22 v d ps) : ∃ l : List K, RdK w v l := by
  obtain ⟨n, xs, hr, hf⟩ := flat_slice 3 (ks := [Leaf.int .u8, .int .u32, .int .u8, .str]) Try.underlying22 (by kernel_rfl) (by kernel_rfl) hok ht
  obtain ⟨l, rfl, rfl, hl⟩ := fit_kept n xs hf
  exact ⟨l, hr, hl⟩
theorem open_reply {H : Type} {enc : TypeId × Value → H} {base : Nat} {d : DataW H} {ps : List MemPlace} {v : Value} {w : World}
    (hok : Value.okWide Try.prog w .any base 25 v) (ht : DataW.Trod enc Try.prog w 0 (fun _ => true) true 25 v d ps) :
    ∃ (code : Nat) (t : ByteArray), v = .agg #[.int .u8 code, .string t] ∧ code ≤ 255 ∧ t.size ≤ 9223372036854775807 := by
  have hf := fit_Trod 3 (ks := [Leaf.int .u8, .str]) (by kernel_rfl) ht
  obtain ⟨cs, rfl⟩ := okWide_struct Try.underlying25 hok
  obtain ⟨cs⟩ := cs
  match cs, hf with
  | [], h => exact h.elim
  | [_], h => exact h.2.elim
  | _ :: _ :: _ :: _, h => exact h.2.2.elim
  | [a, b], h =>
    obtain ⟨⟨x, rfl, h1⟩, ⟨s, rfl, h2⟩, _⟩ := h
    obtain ⟨a0, a1⟩ := bounds_u8 h1
    exact ⟨x.toNat, s, by rw [Int.toNat_of_nonneg a0], by omega, by simpa only [maxLen] using h2⟩
theorem rises_law {H : Type} {enc : TypeId × Value → H} {base : Nat} {d d3 : DataW H} {ps ps3 : List MemPlace} (v : Value) (client seq : Int) (r : Value) (w : World)
    (hok : Value.okWide Try.prog w .any base 22 v) (ht : DataW.Trod enc Try.prog w 0 (fun _ => true) true 22 v d ps)
    (hc : (Lit.int .u8 client).wf = true) (hs : (Lit.int .u32 seq).wf = true)
    (hok3 : Value.okWide Try.prog w .any base 25 r) (ht3 : DataW.Trod enc Try.prog w 0 (fun _ => true) true 25 r d3 ps3) :
    Calls Try.prog 3 #[v, .int .u8 client, .int .u32 seq, r] w fun e w' => e = .returned (.bool true) ∧ Below w.heap.size w w' := by
  obtain ⟨l, hl⟩ := open_kept hok ht
  obtain ⟨code, t, rfl, hcode, htt⟩ := open_reply hok3 ht3
  obtain ⟨hc0, hc1⟩ := bounds_u8 hc
  obtain ⟨hs0, hs1⟩ := bounds_u32 hs
  obtain ⟨C, rfl⟩ := Int.eq_ofNat_of_zero_le hc0
  obtain ⟨S, rfl⟩ := Int.eq_ofNat_of_zero_le hs0
  by_cases h : greatK l = true ∨ 4 ≤ C ∨ S = 0 ∨ 200 < t.size
  · exact rises_other v l C S code t w hl h htt
  · have hg : greatK l = false := by cases hg : greatK l; rfl; exact absurd (.inl hg) h
    exact rises_walk v l C S code t (by omega) (by omega) (by omega) hcode (by omega) w hl hg
end Ses
end Go.Proofs.Ytidgeljkihamhaa
