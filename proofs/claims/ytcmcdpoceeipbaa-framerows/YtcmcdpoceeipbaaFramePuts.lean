/-
  FramePuts, walked.
-/
import Derived.Test.YtcmcdpoceeipbaaFrameWakes
namespace Go.Proofs.Ytcmcdpoceeipbaa
open Go.RowKit Go.WideShapes
namespace Fr
open Wire Crc
theorem bs_nil (x : List UInt8) (f : Bool) (hf : f = true ↔ x = []) : ((bs x).toList == []) = f ∧ (bs x).toList.isEmpty = f := by
  rw [bs_toList]
  cases f
  · have h : ¬ x = [] := fun h => by have := hf.2 h; cases this
    cases x with
    | nil => exact absurd rfl h
    | cons c t => exact ⟨rfl, rfl⟩
  · have h : x = [] := hf.1 rfl
    subst h; exact ⟨rfl, rfl⟩
set_option maxRecDepth 100000 in
set_option maxHeartbeats 1000000 in
theorem puts_none (v : Value) (L x : List UInt8) (hL : L.length ≤ 3000) (hx : x = []) (w : World) (hu : RdV w v L.length (by8 L)) :
    Calls Try.prog 3 #[v, .string (bs x)] w fun e w' => e = .returned (.bool true) ∧ Below w.heap.size w w' := by
  subst hx
  have zx : (bs []).size = 0 := rfl
  have zL := bs_size L
  have HU := Lib.hid hu
  obtain ⟨p, cap, rfl, _, _, _⟩ := hu
  have d1 : decide (3000 < L.length) = false := decide_eq_false (by omega)
  have d2 : decide ((3000 : Int) < (L.length : Int)) = false := decide_eq_false (by omega)
  obtain ⟨q1, q2⟩ := bs_nil [] true (by simp)
  have tx := rd_text HU.out rfl
  have e1 : ((bs L).toList == (bs L).toList) = true := beq_self_eq_true _
  go_enter Try.func3, Try.ntmps3
  go_wp2_with (at_builtin; go_loud (refine appNg rfl _ _ 22 rfl w.heap.size 5 (.int .u8 0) 1 1 info Try.underlying22 rfl (by decide) w (.slice none 0 0) 0 [] (own_nil _ _) rfl (.slice p L.length cap) L.length (by8 L) HU.out (by simp [by8_length]) (one_u8 _) rfl (by omega) (by omega) (Nat.le_refl _) ?_; intro va wa hoa ga))
  have B1 := below_grew ga
  rw [Nat.zero_add, List.nil_append] at hoa
  have tx2 := own_text hoa
  clear tx
  refine (put_none va [] (.inl rfl) (by decide) wa).mono ?_
  rintro e w1 ⟨rfl, rfl⟩
  go_wp2_with fail
  refine (wakes_any _).mono ?_
  rintro e w2 ⟨rfl, b2⟩
  go_wp2
  go_ret
  exact ⟨rfl, Below.later' B1 b2⟩
set_option maxRecDepth 100000 in
set_option maxHeartbeats 1000000 in
theorem puts_some (v : Value) (L x : List UInt8) (hL : L.length ≤ 3000) (hx : x ≠ []) (hx2 : x.length ≤ 3000) (w : World) (hu : RdV w v L.length (by8 L)) :
    Calls Try.prog 3 #[v, .string (bs x)] w fun e w' => e = .returned (.bool true) ∧ Below w.heap.size w w' := by
  have zx := bs_size x
  have zL := bs_size L
  have HU := Lib.hid hu
  obtain ⟨p, cap, rfl, _, _, _⟩ := hu
  have d1 : decide (3000 < L.length) = false := decide_eq_false (by omega)
  have d2 : decide ((3000 : Int) < (L.length : Int)) = false := decide_eq_false (by omega)
  have d3 : decide (3000 < x.length) = false := decide_eq_false (by omega)
  have d4 : decide ((3000 : Int) < (x.length : Int)) = false := decide_eq_false (by omega)
  obtain ⟨q1, q2⟩ := bs_nil x false (by simp [hx])
  have hpos := List.length_pos_iff.2 hx
  have tx := rd_text HU.out rfl
  have HP := Lib.hid (fun base vb n0 xs w h h0 hb => put_any base vb n0 xs x hpos (by omega) w h h0 hb)
  have HR := Lib.hid (fun w => rframe_any x (by omega) w)
  have hfl := frame_le x
  clear hx
  generalize frameB x = f at *
  have zf := bs_size f
  have hcat := bs_append L f
  have s1 : ¬ 9223372036854775807 < L.length + f.length := by omega
  have s2 : ¬ 9223372036854775807 < (L.length : Int) + (f.length : Int) := by omega
  have e1 : ((bs (L ++ f)).toList == (bs (L ++ f)).toList) = true := beq_self_eq_true _
  go_enter Try.func3, Try.ntmps3
  go_wp2_with (at_builtin; go_loud (refine appNg rfl _ _ 22 rfl w.heap.size 5 (.int .u8 0) 1 1 info Try.underlying22 rfl (by decide) w (.slice none 0 0) 0 [] (own_nil _ _) rfl (.slice p L.length cap) L.length (by8 L) HU.out (by simp [by8_length]) (one_u8 _) rfl (by omega) (by omega) (Nat.le_refl _) ?_; intro va wa hoa ga))
  have B1 := below_grew ga
  rw [Nat.zero_add, List.nil_append] at hoa
  clear tx
  refine (HP.out w.heap.size va L.length (by8 L) wa (.inl hoa) (by omega) B1.size).mono ?_
  rintro e w1 ⟨vb, rfl, hob, gb⟩
  have B2 := gb.below B1 B1.size (fun b hb => (hoa.lt b hb).1)
  have hcv : ∀ w', Below w1.heap.size w1 w' → (convert 22 9 vb).run Try.prog w' = .ok (.string (bs (L ++ f))) w' := fun w' h => own_text (ownsRow_below (by rw [by8_append]; exact hob) h)
  go_wp2_with fail
  have B0 : Below w1.heap.size w1 w1.drew := Below.drew (Below.refl _ _)
  refine wp_region_ord (fun w' => Below w1.heap.size w1 w') (0 :: 1 :: 2 :: 3 :: 4 :: 5 :: 6 :: 7 :: 8 :: 9 :: 10 :: 11 :: 12 :: 13 :: 14 :: []) [7, 12] (by kernel_rfl) (by kernel_rfl) (by intro c d v a w h; cases d <;> exact h) B0 ?_
  repeat (first
    | (refine wpOrd_take (v := ?_) rfl rfl ?_ ?_ ?_; rotate_left; rfl; (· intro w' hSw; (try dsimp only at hSw); go_simp <;> with_reducible rfl); simp only [Act.put, List.setIfInBounds_toArray, List.set_cons_zero, List.set_cons_succ])
    | (refine wpOrd_skip rfl rfl ?_ ?_; rfl; simp only [Act.put, List.setIfInBounds_toArray, List.set_cons_zero, List.set_cons_succ]))
  refine wpOrd_eff rfl rfl (fun K hK => ?_)
  go_wp2_with fail
  refine (HR.out _).mono ?_
  rintro e x1 ⟨rfl, c1⟩
  have C1 := B0.trans (c1.mono B0.size)
  go_wp2_with fail
  refine hK.out _ _ C1 ?_
  clear hK K
  repeat (first
    | (refine wpOrd_take (v := ?_) rfl rfl ?_ ?_ ?_; rotate_left; rfl; (· intro w' hSw; (try dsimp only at hSw); go_simp <;> with_reducible rfl); simp only [Act.put, List.setIfInBounds_toArray, List.set_cons_zero, List.set_cons_succ])
    | (refine wpOrd_skip rfl rfl ?_ ?_; rfl; simp only [Act.put, List.setIfInBounds_toArray, List.set_cons_zero, List.set_cons_succ]))
  refine wpOrd_eff rfl rfl (fun K hK => ?_)
  go_wp2_with fail
  refine (wakes_any _).mono ?_
  rintro e x2 ⟨rfl, c2⟩
  have C2 := C1.trans (c2.mono C1.size)
  go_wp2_with fail
  refine hK.out _ _ C2 ?_
  clear hK K
  repeat (first
    | (refine wpOrd_take (v := ?_) rfl rfl ?_ ?_ ?_; rotate_left; rfl; (· intro w' hSw; (try dsimp only at hSw); go_simp <;> with_reducible rfl); simp only [Act.put, List.setIfInBounds_toArray, List.set_cons_zero, List.set_cons_succ])
    | (refine wpOrd_skip rfl rfl ?_ ?_; rfl; simp only [Act.put, List.setIfInBounds_toArray, List.set_cons_zero, List.set_cons_succ]))
  refine wpOrd_nil ?_
  go_wp2_with fail
  go_ret
  exact ⟨rfl, Below.later' B2 C2⟩
theorem puts_long (v : Value) (L x : List UInt8) (h : 3000 < L.length ∨ ¬ 3000 < L.length ∧ 3000 < x.length) (w : World) (hu : RdV w v L.length (by8 L)) :
    Calls Try.prog 3 #[v, .string (bs x)] w fun e w' => e = .returned (.bool true) ∧ Below w.heap.size w w' := by
  have zx := bs_size x
  have zL := bs_size L
  have HU := Lib.hid hu
  obtain ⟨p, cap, rfl, _, _, _⟩ := hu
  rcases h with h | ⟨h, h2⟩
  · have d1 : decide (3000 < L.length) = true := decide_eq_true (by omega)
    have d2 : decide ((3000 : Int) < (L.length : Int)) = true := decide_eq_true (by omega)
    go_enter Try.func3, Try.ntmps3
    go_wp2_with fail
    refine (wakes_any _).mono ?_
    rintro e w2 ⟨rfl, b2⟩
    go_wp2
    go_ret
    exact ⟨rfl, b2⟩
  · have d1 : decide (3000 < L.length) = false := decide_eq_false (by omega)
    have d2 : decide ((3000 : Int) < (L.length : Int)) = false := decide_eq_false (by omega)
    have d3 : decide (3000 < x.length) = true := decide_eq_true (by omega)
    have d4 : decide ((3000 : Int) < (x.length : Int)) = true := decide_eq_true (by omega)
    go_enter Try.func3, Try.ntmps3
    go_wp2_with fail
    refine (wakes_any _).mono ?_
    rintro e w2 ⟨rfl, b2⟩
    go_wp2
    go_ret
    exact ⟨rfl, b2⟩
theorem u8s_by8 (l : List Nat) (hl : ∀ x ∈ l, x < 256) : u8s l = by8 (l.map UInt8.ofNat) := by
  rw [by8_u8s]
  congr 1
  induction l with
  | nil => rfl
  | cons a l ih =>
    have ha := hl a (by simp)
    simp [← ih (fun x hx => hl x (by simp [hx]))]
    omega
theorem open_u8 {w : World} {v : Value} {l : List Nat} (h : RdB w v l) : ∃ l : List UInt8, RdV w v l.length (by8 l) := by
  have hl : ∀ x ∈ l, x < 256 := by obtain ⟨_, _, _, hl, _⟩ := h; exact hl
  have := h.to
  rw [u8s_by8 l hl] at this
  exact ⟨l.map UInt8.ofNat, by rw [List.length_map]; exact this⟩
theorem puts_law {H : Type} {enc : TypeId × Value → H} {base : Nat} {d : DataW H} {ps : List MemPlace} (v : Value) (s : ByteArray) (w : World)
    (hok : Value.okWide Try.prog w .any base 22 v) (ht : DataW.Trod enc Try.prog w 0 (fun _ => true) true 22 v d ps) (_ : s.size ≤ maxLen) :
    Calls Try.prog 3 #[v, .string s] w fun e w' => e = .returned (.bool true) ∧ Below w.heap.size w w' := by
  obtain ⟨L0, hL0⟩ := flat_u8s Try.underlying22 Try.underlying5 (by kernel_rfl) hok ht
  obtain ⟨L, hL⟩ := open_u8 hL0
  rw [← bs_list s]
  generalize s.data.toList = x
  by_cases h1 : 3000 < L.length
  · exact puts_long v L x (.inl h1) w hL
  · by_cases h2 : 3000 < x.length
    · exact puts_long v L x (.inr ⟨h1, h2⟩) w hL
    · by_cases hx : x = []
      · exact puts_none v L x (by omega) hx w hL
      · exact puts_some v L x (by omega) hx (by omega) w hL
end Fr
end Go.Proofs.Ytcmcdpoceeipbaa
