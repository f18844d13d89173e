/-
  cmd.Put: a command's bytes.
-/
import Derived.Test.YtdjddbidhaeekaaCmdBytes
import Derived.Test.YtdjddbidhaeekaaWireNum
import Derived.Test.YtdjddbidhaeekaaWireStr
import Derived.Test.YtdjddbidhaeekaaOrd
import Derived.Test.YtdjddbidhaeekaaApart
import Derived.Deep.DeepCutAuto
namespace Go.Proofs.Ytdjddbidhaeekaa
open Go.RowKit Go.WideShapes
namespace Cm
open Wire
def headB (x : Cm) : List UInt8 := UInt8.ofNat x.cl :: (numB x.sq ++ [UInt8.ofNat x.kd])
def partB (x : Cm) : Nat → List UInt8
  | 0 => x.headB
  | 1 => x.headB ++ strB x.key.data.toList
  | 2 => x.headB ++ strB x.key.data.toList ++ strB x.old.data.toList
  | _ => x.headB ++ strB x.key.data.toList ++ strB x.old.data.toList ++ strB x.new.data.toList
theorem part_end (x : Cm) : partB x 3 ++ [UInt8.ofNat x.set] = x.bytes := by simp [partB, headB, bytes]
theorem by8_one (n : Nat) (h : n ≤ 255) : [Value.int .u8 (n : Int)] = by8 [UInt8.ofNat n] := by simp [by8]; omega
theorem part_le (x : Cm) (h : x.short) (k : Nat) : (partB x k).length ≤ 960 := by
  have h1 := bytes_le x h
  rw [← part_end, List.length_append] at h1
  have h3 : (partB x 3).length ≤ 959 := by simp at h1; omega
  match k with
  | 0 => simp [partB] at h3 ⊢; omega
  | 1 => simp [partB] at h3 ⊢; omega
  | 2 => simp [partB] at h3 ⊢; omega
  | k + 3 => simp [partB] at h3 ⊢; omega
theorem ix0 (a b c : ByteArray) (w : World) : (Instr.index 58 (.agg #[.string a, .string b, .string c]) (.int .i64 0)).run Try.prog w = .ok (.string a) w := by kernel_rfl
theorem ix1 (a b c : ByteArray) (w : World) : (Instr.index 58 (.agg #[.string a, .string b, .string c]) (.int .i64 1)).run Try.prog w = .ok (.string b) w := by kernel_rfl
theorem ix2 (a b c : ByteArray) (w : World) : (Instr.index 58 (.agg #[.string a, .string b, .string c]) (.int .i64 2)).run Try.prog w = .ok (.string c) w := by kernel_rfl
set_option maxRecDepth 100000 in
set_option maxHeartbeats 2000000 in
theorem put_c (base : Nat) (vb : Value) (n0 : Nat) (xs : List Value) (x : Cm) (hx : x.ok) (hs : x.short) (w : World) (hown : w.ownsRow base 5 1 vb n0 xs) (hn0 : n0 ≤ 100000) (hbase : base ≤ w.heap.size) :
    Calls Try.prog 13 #[vb, x.val] w fun e w' => ∃ v, e = .returned v ∧ w'.ownsRow base 5 1 v (n0 + x.bytes.length) (xs ++ by8 x.bytes) ∧ Grew w vb w' v := by
  have HL := Lib.hid (part_le x hs)
  have HE := Lib.hid (part_end x)
  have HSH := Lib.hid hs
  obtain ⟨ox1, ox2, ox3, _, _, _, ox7⟩ := hx
  have k3 := Blk.new w (.cells #[.int .u8 x.cl, .int .u32 x.sq, .int .u8 x.kd, .string x.key, .string x.old, .string x.new, .int .u8 x.set] 25)
  have b0 := below1 w (.cells #[.int .u8 x.cl, .int .u32 x.sq, .int .u8 x.kd, .string x.key, .string x.old, .string x.new, .int .u8 x.set] 25)
  have hcb : some w.heap.size ≠ vb.ownBlock := fun e => by have := (hown.lt _ e.symm).2; omega
  have hown1 := ownsRow_below hown b0
  have hbs1 : base ≤ (w.alloc (.cells #[.int .u8 x.cl, .int .u32 x.sq, .int .u8 x.kd, .string x.key, .string x.old, .string x.new, .int .u8 x.set] 25)).heap.size := Nat.le_trans hbase b0.size
  have hz : w.heap.size < (w.alloc (.cells #[.int .u8 x.cl, .int .u32 x.sq, .int .u8 x.kd, .string x.key, .string x.old, .string x.new, .int .u8 x.set] 25)).heap.size := k3.lt
  have G0 := Grew.of_below b0 vb
  clear hown hs
  go_enter Try.func13, Try.ntmps13
  go_wp2_with fail
  generalize w.alloc (.cells #[.int .u8 x.cl, .int .u32 x.sq, .int .u8 x.kd, .string x.key, .string x.old, .string x.new, .int .u8 x.set] 25) = W at *
  go_cut [0] (fun s0 wx => ∃ sv : Value, sv = s0 ∧ wx.ownsRow base 5 1 sv (n0 + (1 + (numB x.sq).length)) (xs ++ by8 (UInt8.ofNat x.cl :: numB x.sq)) ∧ Grew w vb wx sv ∧ Blk wx w.heap.size (.cells #[.int .u8 x.cl, .int .u32 x.sq, .int .u8 x.kd, .string x.key, .string x.old, .string x.new, .int .u8 x.set] 25) ∧ base ≤ wx.heap.size ∧ some w.heap.size ≠ sv.ownBlock)
  case first =>
    have hS : Blk W.drew w.heap.size (.cells #[.int .u8 x.cl, .int .u32 x.sq, .int .u8 x.kd, .string x.key, .string x.old, .string x.new, .int .u8 x.set] 25) := k3.drew
    have hF := fun (w' : World) (j : Nat) (hb : Blk w' w.heap.size (.cells #[.int .u8 x.cl, .int .u32 x.sq, .int .u8 x.kd, .string x.key, .string x.old, .string x.new, .int .u8 x.set] 25)) => hb.cell j
    have ho := ownsRow_below hown1 (Below.drew (Below.refl W.heap.size W))
    have GD := G0.trans (Grew.of_below (Below.drew (Below.refl W.heap.size W)) vb)
    refine wp_region_ord (fun w' => Blk w' w.heap.size (.cells #[.int .u8 x.cl, .int .u32 x.sq, .int .u8 x.kd, .string x.key, .string x.old, .string x.new, .int .u8 x.set] 25)) (0 :: 1 :: 2 :: 5 :: 6 :: 7 :: 3 :: 4 :: 8 :: 9 :: []) [3, 4, 8] (by kernel_rfl) (by kernel_rfl) (by intro c d v a w h; cases d <;> exact h) hS ?_
    obtain ⟨Wd, hWd⟩ : ∃ Wd, W.drew = Wd := ⟨_, rfl⟩
    have hbd : base ≤ W.drew.heap.size := hbs1
    rw [hWd] at hS ho hbd GD ⊢
    clear hWd
    repeat (first
      | (refine wpOrd_take (v := ?_) rfl rfl ?_ ?_ ?_; rotate_left; rfl; (· intro w' hSw; (try dsimp only at hSw); go_simp <;> with_reducible rfl); simp only [Act.put, List.setIfInBounds_toArray, List.set_cons_zero, List.set_cons_succ])
      | (refine wpOrd_skip rfl rfl ?_ ?_; rfl; simp only [Act.put, List.setIfInBounds_toArray, List.set_cons_zero, List.set_cons_succ]))
    refine wpOrd_eff rfl rfl (fun K hK => ?_)
    go_wp2_with fail
    refine hK.out _ _ (hS.alloc (.cells #[.int .u8 x.cl] 5)) ?_
    clear hK K
    repeat (first
      | (refine wpOrd_take (v := ?_) rfl rfl ?_ ?_ ?_; rotate_left; rfl; (· intro w' hSw; (try dsimp only at hSw); go_simp <;> with_reducible rfl); simp only [Act.put, List.setIfInBounds_toArray, List.set_cons_zero, List.set_cons_succ])
      | (refine wpOrd_skip rfl rfl ?_ ?_; rfl; simp only [Act.put, List.setIfInBounds_toArray, List.set_cons_zero, List.set_cons_succ]))
    refine wpOrd_eff rfl rfl (fun K hK => ?_)
    refine app1g rfl _ _ 26 rfl base 5 (.int .u8 0) 1 info Try.underlying26 rfl Wd (.int .u8 x.cl) 5 rfl vb n0 xs ho rfl _ rfl rfl (by omega) (by omega) hbd ?_
    intro v1 w1 ho1 g1
    have hS1 := hS.grown g1.1 hcb
    rw [by8_one x.cl ox1] at ho1
    have G1 := GD.trans g1
    have hb1 : base ≤ w1.heap.size := Nat.le_trans hbd g1.size
    go_wp2_with fail
    refine hK.out _ _ hS1 ?_
    clear hK K
    repeat (first
      | (refine wpOrd_take (v := ?_) rfl rfl ?_ ?_ ?_; rotate_left; rfl; (· intro w' hSw; (try dsimp only at hSw); go_simp <;> with_reducible rfl); simp only [Act.put, List.setIfInBounds_toArray, List.set_cons_zero, List.set_cons_succ])
      | (refine wpOrd_skip rfl rfl ?_ ?_; rfl; simp only [Act.put, List.setIfInBounds_toArray, List.set_cons_zero, List.set_cons_succ]))
    refine wpOrd_eff rfl rfl (fun K hK => ?_)
    go_wp2_with fail
    have hcb1 : some w.heap.size ≠ v1.ownBlock := g1.stays hcb hS.lt
    refine (num_any base v1 (n0 + 1) _ x.sq (by omega) w1 ho1 (by omega) hb1).mono ?_
    rintro e w2 ⟨v2, rfl, ho2, g2⟩
    have hS2 := hS1.grown g2.1 hcb1
    have hcb2 : some w.heap.size ≠ v2.ownBlock := g2.stays hcb1 hS1.lt
    have ho3 : w2.ownsRow base 5 1 v2 (n0 + (1 + (numB x.sq).length)) (xs ++ by8 (UInt8.ofNat x.cl :: numB x.sq)) := by
      rw [List.append_assoc, ← by8_append, Nat.add_assoc] at ho2; exact ho2
    go_wp2_with fail
    refine hK.out _ _ hS2 ?_
    clear hK K
    repeat (first
      | (refine wpOrd_take (v := ?_) rfl rfl ?_ ?_ ?_; rotate_left; rfl; (· intro w' hSw; (try dsimp only at hSw); go_simp <;> with_reducible rfl); simp only [Act.put, List.setIfInBounds_toArray, List.set_cons_zero, List.set_cons_succ])
      | (refine wpOrd_skip rfl rfl ?_ ?_; rfl; simp only [Act.put, List.setIfInBounds_toArray, List.set_cons_zero, List.set_cons_succ]))
    refine wpOrd_nil ?_
    go_wp2
    go_meet
    exact ⟨_, rfl, ho3, G1.trans g2, hS2, Nat.le_trans hb1 g2.size, hcb2⟩
  case rest =>
    obtain ⟨sv, rfl, ho, G, kB, hb, hc⟩ := hcut
    have hh := HL.out 0
    have hhl : (1 + (numB x.sq).length) ≤ 960 := by simp [partB, headB] at hh; omega
    have kc := kB.cell 2
    go_wp2_with (at_builtin; go_loud (refine app1g rfl _ _ 26 rfl base 5 (.int .u8 0) 1 info Try.underlying26 rfl wc (.int .u8 x.kd) 5 rfl sv _ _ ho rfl _ rfl rfl (by omega) (by omega) hb ?_; intro v3 w3 ho3 g3; have kB3 := kB.grown g3.1 hc; have kc3 := kB3.cell 3; have kc4 := kB3.cell 4; have kc5 := kB3.cell 5))
    have hc3 := g3.stays hc kB.lt
    have hb3 : base ≤ w3.heap.size := Nat.le_trans hb g3.size
    have G3 := G.trans g3
    have ho4 : w3.ownsRow base 5 1 v3 (n0 + (partB x 0).length) (xs ++ by8 (partB x 0)) := by
      rw [by8_one x.kd ox3, List.append_assoc, ← by8_append] at ho3
      have e : partB x 0 = (UInt8.ofNat x.cl :: numB x.sq) ++ [UInt8.ofNat x.kd] := rfl
      rw [e, List.length_append]
      have e2 : n0 + (1 + (numB x.sq).length) + 1 = n0 + ((UInt8.ofNat x.cl :: numB x.sq).length + [UInt8.ofNat x.kd].length) := by simp; omega
      rw [e2] at ho3; exact ho3
    clear ho3 g3 G kB hb hc ho kc
    go_loopw [0, 28] (fun s0 i wr => ∃ (k : Nat) (sv : Value), k ≤ 3 ∧ i = .int .i64 k ∧ sv = s0 ∧ wr.ownsRow base 5 1 sv (n0 + (partB x k).length) (xs ++ by8 (partB x k)) ∧ Grew w vb wr sv ∧ Blk wr w.heap.size (.cells #[.int .u8 x.cl, .int .u32 x.sq, .int .u8 x.kd, .string x.key, .string x.old, .string x.new, .int .u8 x.set] 25) ∧ base ≤ wr.heap.size ∧ some w.heap.size ≠ sv.ownBlock) (fun _ i _ => 3 - (intOf i).toNat)
    case atStart => exact ⟨0, _, by omega, rfl, rfl, ho4, G3, kB3, hb3, hc3⟩
    case round =>
      clear ho4 G3 kB3 hb3 hc3 kc3 kc4 kc5
      obtain ⟨k, sv, hk, rfl, rfl, ho, G, kB, hb, hc⟩ := hrel
      have i0 := ix0
      have i1 := ix1
      have i2 := ix2
      have h4 : k = 0 ∨ k = 1 ∨ k = 2 ∨ k = 3 := by omega
      rcases h4 with rfl | rfl | rfl | rfl
      · go_wp2_with fail
        refine (str_put base sv _ _ x.key.data.toList (by have e : x.key.data.toList.length = x.key.size := rfl; have := HSH.out; unfold short at this; omega) wr ho (by have := HL.out 0; omega) hb).mono ?_
        rintro e w5 ⟨v5, rfl, ho5, g5⟩
        have hS5 := kB.grown g5.1 hc
        have hc5 := g5.stays hc kB.lt
        have ho6 : w5.ownsRow base 5 1 v5 (n0 + (partB x 1).length) (xs ++ by8 (partB x 1)) := by
          have e : partB x 1 = partB x 0 ++ strB x.key.data.toList := rfl
          rw [e, List.length_append, by8_append, ← Nat.add_assoc, ← List.append_assoc]; exact ho5
        go_wp2_with fail
        go_roundw
        case rel => exact ⟨1, _, by omega, by go_num, rfl, ho6, G.trans g5, hS5, Nat.le_trans hb g5.size, hc5⟩
        case measure => simp [intOf]
      · go_wp2_with fail
        refine (str_put base sv _ _ x.old.data.toList (by have e : x.old.data.toList.length = x.old.size := rfl; have := HSH.out; unfold short at this; omega) wr ho (by have := HL.out 1; omega) hb).mono ?_
        rintro e w5 ⟨v5, rfl, ho5, g5⟩
        have hS5 := kB.grown g5.1 hc
        have hc5 := g5.stays hc kB.lt
        have ho6 : w5.ownsRow base 5 1 v5 (n0 + (partB x 2).length) (xs ++ by8 (partB x 2)) := by
          have e : partB x 2 = partB x 1 ++ strB x.old.data.toList := rfl
          rw [e, List.length_append, by8_append, ← Nat.add_assoc, ← List.append_assoc]; exact ho5
        go_wp2_with fail
        go_roundw
        case rel => exact ⟨2, _, by omega, by go_num, rfl, ho6, G.trans g5, hS5, Nat.le_trans hb g5.size, hc5⟩
        case measure => simp [intOf]
      · go_wp2_with fail
        refine (str_put base sv _ _ x.new.data.toList (by have e : x.new.data.toList.length = x.new.size := rfl; have := HSH.out; unfold short at this; omega) wr ho (by have := HL.out 2; omega) hb).mono ?_
        rintro e w5 ⟨v5, rfl, ho5, g5⟩
        have hS5 := kB.grown g5.1 hc
        have hc5 := g5.stays hc kB.lt
        have ho6 : w5.ownsRow base 5 1 v5 (n0 + (partB x 3).length) (xs ++ by8 (partB x 3)) := by
          have e : partB x 3 = partB x 2 ++ strB x.new.data.toList := rfl
          rw [e, List.length_append, by8_append, ← Nat.add_assoc, ← List.append_assoc]; exact ho5
        go_wp2_with fail
        go_roundw
        case rel => exact ⟨3, _, by omega, by go_num, rfl, ho6, G.trans g5, hS5, Nat.le_trans hb g5.size, hc5⟩
        case measure => simp [intOf]
      · have kc6 := kB.cell 6
        have hh3 := HL.out 3
        go_wp2_with (at_builtin; go_loud (refine app1g rfl _ _ 26 rfl base 5 (.int .u8 0) 1 info Try.underlying26 rfl wr (.int .u8 x.set) 5 rfl sv _ _ ho rfl _ rfl rfl (by omega) (by omega) hb ?_; intro v7 w7 ho7 g7))
        go_ret
        have ho8 : w7.ownsRow base 5 1 v7 (n0 + x.bytes.length) (xs ++ by8 x.bytes) := by
          rw [by8_one x.set ox7, List.append_assoc, ← by8_append] at ho7
          have e := HE.out
          rw [e] at ho7
          have e2 : n0 + (partB x 3).length + 1 = n0 + x.bytes.length := by rw [← e, List.length_append]; simp; omega
          rw [e2] at ho7; exact ho7
        exact ⟨_, rfl, ho8, G.trans g7⟩
end Cm
end Go.Proofs.Ytdjddbidhaeekaa
