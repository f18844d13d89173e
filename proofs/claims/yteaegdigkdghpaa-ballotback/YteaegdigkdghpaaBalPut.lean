/-
  The package ballot's writer, walked; a ballot's bytes.
-/
import Derived.Test.YteaegdigkdghpaaBal
import Derived.Test.YteaegdigkdghpaaWireRef
namespace Go.Proofs.Yteaegdigkdghpaa
open Go.RowKit
namespace Bal
open Wire
def balB (b : B) : List UInt8 := numB b.n ++ [UInt8.ofNat b.r]
theorem balB_len (b : B) : (balB b).length = (numB b.n).length + 1 := by simp [balB]
theorem balB_le (b : B) : (balB b).length ≤ 10 := by have := numB_le b.n; rw [balB_len]; omega
set_option maxHeartbeats 1000000 in
theorem put_any (base : Nat) (vb : Value) (k : Nat) (xs : List Value) (b : B) (hb : b.ok) (w : World) (hown : w.ownsRow base 5 1 vb k xs) (hk : k ≤ 1000000000) (hbase : base ≤ w.heap.size) :
    Calls Try.prog 18 #[vb, bv b] w fun e w' => ∃ v, e = .returned v ∧ w'.ownsRow base 5 1 v (k + (balB b).length) (xs ++ by8 (balB b)) ∧ Grew w vb w' v := by
  have hn := hb.1
  have hr := hb.2
  have hle := numB_le b.n
  have HB := Lib.hid (show xs ++ by8 (balB b) = (xs ++ by8 (numB b.n)) ++ [.int .u8 b.r] by
    have e : by8 [UInt8.ofNat b.r] = [.int .u8 (b.r : Int)] := by simp [by8]; omega
    rw [balB, by8_append, e, List.append_assoc])
  have HL := Lib.hid (show k + (balB b).length = k + (numB b.n).length + 1 by rw [balB_len, Nat.add_assoc])
  have hlt : ∀ c, vb.ownBlock = some c → c < w.heap.size := fun c hc => (hown.lt c hc).2
  have hcl := fun (w' : World) (h : Blk w' w.heap.size (.cells #[.int .u64 b.n, .int .u8 b.r] 25)) => (show w'.cell? ⟨w.heap.size, 0, none⟩ = some (.int .u64 b.n) ∧ w'.cell? ⟨w.heap.size, 1, none⟩ = some (.int .u8 b.r) from ⟨h.cell 0, h.cell 1⟩)
  have HC := Lib.hid hcl
  have HLT := Lib.hid hlt
  clear hcl hlt
  go_enter Try.func18, Try.ntmps18
  go_wp2_with fail
  have kW := Blk.new w (.cells #[.int .u64 b.n, .int .u8 b.r] 25)
  have ho := ownsRow_below hown (below1 w (.cells #[.int .u64 b.n, .int .u8 b.r] 25))
  have gW := Grew.alloc w vb (.cells #[.int .u64 b.n, .int .u8 b.r] 25)
  have zW : (w.alloc (.cells #[.int .u64 b.n, .int .u8 b.r] 25)).heap.size = w.heap.size + 1 := World.size_alloc _ _
  have ZW := Lib.hid zW
  clear zW
  generalize w.alloc (.cells #[.int .u64 b.n, .int .u8 b.r] 25) = W at *
  have kD : Blk W.drew w.heap.size _ := kW.drew
  have hoD : W.drew.ownsRow base 5 1 vb k xs := ho
  have gD : Grew w vb W.drew vb := gW.trans (Grew.of_below (Below.drew (Below.refl _ _)) _)
  have zD : w.heap.size + 1 = W.drew.heap.size := ZW.out.symm
  have ZD := Lib.hid zD
  clear zD kW ho gW
  refine wp_region_way (fun w' => w'.cell? ⟨w.heap.size, 0, none⟩ = some (.int .u64 b.n) ∧ w'.cell? ⟨w.heap.size, 1, none⟩ = some (.int .u8 b.r)) (.go 0 (.go 1 (.go 2 (.go 4 (.go 5 (.two 3 6 (.go 6 (.go 7 (.go 8 .nil))) (.go 3 (.go 7 (.go 8 .nil))))))))) [3, 6, 7] (by kernel_rfl) (by kernel_rfl) (by intro c d v a w h; cases d <;> exact h) (HC.out _ kD) ?_
  repeat (first
    | (refine wpWay_take (v := ?_) rfl rfl ?_ ?_ ?_; rotate_left; rfl; (· intro w' hSw; (try dsimp only at hSw); go_simp <;> with_reducible rfl); simp only [Act.put, List.setIfInBounds_toArray, List.set_cons_zero, List.set_cons_succ])
    | (refine wpWay_skip rfl rfl ?_ ?_; rfl; simp only [Act.put, List.setIfInBounds_toArray, List.set_cons_zero, List.set_cons_succ]))
  refine wpWay_two rfl rfl (fun K hK => ?_) (fun K hK => ?_)
  · go_wp2_with fail
    refine (num_any base vb k xs b.n hn _ hoD (by omega) (by rw [← ZD.out]; omega)).mono ?_
    rintro e w1 ⟨v1, rfl, ho1, g1⟩
    have k1 := g1.blk kD (fun e => by have := HLT.out _ e.symm; omega)
    have z1 := g1.size
    go_wp2_with fail
    refine hK.out _ _ (HC.out _ k1) ?_
    clear hK K
    repeat (first
      | (refine wpWay_take (v := ?_) rfl rfl ?_ ?_ ?_; rotate_left; rfl; (· intro w' hSw; (try dsimp only at hSw); go_simp <;> with_reducible rfl); simp only [Act.put, List.setIfInBounds_toArray, List.set_cons_zero, List.set_cons_succ])
      | (refine wpWay_skip rfl rfl ?_ ?_; rfl; simp only [Act.put, List.setIfInBounds_toArray, List.set_cons_zero, List.set_cons_succ]))
    refine wpWay_eff rfl rfl (fun K hK => ?_)
    go_wp2_with fail
    refine hK.out _ _ (HC.out _ (k1.alloc _)) ?_
    clear hK K
    repeat (first
      | (refine wpWay_take (v := ?_) rfl rfl ?_ ?_ ?_; rotate_left; rfl; (· intro w' hSw; (try dsimp only at hSw); go_simp <;> with_reducible rfl); simp only [Act.put, List.setIfInBounds_toArray, List.set_cons_zero, List.set_cons_succ])
      | (refine wpWay_skip rfl rfl ?_ ?_; rfl; simp only [Act.put, List.setIfInBounds_toArray, List.set_cons_zero, List.set_cons_succ]))
    refine wpWay_eff rfl rfl (fun K hK => ?_)
    go_wp2_with (at_builtin; go_loud (refine app1g rfl _ _ 37 rfl base 5 (.int .u8 0) 1 info Try.underlying37 rfl _ _ _ rfl _ _ _ ho1 rfl _ (by simp) rfl (by omega) (by omega) (by have := ZD.out; omega) ?_; intro v2 w2 ho2 g2))
    have k2 := g2.blk k1 (fun e => by have := g1.stays (b := w.heap.size) (fun e => by have := HLT.out _ e.symm; omega) (by have := ZD.out; omega); exact this e)
    refine hK.out _ _ (HC.out _ k2) ?_
    clear hK K
    repeat (first
      | (refine wpWay_take (v := ?_) rfl rfl ?_ ?_ ?_; rotate_left; rfl; (· intro w' hSw; (try dsimp only at hSw); go_simp <;> with_reducible rfl); simp only [Act.put, List.setIfInBounds_toArray, List.set_cons_zero, List.set_cons_succ])
      | (refine wpWay_skip rfl rfl ?_ ?_; rfl; simp only [Act.put, List.setIfInBounds_toArray, List.set_cons_zero, List.set_cons_succ]))
    refine wpWay_nil ?_
    go_wp2_with fail
    go_ret
    exact ⟨_, rfl, by rw [HB.out, HL.out]; exact ho2, gD.trans (g1.trans g2)⟩
  · go_wp2_with fail
    refine hK.out _ _ (HC.out _ (kD.alloc _)) ?_
    clear hK K
    repeat (first
      | (refine wpWay_take (v := ?_) rfl rfl ?_ ?_ ?_; rotate_left; rfl; (· intro w' hSw; (try dsimp only at hSw); go_simp <;> with_reducible rfl); simp only [Act.put, List.setIfInBounds_toArray, List.set_cons_zero, List.set_cons_succ])
      | (refine wpWay_skip rfl rfl ?_ ?_; rfl; simp only [Act.put, List.setIfInBounds_toArray, List.set_cons_zero, List.set_cons_succ]))
    refine wpWay_eff rfl rfl (fun K hK => ?_)
    go_wp2_with fail
    have hoA : (W.alloc (.cells #[.int .u8 b.r] 5)).drew.ownsRow base 5 1 vb k xs := ownsRow_below hoD (below1 W.drew (.cells #[.int .u8 b.r] 5))
    have gA : Grew w vb (W.alloc (.cells #[.int .u8 b.r] 5)).drew vb := gD.trans (Grew.alloc W.drew vb (.cells #[.int .u8 b.r] 5))
    have kA : Blk (W.alloc (.cells #[.int .u8 b.r] 5)).drew w.heap.size _ := kD.alloc (.cells #[.int .u8 b.r] 5)
    have kN : Blk (W.alloc (.cells #[.int .u8 b.r] 5)).drew W.heap.size _ := Blk.new W.drew (.cells #[.int .u8 b.r] 5)
    refine (num_any base vb k xs b.n hn _ hoA (by omega) (by have := ZW.out; simp; omega)).mono ?_
    rintro e w1 ⟨v1, rfl, ho1, g1⟩
    have k1 := g1.blk kA (fun e => by have := HLT.out _ e.symm; omega)
    have kN1 := g1.blk kN (fun e => by have := HLT.out _ e.symm; have := ZW.out; omega)
    have z1 := g1.size
    go_wp2_with fail
    refine hK.out _ _ (HC.out _ k1) ?_
    clear hK K
    repeat (first
      | (refine wpWay_take (v := ?_) rfl rfl ?_ ?_ ?_; rotate_left; rfl; (· intro w' hSw; (try dsimp only at hSw); go_simp <;> with_reducible rfl); simp only [Act.put, List.setIfInBounds_toArray, List.set_cons_zero, List.set_cons_succ])
      | (refine wpWay_skip rfl rfl ?_ ?_; rfl; simp only [Act.put, List.setIfInBounds_toArray, List.set_cons_zero, List.set_cons_succ]))
    refine wpWay_eff rfl rfl (fun K hK => ?_)
    have hrd : RdV w1 (.slice (some ⟨W.heap.size, 0, none⟩) 1 1) 1 [.int .u8 b.r] := RdV.owns (own_one kN1 (Nat.zero_le _))
    go_wp2_with (at_builtin; go_loud (refine appNg rfl _ _ 37 rfl base 5 (.int .u8 0) 1 1 info Try.underlying37 rfl (by decide) _ v1 _ _ ho1 rfl _ 1 [.int .u8 b.r] hrd rfl (by intro u hu; simp at hu; subst hu; rfl) rfl (by omega) (by omega) (by have := ZW.out; simp at z1; omega) ?_; intro v2 w2 ho2 g2))
    have k2 := g2.blk k1 (fun e => by have := g1.stays (b := w.heap.size) (fun e => by have := HLT.out _ e.symm; omega) (by have := ZW.out; simp; omega); exact this e)
    refine hK.out _ _ (HC.out _ k2) ?_
    clear hK K
    repeat (first
      | (refine wpWay_take (v := ?_) rfl rfl ?_ ?_ ?_; rotate_left; rfl; (· intro w' hSw; (try dsimp only at hSw); go_simp <;> with_reducible rfl); simp only [Act.put, List.setIfInBounds_toArray, List.set_cons_zero, List.set_cons_succ])
      | (refine wpWay_skip rfl rfl ?_ ?_; rfl; simp only [Act.put, List.setIfInBounds_toArray, List.set_cons_zero, List.set_cons_succ]))
    refine wpWay_nil ?_
    go_wp2_with fail
    go_ret
    exact ⟨_, rfl, by rw [HB.out, HL.out]; exact ho2, gA.trans (g1.trans g2)⟩
end Bal
end Go.Proofs.Yteaegdigkdghpaa
