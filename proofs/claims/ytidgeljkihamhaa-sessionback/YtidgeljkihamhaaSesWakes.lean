/-
  The sessions' known table: the law's own wakes answers true.
-/
import Derived.Test.YtidgeljkihamhaaSesLaw
import Derived.Test.YtidgeljkihamhaaBlk
import Derived.Deep.RegionHeld3
namespace Go.Proofs.Ytidgeljkihamhaa
open Go.RowKit
namespace Ses
def TW : Nat → L := fun i => if i = 1 then ⟨3, 0, ⟨#[120]⟩⟩ else zero
theorem tab_TW : tab TW = .agg #[.int .u32 0, .int .u8 0, .string ⟨#[]⟩, .int .u32 3, .int .u8 0, .string ⟨#[120]⟩, .int .u32 0, .int .u8 0, .string ⟨#[]⟩, .int .u32 0, .int .u8 0, .string ⟨#[]⟩] := rfl
theorem TW_ok : ∀ i < 4, (TW i).ok := fun i _ => by
  unfold TW
  by_cases h : i = 1
  · rw [if_pos h]; exact .inr (by decide)
  · rw [if_neg h]; exact .inl rfl
theorem TW_keep : keepT (fun _ => zero) 1 3 0 ⟨#[120]⟩ = TW := by
  rw [keepT, if_pos (by rw [look_fresh _ _ _ (by decide) (by decide) (by decide)])]; rfl
theorem TW_same : keepT TW 1 2 0 ⟨#[]⟩ = TW := by
  rw [keepT, if_neg (by rw [look_old _ _ _ (by decide) (by decide) (by decide)]; decide)]
theorem look1 : lookV (lookT TW 1 3) = .tuple #[.agg #[.int .u8 0, .string ⟨#[120]⟩], .int .u8 2] := by rw [look_again TW 1 3 (by decide) (by decide) rfl]; rfl
theorem look2 : lookV (lookT TW 1 2) = .tuple #[.agg #[.int .u8 3, .string ⟨#[]⟩], .int .u8 3] := by rw [look_old TW 1 2 (by decide) (by decide) (by decide)]; rfl
theorem tabs_other (w : World) : (binOp .neq 31 (.agg #[.int .u32 0, .int .u8 0, .string ⟨#[]⟩, .int .u32 3, .int .u8 0, .string ⟨#[120]⟩, .int .u32 0, .int .u8 0, .string ⟨#[]⟩, .int .u32 0, .int .u8 0, .string ⟨#[]⟩]) (.agg #[.int .u32 0, .int .u8 0, .string ⟨#[]⟩, .int .u32 0, .int .u8 0, .string ⟨#[]⟩, .int .u32 0, .int .u8 0, .string ⟨#[]⟩, .int .u32 0, .int .u8 0, .string ⟨#[]⟩])).run Try.prog w = .ok (.bool true) w := by kernel_rfl
theorem tabs_same (w : World) : (binOp .eql 31 (.agg #[.int .u32 0, .int .u8 0, .string ⟨#[]⟩, .int .u32 3, .int .u8 0, .string ⟨#[120]⟩, .int .u32 0, .int .u8 0, .string ⟨#[]⟩, .int .u32 0, .int .u8 0, .string ⟨#[]⟩]) (.agg #[.int .u32 0, .int .u8 0, .string ⟨#[]⟩, .int .u32 3, .int .u8 0, .string ⟨#[120]⟩, .int .u32 0, .int .u8 0, .string ⟨#[]⟩, .int .u32 0, .int .u8 0, .string ⟨#[]⟩])).run Try.prog w = .ok (.bool true) w := by kernel_rfl
set_option maxRecDepth 100000 in
set_option maxHeartbeats 4000000 in
theorem wakes_any (w : World) :
    Calls Try.prog 8 #[] w fun e w' => e = .returned (.bool true) ∧ Below w.heap.size w w' := by
  go_enter Try.func8, Try.ntmps8
  go_wp2_with fail
  refine (look_any (fun _ => zero) 1 3 (by decide) (fun _ _ => .inl rfl) _).mono ?_
  rintro e w1 ⟨rfl, b1⟩
  rw [look_fresh _ _ _ (by decide) (by decide) (by decide)]
  obtain ⟨hc1, hf1⟩ := bcell b1
  have q1 : w.heap.size < w1.heap.size := by have := b1.size; simp at this; omega
  simp only [lookV]
  go_wp2_with fail
  refine (keep_any (fun _ => zero) 1 3 0 ⟨#[120]⟩ (by decide) (fun _ _ => .inl rfl) _).mono ?_
  rintro e w2 ⟨rfl, b2⟩
  rw [TW_keep, tab_TW]
  obtain ⟨hc2, hf2⟩ := bcell b2
  have q2 : w1.heap.size < w2.heap.size := by have := b2.size; simp at this; omega
  have q2' : w.heap.size < w2.heap.size := by omega
  go_wp2_with fail
  refine (look_any TW 1 3 (by decide) TW_ok _).mono ?_
  rintro e w3 ⟨rfl, b3⟩
  rw [look1]
  obtain ⟨hc3, hf3⟩ := bcell b3
  have q3 : w2.heap.size < w3.heap.size := by have := b3.size; simp at this; omega
  have q3' : w1.heap.size < w3.heap.size := by omega
  have q3'' : w.heap.size < w3.heap.size := by omega
  go_wp2_with fail
  refine (look_any TW 1 2 (by decide) TW_ok _).mono ?_
  rintro e w4 ⟨rfl, b4⟩
  rw [look2]
  obtain ⟨hc4, hf4⟩ := bcell b4
  have q4 : w3.heap.size < w4.heap.size := by have := b4.size; simp at this; omega
  have q4a : w2.heap.size < w4.heap.size := by omega
  have q4b : w1.heap.size < w4.heap.size := by omega
  have q4c : w.heap.size < w4.heap.size := by omega
  go_wp2_with fail
  have B1 : Blk (w.alloc (.cells #[.int .u32 0, .int .u8 0, .string ⟨#[]⟩, .int .u32 0, .int .u8 0, .string ⟨#[]⟩, .int .u32 0, .int .u8 0, .string ⟨#[]⟩, .int .u32 0, .int .u8 0, .string ⟨#[]⟩] 31)) w.heap.size _ := Blk.new _ _
  have B1' := (((((B1.later b1).alloc _).later b2).alloc _).later b3 |>.alloc _ |>.later b4).alloc (.cells #[.int .u8 3, .string ⟨#[]⟩] 25)
  have B2 : Blk (w2.alloc (.cells #[.int .u32 0, .int .u8 0, .string ⟨#[]⟩, .int .u32 3, .int .u8 0, .string ⟨#[120]⟩, .int .u32 0, .int .u8 0, .string ⟨#[]⟩, .int .u32 0, .int .u8 0, .string ⟨#[]⟩] 31)) w2.heap.size _ := Blk.new _ _
  have B2' := ((B2.later b3).alloc _ |>.later b4).alloc (.cells #[.int .u8 3, .string ⟨#[]⟩] 25)
  have B3 : Blk (w3.alloc (.cells #[.int .u8 0, .string ⟨#[120]⟩] 25)) w3.heap.size _ := Blk.new _ _
  have B3' := (B3.later b4).alloc (.cells #[.int .u8 3, .string ⟨#[]⟩] 25)
  have B4 : Blk (w4.alloc (.cells #[.int .u8 3, .string ⟨#[]⟩] 25)) w4.heap.size _ := Blk.new _ _
  have hbel : Below w.heap.size w (w4.alloc (.cells #[.int .u8 3, .string ⟨#[]⟩] 25)) := by
    have c1 := Below.later' (below1 w _) b1
    have c2 := Below.later' (c1.alloc c1.size _) b2
    have c3 := Below.later' (c2.alloc c2.size _) b3
    have c4 := Below.later' (c3.alloc c3.size _) b4
    exact c4.alloc c4.size _
  clear hc1 hf1 hc2 hf2 hc3 hf3 hc4 hf4 b1 b2 b3 b4 B1 B2 B3
  generalize hW : w4.alloc (.cells #[.int .u8 3, .string ⟨#[]⟩] 25) = W at B1' B2' B3' B4 hbel ⊢
  clear hW
  have F1 := B1'.held
  have F2 := B2'.held
  have F3 := B3'.held
  have F4 := B4.held
  clear B1' B2' B3' B4
  have eq1 := tabs_other
  have eq2 := tabs_same
  go_region_held3 (fun w' => Below W.heap.size W w') (first | assumption | exact Below.drew (Below.refl _ _)) (first | (go_at_call 9; refine (keep_any TW 1 2 0 ⟨#[]⟩ (by decide) TW_ok _).mono ?_; rintro e w' ⟨rfl, hb⟩; rw [TW_same, tab_TW]; have hk := Below.later' (W := W) (by assumption) hb))
  all_goals go_wp2
  all_goals go_ret
  all_goals exact ⟨rfl, hbel.trans (Below.mono (by assumption) hbel.size)⟩
end Ses
end Go.Proofs.Ytidgeljkihamhaa
