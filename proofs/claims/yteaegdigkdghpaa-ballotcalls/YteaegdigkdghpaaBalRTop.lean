/-
  The document's Top, walked.
-/
import Derived.Test.YteaegdigkdghpaaBalRef
namespace Go.Proofs.Yteaegdigkdghpaa
open Go.RowKit Go.WideShapes
namespace Bal
def mostB (l : List B) (x : B) (k : Nat) : Bool := (l.take k).all fun y => !lt x y
theorem most_step (l : List B) (x : B) (k : Nat) (h : k < l.length) : mostB l x (k + 1) = (mostB l x k && !lt x l[k]) := by
  unfold mostB
  rw [List.take_succ_eq_append_getElem h, List.all_append]
  simp
theorem most_end (l : List B) (x : B) (h : x ∈ l) : mostB l x l.length = decide (x = topB l) := by
  unfold mostB
  rw [List.take_length]
  by_cases e : x = topB l
  · rw [decide_eq_true e, List.all_eq_true]
    intro y hy
    rw [e, topB_none l y hy]; rfl
  · rw [decide_eq_false e, List.all_eq_false]
    rcases topB_mem l with ⟨h0, _⟩ | hm
    · subst h0; cases h
    · refine ⟨topB l, hm, ?_⟩
      have h1 := topB_none l x h
      rcases lt_total x (topB l) with g | g | g
      · rw [g]; simp
      · rw [h1] at g; cases g
      · exact absurd g e
def outB (l : List B) (i : Nat) : B := if ((l.take i).any fun x => decide (x = topB l)) = true then topB l else zero
theorem out_step (l : List B) (i : Nat) (h : i < l.length) : outB l (i + 1) = if l[i] = topB l then l[i] else outB l i := by
  unfold outB
  rw [List.take_succ_eq_append_getElem h, List.any_append]
  by_cases e : l[i] = topB l
  · rw [if_pos e, if_pos (by simp [e])]; exact e.symm
  · rw [if_neg e]; simp [e]
theorem out_end (l : List B) : outB l l.length = topB l := by
  unfold outB
  rw [List.take_length]
  rcases topB_mem l with ⟨h0, h1⟩ | hm
  · subst h0; rw [h1]; simp
  · rw [if_pos (List.any_eq_true.2 ⟨_, hm, by simp⟩)]
set_option maxRecDepth 100000 in
set_option maxHeartbeats 4000000 in
theorem rtop_any (v : Value) (l : List B) (w : World) (hv : RdT bV w v l) : Calls Try.prog 16 #[v] w fun e w' => e = .returned (bv (topB l)) ∧ Below w.heap.size w w' := by
  have HV := Lib.hid hv
  obtain ⟨p, cap, rfl, hlen⟩ := hv.len
  clear hv
  have HOS := Lib.hid (out_step l)
  have HOE := Lib.hid (out_end l)
  have HME := Lib.hid (fun x hx => most_end l x hx)
  have HMS := Lib.hid (fun x k h => most_step l x k h)
  obtain ⟨o, ho⟩ : ∃ o, outB l = o := ⟨_, rfl⟩
  have ho0 : o 0 = zero := by rw [← ho]; rfl
  have HO0 := Lib.hid ho0
  rw [ho] at HOS HOE
  clear ho ho0
  obtain ⟨mo, hmo⟩ : ∃ mo, mostB l = mo := ⟨_, rfl⟩
  have HM0 := Lib.hid (show ∀ x, mo x 0 = true by intro x; rw [← hmo]; rfl)
  rw [hmo] at HME HMS
  clear hmo
  go_enter Try.func16, Try.ntmps16
  go_wp2_with fail
  go_loopw [4, 5, 6] (fun i _ _ wr => ∃ k : Nat, k ≤ l.length ∧ i = .int .i64 k ∧ Blk wr (w.heap.size + 1) (.cells #[.int .u64 (o k).n, .int .u8 (o k).r] 25) ∧ Blk wr w.heap.size (.cells #[.int .u64 0, .int .u8 0] 25) ∧ Below w.heap.size w wr) (fun i _ _ _ => l.length - (intOf i).toNat)
  case atStart => exact ⟨0, Nat.zero_le _, rfl, by rw [HO0.out]; exact Blk.newAt _ (by simp), Blk.alloc (Blk.new _ _) _, below2 _ _ _⟩
  case round =>
    obtain ⟨i, hi, rfl, k3, k2, hB⟩ := hrel
    have l3 := k3.lt
    by_cases hlt : i < l.length
    · have hd : decide ((i : Int) < (l.length : Int)) = true := decide_eq_true (by omega)
      obtain ⟨lb, off, rfl, _⟩ := HV.out.at 2 (by decide) bV_len i hlt
      have g : ∀ w', Below w.heap.size w w' → ∀ j, j < 2 → w'.cell? ⟨lb, off + i * 2 + j, none⟩ = (bV l[i])[j]? := fun w' hb' => by
        obtain ⟨b', off', e, h⟩ := (HV.out.below hb' (Nat.le_refl _)).at 2 (by decide) bV_len i hlt
        cases e; exact h
      have hos := Lib.hid (HOS.out i hlt)
      have hme := Lib.hid (HME.out l[i] (List.getElem_mem hlt))
      have hms := Lib.hid (HMS.out l[i])
      have hm0 := Lib.hid (HM0.out l[i])
      obtain ⟨x, hx⟩ : ∃ x, l[i] = x := ⟨_, rfl⟩
      rw [hx] at g hos hme hms hm0
      clear hx
      have g0 := fun w' hb' => g w' hb' 0 (by decide)
      have g1 := fun w' hb' => g w' hb' 1 (by decide)
      simp only [bV, Nat.add_zero] at g0 g1
      clear g
      obtain ⟨wo, rfl⟩ : ∃ wo : World, wo = wr := ⟨_, rfl⟩
      go_wp2_with fail
      go_loopw [5, 6] (fun m j wr => ∃ k : Nat, k ≤ l.length ∧ j = .int .i64 k ∧ m = .bool (mo x k) ∧ Blk wr (w.heap.size + 1) (.cells #[.int .u64 (o i).n, .int .u8 (o i).r] 25) ∧ Blk wr w.heap.size (.cells #[.int .u64 0, .int .u8 0] 25) ∧ Below w.heap.size w wr) (fun _ j _ => l.length - (intOf j).toNat)
      case atStart => exact ⟨0, Nat.zero_le _, rfl, by rw [hm0.out], k3, k2, hB⟩
      case round =>
        clear k3 k2 hB l3
        obtain ⟨k, hk, rfl, rfl, k3, k2, hB⟩ := hrel
        by_cases hlk : k < l.length
        · have hdk : decide ((k : Int) < (l.length : Int)) = true := decide_eq_true (by omega)
          have gk : ∀ w', Below w.heap.size w w' → ∀ j, j < 2 → w'.cell? ⟨lb, off + k * 2 + j, none⟩ = (bV l[k])[j]? := fun w' hb' => by
            obtain ⟨b', off', e, h⟩ := (HV.out.below hb' (Nat.le_refl _)).at 2 (by decide) bV_len k hlk
            cases e; exact h
          have hst := Lib.hid (hms.out k hlk)
          obtain ⟨y, hy⟩ : ∃ y, l[k] = y := ⟨_, rfl⟩
          rw [hy] at gk hst
          clear hy
          have q0 := fun w' hb' => gk w' hb' 0 (by decide)
          have q1 := fun w' hb' => gk w' hb' 1 (by decide)
          simp only [bV, Nat.add_zero] at q0 q1
          clear gk
          cases hmk : mo x k
          · have HS := Lib.hid (show mo x (k + 1) = false by rw [hst.out, hmk]; rfl)
            clear hmk hst
            go_wp2_with fail
            refine wp_region_ord (fun w' => Below w.heap.size w w') (0 :: 1 :: 2 :: 3 :: 4 :: 5 :: 6 :: 7 :: 8 :: 9 :: 10 :: 11 :: 12 :: 13 :: []) [] (by kernel_rfl) (by kernel_rfl) (by intro c d v a w h; cases d <;> exact h) hB.drew ?_
            repeat (first
              | (refine wpOrd_take (v := ?_) rfl rfl ?_ ?_ ?_; rotate_left; rfl; (· intro w' hSw; (try dsimp only at hSw); go_simp <;> with_reducible rfl); simp only [Act.put, List.setIfInBounds_toArray, List.set_cons_zero, List.set_cons_succ])
              | (refine wpOrd_skip rfl rfl ?_ ?_; rfl; simp only [Act.put, List.setIfInBounds_toArray, List.set_cons_zero, List.set_cons_succ]))
            refine wpOrd_nil ?_
            go_wp2
            go_roundw
            case rel => exact ⟨k + 1, by omega, by go_num, by rw [HS.out], k3.drew, k2.drew, hB.drew⟩
            case measure => simp [intOf]; omega
          · have HS := Lib.hid (show mo x (k + 1) = !lt x y by rw [hst.out, hmk]; rfl)
            clear hmk hst
            go_wp2_with fail
            refine wp_region_ord (fun w' => Below w.heap.size w w') (0 :: 1 :: 2 :: 3 :: 4 :: 5 :: 6 :: 7 :: 8 :: 9 :: 10 :: 11 :: 12 :: 13 :: []) [10] (by kernel_rfl) (by kernel_rfl) (by intro c d v a w h; cases d <;> exact h) hB.drew ?_
            repeat (first
              | (refine wpOrd_take (v := ?_) rfl rfl ?_ ?_ ?_; rotate_left; rfl; (· intro w' hSw; (try dsimp only at hSw); go_simp <;> with_reducible rfl); simp only [Act.put, List.setIfInBounds_toArray, List.set_cons_zero, List.set_cons_succ])
              | (refine wpOrd_skip rfl rfl ?_ ?_; rfl; simp only [Act.put, List.setIfInBounds_toArray, List.set_cons_zero, List.set_cons_succ]))
            refine wpOrd_eff rfl rfl (fun K hK => ?_)
            go_wp2_with fail
            refine (rbelow_any x y _).mono ?_
            rintro e x1 ⟨rfl, b_x1⟩
            have B1 := Below.later' hB.drew b_x1
            have k31 := k3.drew.later b_x1
            have k21 := k2.drew.later b_x1
            obtain ⟨t, ht⟩ : ∃ t, lt x y = t := ⟨_, rfl⟩
            rw [ht] at HS ⊢
            go_wp2_with fail
            refine hK.out _ _ B1 ?_
            clear hK K
            repeat (first
              | (refine wpOrd_take (v := ?_) rfl rfl ?_ ?_ ?_; rotate_left; rfl; (· intro w' hSw; (try dsimp only at hSw); go_simp <;> with_reducible rfl); simp only [Act.put, List.setIfInBounds_toArray, List.set_cons_zero, List.set_cons_succ])
              | (refine wpOrd_skip rfl rfl ?_ ?_; rfl; simp only [Act.put, List.setIfInBounds_toArray, List.set_cons_zero, List.set_cons_succ]))
            refine wpOrd_nil ?_
            go_wp2
            go_roundw
            case rel => exact ⟨k + 1, by omega, by go_num, by rw [HS.out], k31, k21, B1⟩
            case measure => simp [intOf]; omega
        · have hdk : decide ((k : Int) < (l.length : Int)) = false := decide_eq_false (by omega)
          obtain rfl : k = l.length := by omega
          have r0 := k3.cell 0
          have r1 := k3.cell 1
          have f0 := k3.frozen 0
          have f1 := k3.frozen 1
          have l3 := k3.lt
          have e0 := g0 _ hB
          have e1 := g1 _ hB
          cases hmk : mo x l.length
          · have HN := Lib.hid (show o (i + 1) = o i by
              have h1 := hme.out
              rw [hmk] at h1
              rw [hos.out, if_neg (of_decide_eq_false h1.symm)])
            clear hmk
            go_wp2
            go_roundw
            case rel => exact ⟨i + 1, by omega, by go_num, by rw [HN.out]; exact k3, k2, hB⟩
            case measure => simp [intOf]; omega
          · have HN := Lib.hid (show o (i + 1) = x by
              have h1 := hme.out
              rw [hmk] at h1
              rw [hos.out, if_pos (of_decide_eq_true h1.symm)])
            clear hmk
            go_wp2
            go_roundw
            case rel => exact ⟨i + 1, by omega, by go_num, by rw [HN.out]; exact Blk.set (Blk.set k3 0 _) 1 _, Blk.other (Blk.other k2 (a := ⟨w.heap.size + 1, 0, none⟩) (by simp) _) (a := ⟨w.heap.size + 1, 1, none⟩) (by simp) _, (hB.setCell (p := ⟨w.heap.size + 1, 0, none⟩) (by simp) _).setCell (p := ⟨w.heap.size + 1, 1, none⟩) (by simp) _⟩
            case measure => simp [intOf]; omega
    · have hd : decide ((i : Int) < (l.length : Int)) = false := decide_eq_false (by omega)
      obtain rfl : i = l.length := by omega
      rw [HOE.out] at k3
      have a0 := k3.cell 0
      have a1 := k3.cell 1
      have b0 := k2.cell 0
      have b1 := k2.cell 1
      have f0 := k2.frozen 0
      have f1 := k2.frozen 1
      have l2 := k2.lt
      go_wp2
      refine bodyPost_ret (v := bv (topB l)) (by simp [results, Try.results16, go_sem, b0, b1]) rfl ⟨rfl, ?_⟩
      exact (hB.setCell (p := ⟨w.heap.size, 0, none⟩) (Nat.le_refl _) _).setCell (p := ⟨w.heap.size, 1, none⟩) (Nat.le_refl _) _
end Bal
end Go.Proofs.Yteaegdigkdghpaa
