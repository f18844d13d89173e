/-
  The document's One: a command's bytes.
-/
import Derived.Test.YtdjddbidhaeekaaCmdPut
import Derived.Test.YtdjddbidhaeekaaAny
import Derived.Test.YtdjddbidhaeekaaWireRStr
namespace Go.Proofs.Ytdjddbidhaeekaa
open Go.RowKit Go.WideShapes
namespace Cm
open Wire
def P1 (x : Cm) : List UInt8 := [UInt8.ofNat x.cl] ++ numB x.sq
def P2 (x : Cm) : List UInt8 := P1 x ++ [UInt8.ofNat x.kd]
def P3 (x : Cm) : List UInt8 := P2 x ++ strB x.key.data.toList
def P4 (x : Cm) : List UInt8 := P3 x ++ strB x.old.data.toList
def P5 (x : Cm) : List UInt8 := P4 x ++ strB x.new.data.toList
set_option maxRecDepth 100000 in
set_option maxHeartbeats 2000000 in
theorem one_c (x : Cm) (hx : x.ok) (hs : x.short) (w : World) : Calls Try.prog 14 #[x.val] w fun e w' => e = .returned (.string (bs x.bytes)) ∧ Below w.heap.size w w' := by
  obtain ⟨ox1, ox2, ox3, _, _, _, ox7⟩ := hx
  obtain ⟨h1, h2, h3⟩ := hs
  have zk : x.key.data.toList.length ≤ 1000000000 := by have e : x.key.data.toList.length = x.key.size := rfl; omega
  have zo : x.old.data.toList.length ≤ 1000000000 := by have e : x.old.data.toList.length = x.old.size := rfl; omega
  have zn : x.new.data.toList.length ≤ 1000000000 := by have e : x.new.data.toList.length = x.new.size := rfl; omega
  have e1 : x.key.data.toList.length = x.key.size := rfl
  have e2 : x.old.data.toList.length = x.old.size := rfl
  have e3 : x.new.data.toList.length = x.new.size := rfl
  have n1 := numB_le x.sq
  have n2 := strB_le x.key.data.toList
  have n3 := strB_le x.old.data.toList
  have n4 := strB_le x.new.data.toList
  have L8 := Lib.hid (show ([UInt8.ofNat x.cl]).length + (numB x.sq).length ≤ 5000 from by simp only [P1, P2, P3, P4, P5, List.length_append, List.length_singleton]; omega)
  have E8 := Lib.hid (show ([UInt8.ofNat x.cl]) ++ (numB x.sq) = P1 x from by first | rfl | simp [P1, P2, P3, P4, P5, bytes])
  have L13 := Lib.hid (show (P1 x).length + ([UInt8.ofNat x.kd]).length ≤ 5000 from by simp only [P1, P2, P3, P4, P5, List.length_append, List.length_singleton]; omega)
  have E13 := Lib.hid (show (P1 x) ++ ([UInt8.ofNat x.kd]) = P2 x from by first | rfl | simp [P1, P2, P3, P4, P5, bytes])
  have L17 := Lib.hid (show (P2 x).length + (strB x.key.data.toList).length ≤ 5000 from by simp only [P1, P2, P3, P4, P5, List.length_append, List.length_singleton]; omega)
  have E17 := Lib.hid (show (P2 x) ++ (strB x.key.data.toList) = P3 x from by first | rfl | simp [P1, P2, P3, P4, P5, bytes])
  have L21 := Lib.hid (show (P3 x).length + (strB x.old.data.toList).length ≤ 5000 from by simp only [P1, P2, P3, P4, P5, List.length_append, List.length_singleton]; omega)
  have E21 := Lib.hid (show (P3 x) ++ (strB x.old.data.toList) = P4 x from by first | rfl | simp [P1, P2, P3, P4, P5, bytes])
  have L25 := Lib.hid (show (P4 x).length + (strB x.new.data.toList).length ≤ 5000 from by simp only [P1, P2, P3, P4, P5, List.length_append, List.length_singleton]; omega)
  have E25 := Lib.hid (show (P4 x) ++ (strB x.new.data.toList) = P5 x from by first | rfl | simp [P1, P2, P3, P4, P5, bytes])
  have L30 := Lib.hid (show (P5 x).length + ([UInt8.ofNat x.set]).length ≤ 5000 from by simp only [P1, P2, P3, P4, P5, List.length_append, List.length_singleton]; omega)
  have E30 := Lib.hid (show (P5 x) ++ ([UInt8.ofNat x.set]) = x.bytes from by first | rfl | simp [P1, P2, P3, P4, P5, bytes])
  clear e1 e2 e3 n1 n2 n3 n4 h1 h2 h3
  have k := Blk.new w (.cells #[.int .u8 x.cl, .int .u32 x.sq, .int .u8 x.kd, .string x.key, .string x.old, .string x.new, .int .u8 x.set] 25)
  have b0 := below1 w (.cells #[.int .u8 x.cl, .int .u32 x.sq, .int .u8 x.kd, .string x.key, .string x.old, .string x.new, .int .u8 x.set] 25)
  go_enter Try.func14, Try.ntmps14
  go_wp2_with fail
  obtain ⟨W, hW⟩ : ∃ W, w.alloc (.cells #[.int .u8 x.cl, .int .u32 x.sq, .int .u8 x.kd, .string x.key, .string x.old, .string x.new, .int .u8 x.set] 25) = W := ⟨_, rfl⟩
  rw [hW] at k b0 ⊢
  clear hW
  have F := k.held
  have B0 : Below W.heap.size W W.drew := Below.drew (Below.refl _ _)
  refine wp_region_vals (fun w' => Below W.heap.size W w') (fun w1 w2 => Below w1.heap.size w1 w2) (fun i v w1 => match i with
    | 2 => ∃ b, v = .slice (some ⟨b, 0, none⟩) 1 1 ∧ Blk w1 b (.cells #[.int .u8 x.cl] 5)
    | 3 => v = .string (bs ([UInt8.ofNat x.cl]))
    | 7 => v = .string (bs (numB x.sq))
    | 8 => v = .string (bs (P1 x))
    | 11 => ∃ b, v = .slice (some ⟨b, 0, none⟩) 1 1 ∧ Blk w1 b (.cells #[.int .u8 x.kd] 5)
    | 12 => v = .string (bs ([UInt8.ofNat x.kd]))
    | 13 => v = .string (bs (P2 x))
    | 16 => v = .string (bs (strB x.key.data.toList))
    | 17 => v = .string (bs (P3 x))
    | 20 => v = .string (bs (strB x.old.data.toList))
    | 21 => v = .string (bs (P4 x))
    | 24 => v = .string (bs (strB x.new.data.toList))
    | 25 => v = .string (bs (P5 x))
    | 28 => ∃ b, v = .slice (some ⟨b, 0, none⟩) 1 1 ∧ Blk w1 b (.cells #[.int .u8 x.set] 5)
    | 29 => v = .string (bs ([UInt8.ofNat x.set]))
    | 30 => v = .string (bs (x.bytes))
    | 31 => v = .string (bs (x.bytes))
    | _ => True) (0 :: 1 :: 4 :: 5 :: 6 :: 9 :: 10 :: 14 :: 15 :: 18 :: 19 :: 22 :: 23 :: 26 :: 27 :: []) [(2, some 5), (3, some 6), (7, some 10), (8, some 11), (11, some 14), (12, some 15), (13, some 16), (16, some 19), (17, some 20), (20, some 23), (21, some 24), (24, some 27), (25, some 28), (28, some 31), (29, some 32), (30, some 33), (31, some 2)] (by kernel_rfl) (by kernel_rfl) (by intro c d v a w h; cases d <;> exact h) B0 (by
    repeat' (first | exact steps_nil | refine steps_cons ?_ ?_)
    all_goals
      intro v w1 w2 hR h
      first
        | exact h
        | (obtain ⟨b, e, k⟩ := h; exact ⟨b, e, k.later hR⟩)) ?_
  repeat (first
    | (refine wpMix_take (v := ?_) rfl ?_ ?_ ?_; rotate_left; rfl; (· intro w' hSw; (try dsimp only at hSw); go_simp <;> with_reducible rfl); simp only [Act.put, List.setIfInBounds_toArray, List.set_cons_zero, List.set_cons_succ])
    | (refine wpMix_skip rfl ?_ ?_; rfl; simp only [Act.put, List.setIfInBounds_toArray, List.set_cons_zero, List.set_cons_succ]))
  refine wpMix_nil ?_
  refine ⟨?_, fun y w1 hS hv => ?_⟩
  · refine steps_cons (step_list rfl (fun y w1 hS hd K hK => ?_)) ?_
    · simp only [putD, Act.put, List.setIfInBounds_toArray, List.set_cons_zero, List.set_cons_succ] at hK ⊢
      go_wp2_with fail
      exact hK.out _ _ (hS.trans ((below1 w1 _).mono hS.size)) (below1 w1 _) ⟨_, rfl, Blk.new w1 _⟩
    refine steps_cons (step_list rfl (fun y w1 hS hd K hK => ?_)) ?_
    · obtain ⟨b, e, k⟩ : ∃ b, y 2 = .slice (some ⟨b, 0, none⟩) 1 1 ∧ Blk w1 b (.cells #[.int .u8 x.cl] 5) := hd 2 (by kernel_rfl)
      have tx := own_text (l := [UInt8.ofNat x.cl]) (by rw [← by8_one x.cl (by omega)]; exact own_one k (Nat.zero_le _))
      simp only [putD, Act.put, List.setIfInBounds_toArray, List.set_cons_zero, List.set_cons_succ, e] at hK ⊢
      clear k
      go_wp2_with fail
      exact hK.out _ _ hS (Below.refl _ _) rfl
    refine steps_cons (step_list rfl (fun y w1 hS hd K hK => ?_)) ?_
    · simp only [putD, Act.put, List.setIfInBounds_toArray, List.set_cons_zero, List.set_cons_succ] at hK ⊢
      go_wp2_with fail
      refine (rnum_any x.sq (by omega) w1).mono ?_
      rintro e w2 ⟨rfl, b2⟩
      go_wp2_with fail
      exact hK.out _ _ (hS.trans (b2.mono hS.size)) b2 rfl
    refine steps_cons (step_list rfl (fun y w1 hS hd K hK => ?_)) ?_
    · have e1 : y 3 = .string (bs ([UInt8.ofNat x.cl])) := hd 3 (by kernel_rfl)
      have e2 : y 7 = .string (bs (numB x.sq)) := hd 7 (by kernel_rfl)
      simp only [putD, Act.put, List.setIfInBounds_toArray, List.set_cons_zero, List.set_cons_succ, e1, e2] at hK ⊢
      clear hd e1 e2
      have hl := L8.out
      have hc : bs ([UInt8.ofNat x.cl]) ++ bs (numB x.sq) = bs (P1 x) := by rw [bs_append, E8.out]
      have za := bs_size ([UInt8.ofNat x.cl])
      have zb := bs_size (numB x.sq)
      generalize [UInt8.ofNat x.cl] = l1 at *
      generalize numB x.sq = l2 at *
      have hs1 : ¬ 9223372036854775807 < l1.length + l2.length := by omega
      have hs2 : ¬ 9223372036854775807 < (l1.length : Int) + (l2.length : Int) := by omega
      go_wp2_with fail
      exact hK.out _ _ hS (Below.refl _ _) rfl
    refine steps_cons (step_list rfl (fun y w1 hS hd K hK => ?_)) ?_
    · simp only [putD, Act.put, List.setIfInBounds_toArray, List.set_cons_zero, List.set_cons_succ] at hK ⊢
      go_wp2_with fail
      exact hK.out _ _ (hS.trans ((below1 w1 _).mono hS.size)) (below1 w1 _) ⟨_, rfl, Blk.new w1 _⟩
    refine steps_cons (step_list rfl (fun y w1 hS hd K hK => ?_)) ?_
    · obtain ⟨b, e, k⟩ : ∃ b, y 11 = .slice (some ⟨b, 0, none⟩) 1 1 ∧ Blk w1 b (.cells #[.int .u8 x.kd] 5) := hd 11 (by kernel_rfl)
      have tx := own_text (l := [UInt8.ofNat x.kd]) (by rw [← by8_one x.kd (by omega)]; exact own_one k (Nat.zero_le _))
      simp only [putD, Act.put, List.setIfInBounds_toArray, List.set_cons_zero, List.set_cons_succ, e] at hK ⊢
      clear k
      go_wp2_with fail
      exact hK.out _ _ hS (Below.refl _ _) rfl
    refine steps_cons (step_list rfl (fun y w1 hS hd K hK => ?_)) ?_
    · have e1 : y 8 = .string (bs (P1 x)) := hd 8 (by kernel_rfl)
      have e2 : y 12 = .string (bs ([UInt8.ofNat x.kd])) := hd 12 (by kernel_rfl)
      simp only [putD, Act.put, List.setIfInBounds_toArray, List.set_cons_zero, List.set_cons_succ, e1, e2] at hK ⊢
      clear hd e1 e2
      have hl := L13.out
      have hc : bs (P1 x) ++ bs ([UInt8.ofNat x.kd]) = bs (P2 x) := by rw [bs_append, E13.out]
      have za := bs_size (P1 x)
      have zb := bs_size ([UInt8.ofNat x.kd])
      generalize P1 x = l1 at *
      generalize [UInt8.ofNat x.kd] = l2 at *
      have hs1 : ¬ 9223372036854775807 < l1.length + l2.length := by omega
      have hs2 : ¬ 9223372036854775807 < (l1.length : Int) + (l2.length : Int) := by omega
      go_wp2_with fail
      exact hK.out _ _ hS (Below.refl _ _) rfl
    refine steps_cons (step_list rfl (fun y w1 hS hd K hK => ?_)) ?_
    · simp only [putD, Act.put, List.setIfInBounds_toArray, List.set_cons_zero, List.set_cons_succ] at hK ⊢
      go_wp2_with fail
      refine (rstr_any x.key.data.toList zk w1).mono ?_
      rintro e w2 ⟨rfl, b2⟩
      go_wp2_with fail
      exact hK.out _ _ (hS.trans (b2.mono hS.size)) b2 rfl
    refine steps_cons (step_list rfl (fun y w1 hS hd K hK => ?_)) ?_
    · have e1 : y 13 = .string (bs (P2 x)) := hd 13 (by kernel_rfl)
      have e2 : y 16 = .string (bs (strB x.key.data.toList)) := hd 16 (by kernel_rfl)
      simp only [putD, Act.put, List.setIfInBounds_toArray, List.set_cons_zero, List.set_cons_succ, e1, e2] at hK ⊢
      clear hd e1 e2
      have hl := L17.out
      have hc : bs (P2 x) ++ bs (strB x.key.data.toList) = bs (P3 x) := by rw [bs_append, E17.out]
      have za := bs_size (P2 x)
      have zb := bs_size (strB x.key.data.toList)
      generalize P2 x = l1 at *
      generalize strB x.key.data.toList = l2 at *
      have hs1 : ¬ 9223372036854775807 < l1.length + l2.length := by omega
      have hs2 : ¬ 9223372036854775807 < (l1.length : Int) + (l2.length : Int) := by omega
      go_wp2_with fail
      exact hK.out _ _ hS (Below.refl _ _) rfl
    refine steps_cons (step_list rfl (fun y w1 hS hd K hK => ?_)) ?_
    · simp only [putD, Act.put, List.setIfInBounds_toArray, List.set_cons_zero, List.set_cons_succ] at hK ⊢
      go_wp2_with fail
      refine (rstr_any x.old.data.toList zo w1).mono ?_
      rintro e w2 ⟨rfl, b2⟩
      go_wp2_with fail
      exact hK.out _ _ (hS.trans (b2.mono hS.size)) b2 rfl
    refine steps_cons (step_list rfl (fun y w1 hS hd K hK => ?_)) ?_
    · have e1 : y 17 = .string (bs (P3 x)) := hd 17 (by kernel_rfl)
      have e2 : y 20 = .string (bs (strB x.old.data.toList)) := hd 20 (by kernel_rfl)
      simp only [putD, Act.put, List.setIfInBounds_toArray, List.set_cons_zero, List.set_cons_succ, e1, e2] at hK ⊢
      clear hd e1 e2
      have hl := L21.out
      have hc : bs (P3 x) ++ bs (strB x.old.data.toList) = bs (P4 x) := by rw [bs_append, E21.out]
      have za := bs_size (P3 x)
      have zb := bs_size (strB x.old.data.toList)
      generalize P3 x = l1 at *
      generalize strB x.old.data.toList = l2 at *
      have hs1 : ¬ 9223372036854775807 < l1.length + l2.length := by omega
      have hs2 : ¬ 9223372036854775807 < (l1.length : Int) + (l2.length : Int) := by omega
      go_wp2_with fail
      exact hK.out _ _ hS (Below.refl _ _) rfl
    refine steps_cons (step_list rfl (fun y w1 hS hd K hK => ?_)) ?_
    · simp only [putD, Act.put, List.setIfInBounds_toArray, List.set_cons_zero, List.set_cons_succ] at hK ⊢
      go_wp2_with fail
      refine (rstr_any x.new.data.toList zn w1).mono ?_
      rintro e w2 ⟨rfl, b2⟩
      go_wp2_with fail
      exact hK.out _ _ (hS.trans (b2.mono hS.size)) b2 rfl
    refine steps_cons (step_list rfl (fun y w1 hS hd K hK => ?_)) ?_
    · have e1 : y 21 = .string (bs (P4 x)) := hd 21 (by kernel_rfl)
      have e2 : y 24 = .string (bs (strB x.new.data.toList)) := hd 24 (by kernel_rfl)
      simp only [putD, Act.put, List.setIfInBounds_toArray, List.set_cons_zero, List.set_cons_succ, e1, e2] at hK ⊢
      clear hd e1 e2
      have hl := L25.out
      have hc : bs (P4 x) ++ bs (strB x.new.data.toList) = bs (P5 x) := by rw [bs_append, E25.out]
      have za := bs_size (P4 x)
      have zb := bs_size (strB x.new.data.toList)
      generalize P4 x = l1 at *
      generalize strB x.new.data.toList = l2 at *
      have hs1 : ¬ 9223372036854775807 < l1.length + l2.length := by omega
      have hs2 : ¬ 9223372036854775807 < (l1.length : Int) + (l2.length : Int) := by omega
      go_wp2_with fail
      exact hK.out _ _ hS (Below.refl _ _) rfl
    refine steps_cons (step_list rfl (fun y w1 hS hd K hK => ?_)) ?_
    · simp only [putD, Act.put, List.setIfInBounds_toArray, List.set_cons_zero, List.set_cons_succ] at hK ⊢
      go_wp2_with fail
      exact hK.out _ _ (hS.trans ((below1 w1 _).mono hS.size)) (below1 w1 _) ⟨_, rfl, Blk.new w1 _⟩
    refine steps_cons (step_list rfl (fun y w1 hS hd K hK => ?_)) ?_
    · obtain ⟨b, e, k⟩ : ∃ b, y 28 = .slice (some ⟨b, 0, none⟩) 1 1 ∧ Blk w1 b (.cells #[.int .u8 x.set] 5) := hd 28 (by kernel_rfl)
      have tx := own_text (l := [UInt8.ofNat x.set]) (by rw [← by8_one x.set (by omega)]; exact own_one k (Nat.zero_le _))
      simp only [putD, Act.put, List.setIfInBounds_toArray, List.set_cons_zero, List.set_cons_succ, e] at hK ⊢
      clear k
      go_wp2_with fail
      exact hK.out _ _ hS (Below.refl _ _) rfl
    refine steps_cons (step_list rfl (fun y w1 hS hd K hK => ?_)) ?_
    · have e1 : y 25 = .string (bs (P5 x)) := hd 25 (by kernel_rfl)
      have e2 : y 29 = .string (bs ([UInt8.ofNat x.set])) := hd 29 (by kernel_rfl)
      simp only [putD, Act.put, List.setIfInBounds_toArray, List.set_cons_zero, List.set_cons_succ, e1, e2] at hK ⊢
      clear hd e1 e2
      have hl := L30.out
      have hc : bs (P5 x) ++ bs ([UInt8.ofNat x.set]) = bs (x.bytes) := by rw [bs_append, E30.out]
      have za := bs_size (P5 x)
      have zb := bs_size ([UInt8.ofNat x.set])
      generalize P5 x = l1 at *
      generalize [UInt8.ofNat x.set] = l2 at *
      have hs1 : ¬ 9223372036854775807 < l1.length + l2.length := by omega
      have hs2 : ¬ 9223372036854775807 < (l1.length : Int) + (l2.length : Int) := by omega
      go_wp2_with fail
      exact hK.out _ _ hS (Below.refl _ _) rfl
    refine steps_cons (step_list rfl (fun y w1 hS hd K hK => ?_)) ?_
    · have e1 : y 30 = .string (bs x.bytes) := hd 30 (by kernel_rfl)
      simp only [putD, Act.put, List.setIfInBounds_toArray, List.set_cons_zero, List.set_cons_succ, e1] at hK ⊢
      go_wp2_with fail
      exact hK.out _ _ hS (Below.refl _ _) rfl
    exact steps_nil
  · have e1 : y 31 = .string (bs x.bytes) := hv 31 (by decide)
    simp only [putD, Act.put, List.setIfInBounds_toArray, List.set_cons_zero, List.set_cons_succ, e1]
    clear hv e1
    go_wp2
    go_ret
    exact ⟨rfl, Below.later' b0 hS⟩
end Cm
end Go.Proofs.Ytdjddbidhaeekaa
