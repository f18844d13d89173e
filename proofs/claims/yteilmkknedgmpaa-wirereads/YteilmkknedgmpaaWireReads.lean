/-
  Seat 01: the law WireReads, walked.
-/
import Derived.Deep.DeepCutAuto
import Derived.OpenShut
import Derived.Test.YteilmkknedgmpaaWireAsked
import Derived.Test.YteilmkknedgmpaaElem
namespace Go.Proofs.Yteilmkknedgmpaa
open Go.RowKit Go.WideShapes
namespace Wire
theorem takeR_fine (s : R) (n : Nat) (h : s.fine) : (takeR s n).2.fine := by
  unfold takeR; split
  · exact h
  · split
    · exact fun _ => rfl
    · exact fun h => absurd rfl h
theorem byteR_fine (s : R) (h : s.fine) : (byteR s).2.fine := takeR_fine s 1 h
theorem numR_fine (s : R) (h : s.fine) : (numR s).2.fine := by
  unfold numR; split
  · exact byteR_fine s h
  · split
    · exact fun _ => rfl
    · exact takeR_fine _ _ (byteR_fine s h)
theorem belR_fine (s : R) (x m : Nat) (h : s.fine) : (belR s x m).2.fine := by
  unfold belR; split
  · exact h
  · split
    · exact fun _ => rfl
    · exact h
theorem strR_fine (s : R) (m : Nat) (h : s.fine) : (strR s m).2.fine := takeR_fine _ _ (belR_fine _ _ _ (numR_fine s h))
theorem belowR_fine (s : R) (n : Nat) (h : s.fine) : (belowR s n).2.fine := by
  unfold belowR; split
  · exact numR_fine s h
  · split
    · exact numR_fine s h
    · exact fun _ => rfl
theorem badR_fine (s : R) (h : s.fine) : (badR s).fine := by
  unfold badR; split
  · exact fun _ => rfl
  · exact h
theorem endR_fine (s : R) (h : s.fine) : (endR s).fine := by
  unfold endR; split
  · exact fun _ => rfl
  · exact h
theorem strR_len (s : R) (m : Nat) : (strR s m).2.rest.length ≤ s.rest.length := Nat.le_trans (takeR_len _ _) (Nat.le_trans (belR_len _ _ _) (numR_len s))
theorem belowR_len (s : R) (n : Nat) : (belowR s n).2.rest.length ≤ s.rest.length := by
  unfold belowR; split
  · exact numR_len s
  · split
    · exact numR_len s
    · simp
theorem askR_keeps (s : R) (d n : Nat) (m : Int) (h : s.fine) : (askR s d n m).fine ∧ (askR s d n m).rest.length ≤ s.rest.length := by
  unfold askR
  by_cases h0 : d = 0
  · rw [if_pos h0]; exact ⟨numR_fine s h, numR_len s⟩
  rw [if_neg h0]
  by_cases h1 : d = 1
  · rw [if_pos h1]; exact ⟨byteR_fine s h, byteR_len s⟩
  rw [if_neg h1]
  by_cases h2 : d = 2
  · rw [if_pos h2]; exact ⟨strR_fine s _ h, strR_len s _⟩
  rw [if_neg h2]
  by_cases h3 : d = 3
  · rw [if_pos h3]; exact ⟨belowR_fine s n h, belowR_len s n⟩
  rw [if_neg h3]
  by_cases h4 : d = 4
  · rw [if_pos h4]; exact ⟨badR_fine s h, by unfold badR; split <;> simp⟩
  rw [if_neg h4]; exact ⟨endR_fine s h, by unfold endR; split <;> simp⟩
structure Ask where
  d : Nat
  n : Nat
  m : Int
def Ask.ok (x : Ask) : Prop := x.d < 256 ∧ x.n < 18446744073709551616 ∧ x.m < 9223372036854775808
def askV (x : Ask) : List Value := [.int .u8 x.d, .int .u64 x.n, .int .i64 x.m]
theorem askV_len (x : Ask) : (askV x).length = 3 := rfl
set_option maxRecDepth 100000 in
set_option maxHeartbeats 4000000 in
theorem reads_walk (s : List UInt8) (v : Value) (l : List Ask) (w : World) (hv : RdT askV w v l) (hok : ∀ x ∈ l, x.ok) (hs : ¬ 4000 < s.length) (hlen : ¬ 60 < l.length) :
    Calls Try.prog 7 #[.string (bs s), v] w fun e w' => e = .returned (.bool true) ∧ Below w.heap.size w w' := by
  have HV := Lib.hid hv
  obtain ⟨p, cap, rfl, _⟩ := hv.len
  clear hv
  have hz := bs_size s
  have d0 : decide (4000 < s.length) = false := decide_eq_false hs
  have d0' : decide ((4000 : Int) < (s.length : Int)) = false := decide_eq_false (by omega)
  have d1 : decide (60 < l.length) = false := decide_eq_false hlen
  have d1' : decide ((60 : Int) < (l.length : Int)) = false := decide_eq_false (by omega)
  have HOK := Lib.hid hok
  clear hok
  go_enter Try.func7, Try.ntmps7
  go_wp2_with fail
  refine (of_any s w).mono ?_
  rintro e w1 ⟨b, rfl, hb, hB1, hr1⟩
  go_wp2_with fail
  have kN := Blk.new w1 (.cells #[.string (bs s), .int .i64 0] 45)
  have hr2 : Rdr (w1.alloc (.cells #[.string (bs s), .int .i64 0] 45)) b ⟨s, 0⟩ := Blk.alloc hr1 _
  have hbn := Blk.lt hr1
  have hB2 : Below w.heap.size w (w1.alloc (.cells #[.string (bs s), .int .i64 0] 45)) := hB1.alloc hB1.size _
  generalize w1.alloc (.cells #[.string (bs s), .int .i64 0] 45) = W at *
  obtain ⟨n6, hn6⟩ : ∃ n6, w1.heap.size = n6 := ⟨_, rfl⟩
  rw [hn6] at kN hbn ⊢
  clear hn6 hr1 hB1
  go_loopw [7] (fun i wr => ∃ (k : Nat) (st : R), k ≤ l.length ∧ i = .int .i64 k ∧ st.fine ∧ st.rest.length ≤ 4000 ∧ Rdr wr b st ∧ Blk wr n6 (.cells #[.string (bs st.rest), .int .i64 st.e] 45) ∧ Below w.heap.size w wr) (fun i _ => l.length - (intOf i).toNat)
  case atStart => exact ⟨0, ⟨s, 0⟩, Nat.zero_le _, rfl, fun h => absurd rfl h, by simp only []; omega, hr2, kN, hB2⟩
  case round =>
    clear hr2 kN hB2
    obtain ⟨k, st, hk, rfl, hf, hsl, hr, kN, hB⟩ := hrel
    by_cases hlt : k < l.length
    · have hd : decide ((k : Int) < (l.length : Int)) = true := by simp; omega
      have hd' : decide (k < l.length) = true := by simp; omega
      obtain ⟨lb, off, rfl, _⟩ := HV.out.at 3 (by decide) askV_len k hlt
      have g : ∀ w', Below w.heap.size w w' → ∀ j, j < 3 → w'.cell? ⟨lb, off + k * 3 + j, none⟩ = (askV l[k])[j]? := fun w' hb' => by
        obtain ⟨b', off', e, h⟩ := (HV.out.below hb' (Nat.le_refl _)).at 3 (by decide) askV_len k hlt
        cases e; exact h
      have hx := HOK.out l[k] (List.getElem_mem hlt)
      generalize l[k] = x at g hx
      have g0 := fun w' hb' => g w' hb' 0 (by decide)
      have g1 := fun w' hb' => g w' hb' 1 (by decide)
      have g2 := fun w' hb' => g w' hb' 2 (by decide)
      simp only [askV, Nat.add_zero] at g0 g1 g2
      clear g
      obtain ⟨hx1, hx2, hx3⟩ := hx
      go_upto_region 8 with (fail)
      have hkeep := askR_keeps st x.d x.n x.m hf
      have HA := Lib.hid (fun w h => asked_any b st hf x.d x.n hx2 x.m hx3 w h (by omega))
      obtain ⟨s1, hs1⟩ : ∃ s1, askR st x.d x.n x.m = s1 := ⟨_, rfl⟩
      rw [hs1] at hkeep HA
      clear hs1 hx1 hx2 hx3
      have hcN : ∀ w', Blk w' n6 (.cells #[.string (bs st.rest), .int .i64 st.e] 45) → w'.cell? ⟨n6, 0, none⟩ = some (.string (bs st.rest)) ∧ w'.cell? ⟨n6, 1, none⟩ = some (.int .i64 st.e) := fun w' k => ⟨k.cell 0, k.cell 1⟩
      have HN := Lib.hid hcN
      clear hcN
      go_cut [8, 9] (fun s8 s9 wx => ∃ n9, s8 = .bool true ∧ s9 = .pointer (some ⟨n9, 0, none⟩) ∧ n6 < n9 ∧ Blk wx n9 (.cells #[.string (bs s1.rest), .int .i64 s1.e] 45) ∧ Blk wx n6 (.cells #[.string (bs st.rest), .int .i64 st.e] 45) ∧ Rdr wx b s1 ∧ Below w.heap.size w wx)
      case first =>
        have hn6 := kN.lt
        have hW := hB.size
        refine wp_region_way (fun w' => (w'.cell? ⟨n6, 0, none⟩ = some (.string (bs st.rest)) ∧ w'.cell? ⟨n6, 1, none⟩ = some (.int .i64 st.e)) ∧ Below w.heap.size w w') (.go 0 (.go 1 (.go 2 (.go 3 (.go 4 (.go 5 (.two 6 10 (.go 7 (.go 8 (.go 9 (.go 10 (.go 11 (.go 12 .nil)))))) (.go 6 (.go 7 (.go 8 (.go 9 (.go 11 (.go 12 .nil))))))))))))) [6, 10, 12] (by kernel_rfl) (by kernel_rfl) (by intro c d v a w h; cases d <;> exact h) ⟨HN.out _ kN.drew, hB.drew⟩ ?_
        repeat (first
          | (refine wpWay_take (v := ?_) rfl rfl ?_ ?_ ?_; rotate_left; rfl; (· intro w' hSw; (try dsimp only at hSw); go_simp <;> with_reducible rfl); simp only [Act.put, List.setIfInBounds_toArray, List.set_cons_zero, List.set_cons_succ])
          | (refine wpWay_skip rfl rfl ?_ ?_; rfl; simp only [Act.put, List.setIfInBounds_toArray, List.set_cons_zero, List.set_cons_succ]))
        refine wpWay_two rfl rfl (fun K hK => ?_) (fun K hK => ?_)
        · go_wp2_with fail
          refine (HA.out _ (Blk.drew hr)).mono ?_
          rintro e wa ⟨rfl, ga, hra⟩
          have kNa := Blk.grown kN.drew ga (by simp; omega)
          have hBa := Below.grew hB.drew ga (by simp; omega) hb
          have hza := hBa.size
          have hna := kNa.lt
          go_wp2_with fail
          refine hK.out _ _ ⟨HN.out _ kNa, hBa⟩ ?_
          clear hK K
          unfold rv
          repeat (first
            | (refine wpWay_take (v := ?_) rfl rfl ?_ ?_ ?_; rotate_left; rfl; (· intro w' hSw; (try dsimp only at hSw); go_simp <;> with_reducible rfl); simp only [Act.put, List.setIfInBounds_toArray, List.set_cons_zero, List.set_cons_succ])
            | (refine wpWay_skip rfl rfl ?_ ?_; rfl; simp only [Act.put, List.setIfInBounds_toArray, List.set_cons_zero, List.set_cons_succ]))
          refine wpWay_eff rfl rfl (fun K hK => ?_)
          go_wp2_with fail
          refine hK.out _ _ ⟨HN.out _ (kNa.alloc _), hBa.alloc hza _⟩ ?_
          clear hK K
          repeat (first
            | (refine wpWay_take (v := ?_) rfl rfl ?_ ?_ ?_; rotate_left; rfl; (· intro w' hSw; (try dsimp only at hSw); go_simp <;> with_reducible rfl); simp only [Act.put, List.setIfInBounds_toArray, List.set_cons_zero, List.set_cons_succ])
            | (refine wpWay_skip rfl rfl ?_ ?_; rfl; simp only [Act.put, List.setIfInBounds_toArray, List.set_cons_zero, List.set_cons_succ]))
          refine wpWay_eff rfl rfl (fun K hK => ?_)
          go_wp2_with fail
          refine hK.out _ _ ⟨HN.out _ (kNa.alloc _), hBa.alloc hza _⟩ ?_
          clear hK K
          refine wpWay_nil ?_
          go_wp2_with fail
          go_meet
          exact ⟨_, rfl, rfl, by omega, Blk.new _ _, kNa.alloc _, Blk.alloc hra _, hBa.alloc hza _⟩
        · go_wp2_with fail
          refine hK.out _ _ ⟨HN.out _ (kN.alloc _).drew, (hB.alloc hW _).drew⟩ ?_
          clear hK K
          repeat (first
            | (refine wpWay_take (v := ?_) rfl rfl ?_ ?_ ?_; rotate_left; rfl; (· intro w' hSw; (try dsimp only at hSw); go_simp <;> with_reducible rfl); simp only [Act.put, List.setIfInBounds_toArray, List.set_cons_zero, List.set_cons_succ])
            | (refine wpWay_skip rfl rfl ?_ ?_; rfl; simp only [Act.put, List.setIfInBounds_toArray, List.set_cons_zero, List.set_cons_succ]))
          refine wpWay_eff rfl rfl (fun K hK => ?_)
          go_wp2_with fail
          refine (HA.out _ (Blk.drew (Blk.alloc hr _))).mono ?_
          rintro e wa ⟨rfl, ga, hra⟩
          have kNa := Blk.grown (kN.alloc _).drew ga (by simp; omega)
          have kZa := Blk.grown (b := wr.heap.size) (Blk.drew (Blk.new wr _)) ga (by have := Blk.lt hr; simp; omega)
          have hBa := Below.grew (hB.alloc hW _).drew ga (by simp; omega) hb
          have hza := hBa.size
          have hlz := kZa.lt
          go_wp2_with fail
          refine hK.out _ _ ⟨HN.out _ kNa, hBa⟩ ?_
          clear hK K
          unfold rv
          repeat (first
            | (refine wpWay_take (v := ?_) rfl rfl ?_ ?_ ?_; rotate_left; rfl; (· intro w' hSw; (try dsimp only at hSw); go_simp <;> with_reducible rfl); simp only [Act.put, List.setIfInBounds_toArray, List.set_cons_zero, List.set_cons_succ])
            | (refine wpWay_skip rfl rfl ?_ ?_; rfl; simp only [Act.put, List.setIfInBounds_toArray, List.set_cons_zero, List.set_cons_succ]))
          refine wpWay_eff rfl rfl (fun K hK => ?_)
          have c0 : wa.cell? ⟨wr.heap.size, 0, none⟩ = some (.string ⟨#[]⟩) := kZa.cell 0
          have c1 : wa.cell? ⟨wr.heap.size, 1, none⟩ = some (.int .i64 0) := kZa.cell 1
          have f0 := kZa.frozen 0
          have f1 := kZa.frozen 1
          go_wp2_with fail
          have kNb := (kNa.other (a := ⟨wr.heap.size, 0, none⟩) (by simp; omega) (.string (bs s1.rest))).other (a := ⟨wr.heap.size, 1, none⟩) (by simp; omega) (.int .i64 s1.e)
          have hBb := (hBa.setCell (p := ⟨wr.heap.size, 0, none⟩) (by simpa using hW) (.string (bs s1.rest))).setCell (p := ⟨wr.heap.size, 1, none⟩) (by simpa using hW) (.int .i64 s1.e)
          refine hK.out _ _ ⟨HN.out _ kNb, hBb⟩ ?_
          clear hK K
          refine wpWay_nil ?_
          go_wp2_with fail
          go_meet
          exact ⟨_, rfl, rfl, hn6, Blk.set (Blk.set kZa 0 _) 1 _, kNb, Blk.other (Blk.other hra (a := ⟨wr.heap.size, 0, none⟩) (by have := Blk.lt hr; simp; omega) _) (a := ⟨wr.heap.size, 1, none⟩) (by have := Blk.lt hr; simp; omega) _, hBb⟩
      case rest =>
        obtain ⟨n9, rfl, rfl, h69, k9, k6, hr9, hB9⟩ := hcut
        have c0 := k6.cell 0
        have c1 := k6.cell 1
        have f0 := k6.frozen 0
        have f1 := k6.frozen 1
        have e0 := k9.cell 0
        have e1 := k9.cell 1
        have hl6 := k6.lt
        have hn6w : w.heap.size ≤ n6 := by omega
        clear hr kN hB g0 g1 g2 HA
        go_upto_region 10 with (fail)
        have k6' := Blk.set (Blk.set k6 0 (.string (bs s1.rest))) 1 (.int .i64 s1.e)
        have hr' := Blk.other (Blk.other hr9 (a := ⟨n6, 0, none⟩) (by simp; omega) (.string (bs s1.rest))) (a := ⟨n6, 1, none⟩) (by simp; omega) (.int .i64 s1.e)
        have hB' := (hB9.setCell (p := ⟨n6, 0, none⟩) (by simpa using hn6w) (.string (bs s1.rest))).setCell (p := ⟨n6, 1, none⟩) (by simpa using hn6w) (.int .i64 s1.e)
        clear c0 c1 f0 f1 e0 e1 k9 k6 hr9 hB9
        generalize (wc.setCell ⟨n6, 0, none⟩ (.string (bs s1.rest))).setCell ⟨n6, 1, none⟩ (.int .i64 s1.e) = W2 at *
        have hz2 := bs_size s1.rest
        have hcN2 : ∀ w', Blk w' n6 (.cells #[.string (bs s1.rest), .int .i64 s1.e] 45) → w'.cell? ⟨n6, 0, none⟩ = some (.string (bs s1.rest)) ∧ w'.cell? ⟨n6, 1, none⟩ = some (.int .i64 s1.e) := fun w' k => ⟨k.cell 0, k.cell 1⟩
        have HN2 := Lib.hid hcN2
        clear hcN2
        have t1 : ((s1.e : Int) != s1.e) = false := by simp
        have t2 : ((s1.rest.length : Int) != s1.rest.length) = false := by simp
        refine wp_region_ord (fun w' => w'.cell? ⟨n6, 0, none⟩ = some (.string (bs s1.rest)) ∧ w'.cell? ⟨n6, 1, none⟩ = some (.int .i64 s1.e)) (0 :: 1 :: 2 :: 3 :: 5 :: 6 :: 4 :: 7 :: 8 :: 9 :: 10 :: 12 :: 13 :: 14 :: 11 :: 15 :: 16 :: []) [4, 11] (by kernel_rfl) (by kernel_rfl) (by intro c d v a w h; cases d <;> exact h) (HN2.out _ (Blk.drew k6')) ?_
        repeat (first
          | (refine wpOrd_take (v := ?_) rfl rfl ?_ ?_ ?_; rotate_left; rfl; (· intro w' hSw; (try dsimp only at hSw); go_simp <;> with_reducible rfl); simp only [Act.put, List.setIfInBounds_toArray, List.set_cons_zero, List.set_cons_succ])
          | (refine wpOrd_skip rfl rfl ?_ ?_; rfl; simp only [Act.put, List.setIfInBounds_toArray, List.set_cons_zero, List.set_cons_succ]))
        refine wpOrd_eff rfl rfl (fun K hK => ?_)
        go_wp2_with fail
        refine (err_of b _ _ (Blk.drew hr')).mono ?_
        rintro e w' ⟨rfl, rfl⟩
        go_wp2_with fail
        refine hK.out _ _ (HN2.out _ (Blk.drew k6')) ?_
        clear hK K
        repeat (first
          | (refine wpOrd_take (v := ?_) rfl rfl ?_ ?_ ?_; rotate_left; rfl; (· intro w' hSw; (try dsimp only at hSw); go_simp <;> with_reducible rfl); simp only [Act.put, List.setIfInBounds_toArray, List.set_cons_zero, List.set_cons_succ])
          | (refine wpOrd_skip rfl rfl ?_ ?_; rfl; simp only [Act.put, List.setIfInBounds_toArray, List.set_cons_zero, List.set_cons_succ]))
        refine wpOrd_eff rfl rfl (fun K hK => ?_)
        go_wp2_with fail
        refine (left_of b _ _ (Blk.drew hr')).mono ?_
        rintro e w' ⟨rfl, rfl⟩
        go_wp2_with fail
        refine hK.out _ _ (HN2.out _ (Blk.drew k6')) ?_
        clear hK K
        repeat (first
          | (refine wpOrd_take (v := ?_) rfl rfl ?_ ?_ ?_; rotate_left; rfl; (· intro w' hSw; (try dsimp only at hSw); go_simp <;> with_reducible rfl); simp only [Act.put, List.setIfInBounds_toArray, List.set_cons_zero, List.set_cons_succ])
          | (refine wpOrd_skip rfl rfl ?_ ?_; rfl; simp only [Act.put, List.setIfInBounds_toArray, List.set_cons_zero, List.set_cons_succ]))
        refine wpOrd_nil ?_
        go_wp2
        go_roundw
        case rel => exact ⟨k + 1, s1, by omega, by go_num, hkeep.1, by omega, Blk.drew hr', Blk.drew k6', hB'.drew⟩
        case measure => simp [intOf]; omega
    · have hd : decide ((k : Int) < (l.length : Int)) = false := decide_eq_false (by omega)
      have hd' : decide (k < l.length) = false := decide_eq_false (by omega)
      have hcN2 : ∀ w', Blk w' n6 (.cells #[.string (bs st.rest), .int .i64 st.e] 45) → w'.cell? ⟨n6, 0, none⟩ = some (.string (bs st.rest)) ∧ w'.cell? ⟨n6, 1, none⟩ = some (.int .i64 st.e) := fun w' k => ⟨k.cell 0, k.cell 1⟩
      have HN2 := Lib.hid hcN2
      have HE := Lib.hid (fun w h => end_of b st w h)
      have HD := Lib.hid (fun w => dend_any st hf w)
      obtain ⟨s1, hs1⟩ : ∃ s1, endR st = s1 := ⟨_, rfl⟩
      rw [hs1] at HE HD
      clear hcN2 hs1
      have t1 : ((s1.e : Int) == s1.e) = true := by simp
      have hfd : ∀ w, (Instr.field 45 (.agg #[.string (bs s1.rest), .int .i64 s1.e]) 1).run Try.prog w = .ok (.int .i64 s1.e) w := fun _ => by kernel_rfl
      have hn6w : w.heap.size ≤ n6 := by omega
      go_wp2_with fail
      refine wp_region_ord (fun w' => w'.cell? ⟨n6, 0, none⟩ = some (.string (bs st.rest)) ∧ w'.cell? ⟨n6, 1, none⟩ = some (.int .i64 st.e)) (0 :: 2 :: 1 :: 3 :: 4 :: 5 :: 6 :: 7 :: 8 :: 9 :: []) [1, 3, 7] (by kernel_rfl) (by kernel_rfl) (by intro c d v a w h; cases d <;> exact h) (HN2.out _ kN.drew) ?_
      repeat (first
        | (refine wpOrd_take (v := ?_) rfl rfl ?_ ?_ ?_; rotate_left; rfl; (· intro w' hSw; (try dsimp only at hSw); go_simp <;> with_reducible rfl); simp only [Act.put, List.setIfInBounds_toArray, List.set_cons_zero, List.set_cons_succ])
        | (refine wpOrd_skip rfl rfl ?_ ?_; rfl; simp only [Act.put, List.setIfInBounds_toArray, List.set_cons_zero, List.set_cons_succ]))
      refine wpOrd_eff rfl rfl (fun K hK => ?_)
      go_wp2_with fail
      refine (HE.out _ (Blk.drew hr)).mono ?_
      rintro e wa ⟨rfl, ga, _⟩
      have kNa := Blk.grown kN.drew ga (by simp; omega)
      have hBa := Below.grew hB.drew ga (by have := hB.size; simp; omega) hb
      go_wp2_with fail
      refine hK.out _ _ (HN2.out _ kNa) ?_
      clear hK K
      repeat (first
        | (refine wpOrd_take (v := ?_) rfl rfl ?_ ?_ ?_; rotate_left; rfl; (· intro w' hSw; (try dsimp only at hSw); go_simp <;> with_reducible rfl); simp only [Act.put, List.setIfInBounds_toArray, List.set_cons_zero, List.set_cons_succ])
        | (refine wpOrd_skip rfl rfl ?_ ?_; rfl; simp only [Act.put, List.setIfInBounds_toArray, List.set_cons_zero, List.set_cons_succ]))
      refine wpOrd_eff rfl rfl (fun K hK => ?_)
      go_wp2_with fail
      refine (HD.out _).mono ?_
      rintro e wb ⟨rfl, bb⟩
      have kNb := kNa.later bb
      have hBb := Below.later' hBa bb
      go_wp2_with fail
      refine hK.out _ _ (HN2.out _ kNb) ?_
      clear hK K
      unfold rv
      repeat (first
        | (refine wpOrd_take (v := ?_) rfl rfl ?_ ?_ ?_; rotate_left; rfl; (· intro w' hSw; (try dsimp only at hSw); go_simp <;> with_reducible rfl); simp only [Act.put, List.setIfInBounds_toArray, List.set_cons_zero, List.set_cons_succ])
        | (refine wpOrd_skip rfl rfl ?_ ?_; rfl; simp only [Act.put, List.setIfInBounds_toArray, List.set_cons_zero, List.set_cons_succ]))
      refine wpOrd_eff rfl rfl (fun K hK => ?_)
      go_wp2_with fail
      refine (wakes_any _).mono ?_
      rintro e wd ⟨rfl, bd⟩
      have hBd := Below.later' hBb bd
      go_wp2_with fail
      refine hK.out _ _ (HN2.out _ (kNb.later bd)) ?_
      clear hK K
      repeat (first
        | (refine wpOrd_take (v := ?_) rfl rfl ?_ ?_ ?_; rotate_left; rfl; (· intro w' hSw; (try dsimp only at hSw); go_simp <;> with_reducible rfl); simp only [Act.put, List.setIfInBounds_toArray, List.set_cons_zero, List.set_cons_succ])
        | (refine wpOrd_skip rfl rfl ?_ ?_; rfl; simp only [Act.put, List.setIfInBounds_toArray, List.set_cons_zero, List.set_cons_succ]))
      refine wpOrd_nil ?_
      go_wp2
      go_ret
      exact ⟨rfl, hBd⟩
set_option maxRecDepth 100000 in
theorem reads_short (s : List UInt8) (v : Value) (l : List Ask) (w : World) (hv : RdT askV w v l) (h : 4000 < s.length ∨ 60 < l.length) :
    Calls Try.prog 7 #[.string (bs s), v] w fun e w' => e = .returned (.bool true) ∧ Below w.heap.size w w' := by
  obtain ⟨p, cap, rfl, _⟩ := hv.len
  clear hv
  have hz := bs_size s
  by_cases h1 : 4000 < s.length
  · have d0 : decide (4000 < s.length) = true := decide_eq_true h1
    have d0' : decide ((4000 : Int) < (s.length : Int)) = true := decide_eq_true (by omega)
    clear h
    go_enter Try.func7, Try.ntmps7
    go_wp2_with fail
    refine (wakes_any w).mono ?_
    rintro e w1 ⟨rfl, hb⟩
    go_wp2
    go_ret
    exact ⟨rfl, hb⟩
  · have h2 : 60 < l.length := h.resolve_left h1
    have d0 : decide (4000 < s.length) = false := decide_eq_false h1
    have d0' : decide ((4000 : Int) < (s.length : Int)) = false := decide_eq_false (by omega)
    have d1 : decide (60 < l.length) = true := decide_eq_true h2
    have d1' : decide ((60 : Int) < (l.length : Int)) = true := decide_eq_true (by omega)
    clear h
    go_enter Try.func7, Try.ntmps7
    go_wp2_with fail
    refine (wakes_any w).mono ?_
    rintro e w1 ⟨rfl, hb⟩
    go_wp2
    go_ret
    exact ⟨rfl, hb⟩
theorem dec_ask (xs : List Value) (h : Fit [Leaf.int .u8, .int .u64, .int .i64] xs) : ∃ x, xs = askV x ∧ x.ok := by
  match xs, h with
  | [], h => exact h.elim
  | [_], h => exact h.2.elim
  | [_, _], h => exact h.2.2.elim
  | _ :: _ :: _ :: _ :: _, h => exact h.2.2.2.elim
  | [a, b, c], h =>
    obtain ⟨⟨x, rfl, h1⟩, ⟨y, rfl, h2⟩, ⟨z, rfl, h3⟩, _⟩ := h
    obtain ⟨a0, a1⟩ := bounds_u8 h1
    obtain ⟨b0, b1⟩ := bounds_u64 h2
    obtain ⟨c0, c1⟩ := bounds_i64 h3
    exact ⟨⟨x.toNat, y.toNat, z⟩, by simp [askV, Int.toNat_of_nonneg a0, Int.toNat_of_nonneg b0], by simp only []; omega, by simp only []; omega, by simp only []; omega⟩
theorem reads_open {H : Type} {enc : TypeId × Value → H} {base : Nat} {d : DataW H} {ps : List MemPlace} (s : ByteArray) (v : Value) (w : World) (_ : s.size ≤ maxLen)
    (hok : Value.okWide Try.prog w .any base 43 v) (ht : DataW.Trod enc Try.prog w 0 (fun _ => true) true 43 v d ps) :
    Calls Try.prog 7 #[.string s, v] w fun e w' => e = .returned (.bool true) ∧ Below w.heap.size w w' := by
  obtain ⟨l, hl, hx⟩ := open_rows 3 (ks := [Leaf.int .u8, .int .u64, .int .i64]) askV Ask.ok dec_ask Try.underlying43 (by kernel_rfl) (by kernel_rfl) hok ht
  rw [← bs_list s]
  by_cases h : 4000 < s.data.toList.length ∨ 60 < l.length
  · exact reads_short _ v l w hl h
  · exact reads_walk _ v l w hl hx (fun e => h (.inl e)) (fun e => h (.inr e))
end Wire
end Go.Proofs.Yteilmkknedgmpaa
