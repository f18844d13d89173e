/-
  The walks through a set's nodes and through a memory's nodes (two ranges over functions, one in the other): which list they tell.
-/
import Derived.Test.YthhgcfklaakndaaMemLists
import Derived.Test.YthhgcfklaakndaaSeq
import Derived.Test.YthhgcfklaakndaaSeqRow
import Derived.Test.YthhgcfklaakndaaAnyIn
namespace Go.Proofs.Ythhgcfklaakndaa
open Go.RowKit Go.Shelf
attribute [local go_sem] Oper.semAt_some
theorem yieldAt_any {m m' l' : Nat} {P : Program} {l : Nat} {args : Array Value} {W : World} {R : Ending → World → Prop} (h : YieldAt Fence.wide m P l args W R) : YieldAt (Fence.wide.inRound l') m' P l args W R := by
  obtain ⟨fn, tmps, assign, body, hy, hF, hR⟩ := h
  exact ⟨fn, tmps, assign, body, hy, hF, fun c cs _ => hR c cs (fun d hd => by cases hd)⟩
/-- A slice of somebody's own, where its block has not turned. -/
theorem ownsRow_same {W W' : World} {base : Nat} {e : TypeId} {size : Nat} {v : Value} {n : Nat} {xs : List Value} (h : W.ownsRow base e size v n xs) (hs : ∀ b, v.ownBlock = some b → W'.heap[b]? = W.heap[b]?) : W'.ownsRow base e size v n xs := by
  refine ⟨h.1, ?_⟩
  rcases h.2 with h2 | ⟨g, cap, cur, rfl, hb, hg, h3⟩
  · exact .inl h2
  · exact .inr ⟨g, cap, cur, rfl, hb, (hs g rfl).trans hg, h3⟩
namespace Thr
open Mem R8
def nv (x : Nat) : Array Value := #[.int .u8 (x : Int)]
theorem listN_next (r : Nat) (h : r < 128) (h0 : r ≠ 0) : Lib.trailingZeros8 r < 7 ∧ listN r = Lib.trailingZeros8 r :: listN (r &&& (r - 1)) := by
  obtain ⟨h1, h2⟩ := setL_next r h h0
  have h3 := congrArg (List.map (·.val)) h2
  rw [setL_val r (by omega), List.map_cons, setL_val _ (by have := next_lt r h0; omega)] at h3
  exact ⟨h1, h3⟩
theorem listN_zero : listN 0 = [] := by decide
theorem listN_mask (s : Nat) (h : s < 256) : listN (s &&& 127) = listN s := by
  have := and_lt s 127 (by decide)
  rw [← setL_val s h, ← setL_val _ this, setL_mask s h]
theorem listN_lt (s : Nat) : ∀ x ∈ listN s, x < 7 := listTo_lt s 7
set_option maxRecDepth 100000 in
set_option maxHeartbeats 1000000 in
theorem all_seq (n : Nat) (hn : 2 ≤ n) (Bn : Nat) (s : Nat) (hs : s < 256) (w0 : World) (hB : Blk w0 Bn (.cells #[.int .u8 (s : Int)] 28)) :
    Seq Fence.wide n Try.prog 34 #[.pointer (some ⟨Bn, 0, none⟩)] nv (fun b => b = Bn) (listN s) w0 := by
  intro l J Jx W hsz hdat hJ hJx hY h0
  have kW : Blk W Bn (.cells #[.int .u8 (s : Int)] 28) := (hdat Bn rfl).trans hB
  have hBZ : Bn < W.heap.size := kW.lt
  have cW := kW.cell 0
  have hn1 : 1 ≤ n := by omega
  have e1 : bits .and .u8 (s : Int) 127 = ((s &&& 127 : Nat) : Int) := u8_and_nat s 127 hs (by decide)
  have hm : s &&& 127 < 128 := Nat.and_lt_two_pow (n := 7) s (by decide)
  refine callsIn_of_wp Try.func34 rfl trivial ?_ rfl
  simp only [Try.ntmps34, List.size_toArray, List.length_cons, List.length_nil, Nat.reduceAdd, Nat.reduceSub, Array.replicate_succ, Array.replicate_zero, List.push_toArray, List.append_toArray, List.nil_append, List.cons_append]
  gi_wp2
  gi_loopw [3] (fun p wr => ∃ (pre : List Nat) (r : Nat) (fp : Nat → Prop), p = .int .u8 r ∧ r < 128 ∧ listN s = pre ++ listN r ∧ J pre fp wr ∧ (∀ b, fp b → W.heap.size ≤ b ∧ b < wr.heap.size) ∧ W.heap.size ≤ wr.heap.size) (fun p _ => (intOf p).toNat)
  case atStart =>
    exact ⟨[], s &&& 127, fun _ => False, rfl, hm, by rw [listN_mask s hs]; rfl, h0, fun b hb => hb.elim, Nat.le_refl _⟩
  case round =>
    clear e1 hm cW
    obtain ⟨pre, r, fp, rfl, hr, hx, hj, hfp, hzr⟩ := hrel
    by_cases hz : r = 0
    · subst hz
      rw [listN_zero, List.append_nil] at hx
      have HX := Lib.hid hx
      clear hx
      gi_wp2
      go_end0
      exact ⟨⟨_, rfl⟩, fp, hfp, .inl (by rw [HX.out]; exact hj)⟩
    · obtain ⟨ht, hx2⟩ := listN_next r hr hz
      have hnx := next_lt r hz
      have hb2 : ((r : Int) != 0) = true := by simp; omega
      have hLy : listN s = pre ++ Lib.trailingZeros8 r :: listN (r &&& (r - 1)) := by rw [hx, hx2]
      obtain ⟨fn, tmps, assign, body, hy, hR⟩ := hY pre _ _ fp wr hLy hj hfp hzr
      unfold nv at hy
      have HLy := Lib.hid hLy
      have ew := Lib.hid (wrap_pred r hz)
      have ea := Lib.hid (u8_and_nat r (r - 1) (by omega) (by omega))
      clear hx hx2 hLy
      gi_wp2_with fail
      refine ⟨trivial, (callsIn_wide.2 (Try.bits_TrailingZeros8 _ _ (by omega) (by omega))).mono ?_⟩
      rintro e w' ⟨rfl, rfl⟩
      simp only [Int.toNat_natCast]
      gi_wp2
      refine hR.mono ?_
      rintro e W3 ⟨fp3, hM, (⟨rfl, hJ3⟩ | ⟨rfl, hJ3⟩)⟩
      · gi_wp2
        go_roundw
        case rel => exact ⟨pre ++ [Lib.trailingZeros8 r], r &&& (r - 1), fp3, by rw [← ea.out, ← ew.out], by omega, by rw [HLy.out]; simp, hJ3, fun b hb => ⟨by
              rcases (hM.own b hb).2 with h | h
              · exact (hfp b h).1
              · omega, (hM.own b hb).1⟩, Nat.le_trans hzr hM.size⟩
        case measure => rw [ew.out, ea.out]; simp [intOf]; omega
      · gi_wp2
        refine bodyPost_ret (results_none rfl _ _ _) rfl ?_
        exact ⟨⟨_, rfl⟩, fp3, fun b hb => ⟨by
              rcases (hM.own b hb).2 with h | h
              · exact (hfp b h).1
              · omega, (hM.own b hb).1⟩, .inr ⟨_, ⟨listN (r &&& (r - 1)), by rw [HLy.out]; simp⟩, hJ3⟩⟩
theorem first_mk (n : Nat) (mb : Nat) (c : Nat) (w : World) :
    CallsIn Fence.wide n Try.prog 22 #[.pointer (some ⟨mb, 0, none⟩), .int .u8 c] w fun e w' => e = .returned (.func (.func 30) #[] #[.pointer (some ⟨w.heap.size, 0, none⟩), .pointer (some ⟨w.heap.size + 1, 0, none⟩)]) ∧ (w.alloc (.cells #[.pointer (some ⟨mb, 0, none⟩)] 24)).alloc (.cells #[.int .u8 (c : Int)] 28) = w' := by
  refine callsIn_of_wp Try.func22 rfl trivial ?_ rfl
  simp only [Try.ntmps22, List.size_toArray, List.length_cons, List.length_nil, Nat.reduceAdd, Nat.reduceSub, Array.replicate_succ, Array.replicate_zero, List.push_toArray, List.append_toArray, List.nil_append, List.cons_append]
  gi_wp2
  go_ret
  exact ⟨by simp, rfl⟩
set_option maxRecDepth 100000 in
set_option maxHeartbeats 2000000 in
theorem first1_seq (n : Nat) (hn : 6 ≤ n) (mB cB mb self base : Nat) (rv : Value) (row : List Nat) (c : Nat) (hc : c < 256) (hs : self < 256) (hrow : ∀ x ∈ row, x < 256) (w0 : World) (hB : Blk w0 mB (.cells #[.pointer (some ⟨mb, 0, none⟩)] 24)) (hC : Blk w0 cB (.cells #[.int .u8 (c : Int)] 28)) (hM : Blk w0 mb (.cells #[.int .u8 (self : Int), rv] 41)) (hR : w0.ownsRow base 5 1 rv row.length (u8s row)) :
    Seq Fence.wide n Try.prog 30 #[.pointer (some ⟨mB, 0, none⟩), .pointer (some ⟨cB, 0, none⟩)] nv (fun b => b = mB ∨ b = cB ∨ b = mb ∨ rv.ownBlock = some b) (self :: row ++ listN c) w0 := by
  intro l J Jx W hsz hdat hJ hJx hY h0
  have kB : Blk W mB (.cells #[.pointer (some ⟨mb, 0, none⟩)] 24) := (hdat _ (.inl rfl)).trans hB
  have kC : Blk W cB (.cells #[.int .u8 (c : Int)] 28) := (hdat _ (.inr (.inl rfl))).trans hC
  have kM : Blk W mb (.cells #[.int .u8 (self : Int), rv] 41) := (hdat _ (.inr (.inr (.inl rfl)))).trans hM
  have kR : W.ownsRow base 5 1 rv row.length (u8s row) := ownsRow_same hR (fun b hb => hdat _ (.inr (.inr (.inr hb))))
  obtain ⟨rp, rcap, hrv, hrlen⟩ : ∃ rp rcap, rv = .slice rp row.length rcap ∧ row.length ≤ 9223372036854775807 := by
    obtain ⟨p, cap, e, h1, _⟩ := RdV.owns kR
    exact ⟨p, cap, e, h1⟩
  have hn1 : 1 ≤ n := by omega
  have lB := kB.lt
  have lC := kC.lt
  have lM := kM.lt
  have lR := fun b hb => (kR.lt b hb).2
  have hn2 : 1 ≤ n - 1 - 1 := by omega
  clear hB hC hM hR hdat
  refine callsIn_of_wp_marks Try.func30 rfl trivial ?_ rfl
  simp only [Try.ntmps30, List.size_toArray, List.length_cons, List.length_nil, Nat.reduceAdd, Nat.reduceSub, Array.replicate_succ, Array.replicate_zero, List.push_toArray, List.append_toArray, List.nil_append, List.cons_append]
  gi_wp2_with fail
  -- the first one
  have kY : Blk (W.alloc (.cells #[.func (.yield l) #[] #[]] 33)) W.heap.size (.cells #[.func (.yield l) #[] #[]] 33) := Blk.new W _
  have kB := kB.alloc (.cells #[.func (.yield l) #[] #[]] 33)
  have kC := kC.alloc (.cells #[.func (.yield l) #[] #[]] 33)
  have kM := kM.alloc (.cells #[.func (.yield l) #[] #[]] 33)
  have kR := ownsRow_below kR (below1 W (.cells #[.func (.yield l) #[] #[]] 33))
  have hj0 := hJ _ _ _ _ h0 (Sits.of_below (below1 W (.cells #[.func (.yield l) #[] #[]] 33)))
  have b0 := below1 W (.cells #[.func (.yield l) #[] #[]] 33)
  obtain ⟨V, hV⟩ : ∃ V, W.alloc (.cells #[.func (.yield l) #[] #[]] 33) = V := ⟨_, rfl⟩
  have hVs : V.heap.size = W.heap.size + 1 := by rw [← hV]; simp
  rw [hV] at kY kB kC kM kR hj0 b0 ⊢
  clear hV h0
  have hj0 := hJ _ _ _ _ hj0 (Sits.of_below (Below.drew (Below.refl _ _)) : Sits W.heap.size _ V V.drew)
  have hy0 := hY [] self (row ++ listN c) (fun _ => False) V.drew (by simp) hj0 (fun b h => h.elim) (by have := b0.size; simpa using this)
  have hS : Blk V.drew W.heap.size (.cells #[.func (.yield l) #[] #[]] 33) ∧ Blk V.drew mB (.cells #[.pointer (some ⟨mb, 0, none⟩)] 24) ∧ Blk V.drew cB (.cells #[.int .u8 (c : Int)] 28) ∧ Blk V.drew mb (.cells #[.int .u8 (self : Int), rv] 41) ∧ V.drew.ownsRow base 5 1 rv row.length (u8s row) ∧ W.heap.size < V.drew.heap.size := ⟨kY.drew, kB.drew, kC.drew, kM.drew, ownsRow_below kR (Below.drew (Below.refl _ _)), kY.drew.lt⟩
  clear kY kB kC kM kR hj0
  obtain ⟨D, hD⟩ : ∃ D, V.drew = D := ⟨_, rfl⟩
  rw [hD] at hy0
  refine wpIn_region_valsF (fun w' => Blk w' W.heap.size (.cells #[.func (.yield l) #[] #[]] 33) ∧ Blk w' mB (.cells #[.pointer (some ⟨mb, 0, none⟩)] 24) ∧ Blk w' cB (.cells #[.int .u8 (c : Int)] 28) ∧ Blk w' mb (.cells #[.int .u8 (self : Int), rv] 41) ∧ w'.ownsRow base 5 1 rv row.length (u8s row) ∧ W.heap.size < w'.heap.size)
    (fun i w1 w2 => match i with
      | 5 => True
      | _ => w2 = w1)
    (fun i u w1 => match i with
      | 0 => u = .func (.yield l) #[] #[]
      | 1 => u = .pointer (some ⟨mb, 0, none⟩)
      | 2 => u = .pointer (some ⟨mb, 0, none⟩)
      | 3 => u = .pointer (some ⟨mb, 0, none⟩)
      | 4 => u = .int .u8 (self : Int)
      | 5 => ∃ fp, (∀ b, fp b → W.heap.size ≤ b ∧ b < w1.heap.size) ∧ ((u = .bool true ∧ J [self] fp w1 ∧ ∀ b, fp b → W.heap.size < b) ∨ (u = .bool false ∧ Jx [self] fp w1))
      | 6 => ∃ fp, (∀ b, fp b → W.heap.size ≤ b ∧ b < w1.heap.size) ∧ ((u = .bool false ∧ J [self] fp w1 ∧ ∀ b, fp b → W.heap.size < b) ∨ (u = .bool true ∧ Jx [self] fp w1))
      | _ => True)
    (fun i w1 => match i with
      | 5 => w1 = D
      | _ => True)
    [(0, some 7), (1, some 8), (2, some 9), (3, some 10), (4, some 11), (5, some 12), (6, some 13)] (by kernel_rfl) (by kernel_rfl) hS ?_ ?_ ?_ ?_ ?_
  · intro k hk
    by_cases h5 : k = 5
    · subst h5; exact hD
    · match k, h5 with
      | 0, _ | 1, _ | 2, _ | 3, _ | 4, _ => trivial
      | k + 6, _ => trivial
  · intro i hi j hj hne hfo u w1 w2 hR hV
    simp only [List.map_cons, List.map_nil, List.mem_cons, List.not_mem_nil, or_false] at hi hj
    rcases hi with rfl | rfl | rfl | rfl | rfl | rfl | rfl <;> rcases hj with rfl | rfl | rfl | rfl | rfl | rfl | rfl
    all_goals first
      | exact absurd rfl hne
      | exact hV
      | (cases hR; exact hV)
      | exact absurd hfo (by rw [Bool.not_eq_false]; kernel_rfl)
  · intro i hi k hk hne w1 w2 hR hU
    simp only [List.map_cons, List.map_nil, List.mem_cons, List.not_mem_nil, or_false] at hi
    by_cases h5 : k = 5
    · subst h5
      rcases hi with rfl | rfl | rfl | rfl | rfl | rfl | rfl
      all_goals first
        | exact absurd rfl hne
        | (cases hR; exact hU)
    · match k, h5 with
      | 0, _ | 1, _ | 2, _ | 3, _ | 4, _ => trivial
      | k + 6, _ => trivial
  · skip
    refine steps_cons (stepInU_list rfl (fun y w1 hS hd hU hF K hK => ?_)) ?_
    · have c0 := hS.1.cell 0
      simp only [putD, Act.put, List.setIfInBounds_toArray, List.set_cons_zero, List.set_cons_succ] at hK ⊢
      gi_wp2
      exact hK.out _ _ hS rfl rfl
    refine steps_cons (stepInU_list rfl (fun y w1 hS hd hU hF K hK => ?_)) ?_
    · have c0 := hS.2.1.cell 0
      simp only [putD, Act.put, List.setIfInBounds_toArray, List.set_cons_zero, List.set_cons_succ] at hK ⊢
      gi_wp2
      exact hK.out _ _ hS rfl rfl
    refine steps_cons (stepInU_list rfl (fun y w1 hS hd hU hF K hK => ?_)) ?_
    · have e1 : y 1 = .pointer (some ⟨mb, 0, none⟩) := hd 1 (by kernel_rfl)
      simp only [putD, Act.put, List.setIfInBounds_toArray, List.set_cons_zero, List.set_cons_succ, e1] at hK ⊢
      gi_wp2
      exact hK.out _ _ hS rfl rfl
    refine steps_cons (stepInU_list rfl (fun y w1 hS hd hU hF K hK => ?_)) ?_
    · have e1 : y 2 = .pointer (some ⟨mb, 0, none⟩) := hd 2 (by kernel_rfl)
      simp only [putD, Act.put, List.setIfInBounds_toArray, List.set_cons_zero, List.set_cons_succ, e1] at hK ⊢
      gi_wp2
      exact hK.out _ _ hS rfl rfl
    refine steps_cons (stepInU_list rfl (fun y w1 hS hd hU hF K hK => ?_)) ?_
    · have e1 : y 3 = .pointer (some ⟨mb, 0, none⟩) := hd 3 (by kernel_rfl)
      have c0 := hS.2.2.2.1.cell 0
      simp only [putD, Act.put, List.setIfInBounds_toArray, List.set_cons_zero, List.set_cons_succ, e1] at hK ⊢
      gi_wp2
      exact hK.out _ _ hS rfl rfl
    refine steps_cons (stepInU_list rfl (fun y w1 hS hd hU hF K hK => ?_)) ?_
    · have e1 : y 0 = .func (.yield l) #[] #[] := hd 0 (by kernel_rfl)
      have e2 : y 4 = .int .u8 (self : Int) := hd 4 (by kernel_rfl)
      have e3 : w1 = D := hU
      subst e3
      obtain ⟨fn, tmps, assign, body, hy, hR⟩ := hy0
      unfold nv at hy
      simp only [putD, Act.put, List.setIfInBounds_toArray, List.set_cons_zero, List.set_cons_succ, e1, e2] at hK ⊢
      gi_wp2
      refine hR.mono ?_
      rintro e3 W3 ⟨fp3, hM, hjj⟩
      have hS3 : Blk W3 W.heap.size (.cells #[.func (.yield l) #[] #[]] 33) ∧ Blk W3 mB (.cells #[.pointer (some ⟨mb, 0, none⟩)] 24) ∧ Blk W3 cB (.cells #[.int .u8 (c : Int)] 28) ∧ Blk W3 mb (.cells #[.int .u8 (self : Int), rv] 41) ∧ W3.ownsRow base 5 1 rv row.length (u8s row) ∧ W.heap.size < W3.heap.size :=
        ⟨(hM.block _ hS.1.lt (.inr (Nat.le_refl _)) (fun h => h)).trans hS.1, (hM.block _ hS.2.1.lt (.inl (.inl rfl)) (fun h => h)).trans hS.2.1, (hM.block _ hS.2.2.1.lt (.inl (.inr (.inl rfl))) (fun h => h)).trans hS.2.2.1, (hM.block _ hS.2.2.2.1.lt (.inl (.inr (.inr (.inl rfl)))) (fun h => h)).trans hS.2.2.2.1,
          ownsRow_same hS.2.2.2.2.1 (fun b hb => hM.block b (hS.2.2.2.2.1.lt b hb).2 (.inl (.inr (.inr (.inr hb)))) (fun h => h)), Nat.lt_of_lt_of_le hS.2.2.2.2.2 hM.size⟩
      have hfp3 : ∀ b, fp3 b → W.heap.size < b ∧ b < W3.heap.size := fun b hb => ⟨by
        rcases (hM.own b hb).2 with h | h
        · exact h.elim
        · have := hS.2.2.2.2.2; omega, (hM.own b hb).1⟩
      rcases hjj with ⟨rfl, hj3⟩ | ⟨rfl, hj3⟩
      · gi_wp2
        exact hK.out _ _ hS3 trivial ⟨fp3, fun b hb => ⟨Nat.le_of_lt (hfp3 b hb).1, (hfp3 b hb).2⟩, .inl ⟨rfl, hj3, fun b hb => (hfp3 b hb).1⟩⟩
      · gi_wp2
        exact hK.out _ _ hS3 trivial ⟨fp3, fun b hb => ⟨Nat.le_of_lt (hfp3 b hb).1, (hfp3 b hb).2⟩, .inr ⟨rfl, hj3⟩⟩
    refine steps_cons (stepInU_list rfl (fun y w1 hS hd hU hF K hK => ?_)) ?_
    · have e1 : ∃ fp, (∀ b, fp b → W.heap.size ≤ b ∧ b < w1.heap.size) ∧ ((y 5 = .bool true ∧ J [self] fp w1 ∧ ∀ b, fp b → W.heap.size < b) ∨ (y 5 = .bool false ∧ Jx [self] fp w1)) := hd 5 (by kernel_rfl)
      obtain ⟨fp, hfp, ⟨e1, hj⟩ | ⟨e1, hj⟩⟩ := e1
      · simp only [putD, Act.put, List.setIfInBounds_toArray, List.set_cons_zero, List.set_cons_succ, e1] at hK ⊢
        gi_wp2
        exact hK.out _ _ hS rfl ⟨fp, hfp, .inl ⟨rfl, hj⟩⟩
      · simp only [putD, Act.put, List.setIfInBounds_toArray, List.set_cons_zero, List.set_cons_succ, e1] at hK ⊢
        gi_wp2
        exact hK.out _ _ hS rfl ⟨fp, hfp, .inr ⟨rfl, hj⟩⟩
    exact steps_nil
  · intro y w1 hS hv
    obtain ⟨fp, hfp, hjj⟩ := hv 6 (by simp)
    have hsj : ∀ b, fp b → W.heap.size ≤ b ∧ b < w1.heap.size := hfp
    rcases hjj with ⟨e6, hj, hfpl⟩ | ⟨e6, hj⟩
    · simp only [putD, Act.put, List.setIfInBounds_toArray, List.set_cons_zero, List.set_cons_succ, e6]
      obtain ⟨kY, kB, kC, kM, kR, hW1⟩ := hS
      have gY := kY.cell 0
      have gB := kB.cell 0
      have gM0 := kM.cell 0
      have gM1 := kM.cell 1
      rw [hrv] at gM1
      clear hv hy0 hD
      gi_wp2_with fail
      gi_loopw [19] (fun p wr => ∃ (k : Nat) (fp : Nat → Prop), p = .int .i64 k ∧ k ≤ row.length ∧ J (self :: row.take k) fp wr ∧ (∀ b, fp b → W.heap.size < b ∧ b < wr.heap.size) ∧ Blk wr W.heap.size (.cells #[.func (.yield l) #[] #[]] 33) ∧ Blk wr mB (.cells #[.pointer (some ⟨mb, 0, none⟩)] 24) ∧ Blk wr cB (.cells #[.int .u8 (c : Int)] 28) ∧ Blk wr mb (.cells #[.int .u8 (self : Int), rv] 41) ∧ wr.ownsRow base 5 1 rv row.length (u8s row)) (fun p _ => row.length - (intOf p).toNat)
      case atStart =>
        exact ⟨0, fp, rfl, Nat.zero_le _, hj, fun b hb => ⟨hfpl b hb, (hfp b hb).2⟩, kY, kB, kC, kM, kR⟩
      case round =>
        clear gY gB gM0 gM1 kY kB kC kM kR hj hfp hfpl hW1 hsj
        obtain ⟨k, fp, rfl, hk, hj, hfp, kY, kB, kC, kM, kR⟩ := hrel
        have hWz : W.heap.size < wr.heap.size := kY.lt
        by_cases hlt : k < row.length
        · have hd : decide ((k : Int) < (row.length : Int)) = true := decide_eq_true (by omega)
          have hd' : decide (k < row.length) = true := decide_eq_true hlt
          obtain ⟨p', cap', e', _, _, hcell, _⟩ := RdB.owns kR hrow
          rw [hrv] at e'
          cases e'
          obtain ⟨rb, off, rfl, g⟩ := hcell k hlt
          rw [getD_at row k hlt] at g
          have HT := Lib.hid (take_snoc row k hlt)
          have hLy : self :: row ++ listN c = (self :: row.take k) ++ row[k] :: (row.drop (k + 1) ++ listN c) := by
            have h1 : row = row.take k ++ row[k] :: row.drop (k + 1) := by rw [← List.drop_eq_getElem_cons hlt, List.take_append_drop]
            rw [List.cons_append, List.cons_append]
            congr 1
            rw [← List.cons_append, ← List.append_assoc, ← h1]
          have hx := hrow _ (List.getElem_mem hlt)
          generalize row[k] = x at *
          have hy1 := hY (self :: row.take k) x _ fp wr hLy hj (fun b hb => ⟨Nat.le_of_lt (hfp b hb).1, (hfp b hb).2⟩) (Nat.le_of_lt hWz)
          obtain ⟨fn, tmps, assign, body, hy, hR⟩ := hy1
          unfold nv at hy
          have gY := kY.cell 0
          have HLy := Lib.hid hLy
          clear hcell hLy
          gi_wp2
          refine hR.mono ?_
          rintro e W3 ⟨fp3, hM, hjj⟩
          have hfp3 : ∀ b, fp3 b → W.heap.size < b ∧ b < W3.heap.size := fun b hb => ⟨by
            rcases (hM.own b hb).2 with h | h
            · exact (hfp b h).1
            · omega, (hM.own b hb).1⟩
          rcases hjj with ⟨rfl, hj3⟩ | ⟨rfl, hj3⟩
          · gi_wp2
            go_roundw
            case rel => exact ⟨k + 1, fp3, by go_num, by omega, by rw [HT.out]; exact hj3, hfp3,
              (hM.block _ kY.lt (.inr (Nat.le_refl _)) (fun h => by have := (hfp _ h).1; omega)).trans kY, (hM.block _ kB.lt (.inl (.inl rfl)) (fun h => by have := (hfp _ h).1; omega)).trans kB, (hM.block _ kC.lt (.inl (.inr (.inl rfl))) (fun h => by have := (hfp _ h).1; omega)).trans kC, (hM.block _ kM.lt (.inl (.inr (.inr (.inl rfl)))) (fun h => by have := (hfp _ h).1; omega)).trans kM, ownsRow_same kR (fun b hb => hM.block b (kR.lt b hb).2 (.inl (.inr (.inr (.inr hb)))) (fun h => by have := (hfp _ h).1; have := lR b hb; omega))⟩
            case measure => simp [intOf]; omega
          · gi_wp2
            exact ⟨_, results_none rfl _ _ _, ⟨_, rfl⟩, fp3, fun b hb => ⟨Nat.le_of_lt (hfp3 b hb).1, (hfp3 b hb).2⟩, .inr ⟨(self :: row.take k) ++ [x], ⟨row.drop (k + 1) ++ listN c, by rw [List.append_assoc]; exact HLy.out.symm⟩, hj3⟩⟩
        · have hd : decide ((k : Int) < (row.length : Int)) = false := decide_eq_false (by omega)
          have hd' : decide (k < row.length) = false := decide_eq_false hlt
          have hkk : k = row.length := by omega
          have gY := kY.cell 0
          have gC := kC.cell 0
          gi_wp2_with fail
          have htk : row.take k = row := by rw [hkk, List.take_length]
          rw [htk] at hj
          refine ⟨trivial, (all_in _ c _).mono ?_⟩
          rintro e w' ⟨rfl, rfl⟩
          clear hd hd' hkk htk hlt gC
          gi_wp2_with fail
          have kA : Blk (wr.alloc (.cells #[.int .u8 (c : Int)] 28)) wr.heap.size (.cells #[.int .u8 (c : Int)] 28) := Blk.new wr _
          have kY := kY.alloc (.cells #[.int .u8 (c : Int)] 28)
          have hj := hJ _ _ _ _ hj (Sits.of_below (below1 wr (.cells #[.int .u8 (c : Int)] 28)))
          have hVz : (wr.alloc (.cells #[.int .u8 (c : Int)] 28)).heap.size = wr.heap.size + 1 := by simp
          obtain ⟨V2, hV2⟩ : ∃ V2, wr.alloc (.cells #[.int .u8 (c : Int)] 28) = V2 := ⟨_, rfl⟩
          rw [hV2] at kA kY hj hVz ⊢
          clear hV2 kB kC kM kR gY
          refine wpIn_range rfl (by omega) (gf := 34) (lb := #[.pointer (some ⟨wr.heap.size, 0, none⟩)]) rfl trivial (enters_of Try.func34 (by kernel_rfl) rfl)
            (all_seq (n - 1) (by omega) wr.heap.size c hc V2 kA) (fun b e => by subst e; exact kA.lt) (fun _ => rfl)
            (fun ys fp' W' => ∃ fp1, J ((self :: row) ++ ys) fp1 W' ∧ (∀ b, fp1 b → fp b ∨ fp' b) ∧ Blk W' W.heap.size (.cells #[.func (.yield l) #[] #[]] 33))
            (fun c' ys fp' W' => c' = .ret ∧ ∃ fp1 pre, pre <+: (self :: row ++ listN c) ∧ Jx pre fp1 W' ∧ (∀ b, fp1 b → fp b ∨ fp' b))
            (fun ys fp' A B h hs => by
              obtain ⟨fp1, h1, h2, h3⟩ := h
              exact ⟨fp1, hJ _ _ _ _ h1 ⟨hs.os, hs.tape, hs.output, hs.size, fun b hb hk => hs.block b hb (by
                rcases hk with h | h
                · exact .inl (by omega)
                · rcases h2 b h with h4 | h4
                  · exact .inl (by have := (hfp b h4).2; omega)
                  · exact .inr h4)⟩, h2, hs.blk h3 (.inl (by omega))⟩)
            (fun c' ys fp' A B h hs => by
              obtain ⟨e, fp1, pre, hp, h1, h2⟩ := h
              exact ⟨e, fp1, pre, hp, hJx _ _ _ _ h1 ⟨hs.os, hs.tape, hs.output, hs.size, fun b hb hk => hs.block b hb (by
                rcases hk with h | h
                · exact .inl (by omega)
                · rcases h2 b h with h4 | h4
                  · exact .inl (by have := (hfp b h4).2; omega)
                  · exact .inr h4)⟩, h2⟩)
            ⟨fp, by rw [List.append_nil]; exact hj, fun b h => .inl h, kY⟩ ?round ?done ?stop
          case round =>
            clear kA kY hj
            rintro l' pre x post fp' W2 hL hl' hl2 ⟨fp1, hj, hf1, kY⟩ hfp'
            unfold nv
            gi_wp2
            refine ⟨Below.refl _ _, ?_⟩
            rintro W3 hg ⟨r, hr⟩ ⟨fp1, hj3, hf3, kY3⟩
            have hz3 := hg.size
            have hb3 : ∀ b, fp1 b → W.heap.size < b ∧ b < W3.heap.size := fun b hb => by
              rcases hf3 b hb with h | h
              · have := hfp b h; exact ⟨this.1, by omega⟩
              · have := hfp' b h; exact ⟨by omega, by omega⟩
            have hLL : self :: row ++ listN c = (self :: row ++ pre) ++ x :: post := by rw [hL, List.append_assoc]
            obtain ⟨fn, tmps, assign, body, hy, hR⟩ := yieldAt_any (l' := l') (m' := n - 1 - 1 - 1) (hY (self :: row ++ pre) x post fp1 W3 hLL hj3 (fun b hb => ⟨Nat.le_of_lt (hb3 b hb).1, (hb3 b hb).2⟩) (by omega))
            unfold nv at hy
            have gY := kY3.cell 0
            have HLL := Lib.hid hLL
            clear hL hLL hj kY
            gi_wp2
            refine hR.mono ?_
            rintro e4 W4 ⟨fp4, hM, hcc⟩
            have hf4 : ∀ b, fp4 b → fp b ∨ (fp4 b ∧ V2.heap.size ≤ b) := fun b hb => by
              rcases (hM.own b hb).2 with h | h
              · rcases hf3 b h with h2 | h2
                · exact .inl h2
                · exact .inr ⟨hb, by have := hfp' b h2; omega⟩
              · exact .inr ⟨hb, by omega⟩
            have hM2 : Moves (fun b => b = wr.heap.size ∨ V2.heap.size ≤ b) fp' W3 (fun b => fp4 b ∧ V2.heap.size ≤ b) W4 := ⟨hM.os, hM.tape, hM.output, hM.size, fun b hb hk hn => hM.block b hb (.inr (by omega)) (fun h => by
                rcases hf3 b h with h2 | h2
                · have := hfp b h2; omega
                · exact hn h2), fun b hb => ⟨(hM.own b hb.1).1, by
                rcases (hM.own b hb.1).2 with h | h
                · rcases hf3 b h with h2 | h2
                  · have := hfp b h2; have := hb.2; omega
                  · exact .inl h2
                · exact .inr h⟩⟩
            rcases hcc with ⟨rfl, hJ4⟩ | ⟨rfl, hJ4⟩
            · have kY4 : Blk W4 W.heap.size (.cells #[.func (.yield l) #[] #[]] 33) := (hM.block _ kY3.lt (.inr (Nat.le_refl _)) (fun h => by have := (hb3 _ h).1; omega)).trans kY3
              gi_wp2
              exact ⟨_, hM2, fp4, by rw [← List.append_assoc]; exact hJ4, hf4, kY4⟩
            · gi_wp2
              exact ⟨_, hM2, rfl, fp4, _, ⟨post, by rw [List.append_assoc]; exact HLL.out.symm⟩, hJ4, hf4⟩
          case done =>
            rintro D fp' W2 hD hDl hfp' ⟨fp1, hj, hf1, kY⟩ hK
            gi_wp2
            refine ⟨by simp, .inl ⟨_, _, rfl, run_takeDeferred hK, ?_⟩⟩
            have hg := grownBy_putObj' W2 D (.deferred none)
            have hb1 : ∀ b, fp1 b → (W.heap.size ≤ b ∧ b < W2.heap.size) ∧ b ≠ D := fun b hb => by
              rcases hf1 b hb with h | h
              · have := hfp b h; omega
              · have := hfp' b h; omega
            exact ⟨_, results_none rfl _ _ _, ⟨_, rfl⟩, fp1, fun b hb => ⟨(hb1 b hb).1.1, Nat.lt_of_lt_of_le (hb1 b hb).1.2 hg.size⟩, .inl (hJ _ _ _ _ hj (Sits.of_grown hg (by omega) (fun h => (hb1 _ h).2 rfl)))⟩
          case stop =>
            rintro D c' ys fp' W2 hD hDl hfp' hpre ⟨rfl, fp1, pre, hp, hj, hf1⟩ hK
            gi_wp2
            refine ⟨by simp, .inl ⟨_, _, rfl, run_takeDeferred hK, ?_⟩⟩
            have hg := grownBy_putObj' W2 D (.deferred none)
            have hb1 : ∀ b, fp1 b → (W.heap.size ≤ b ∧ b < W2.heap.size) ∧ b ≠ D := fun b hb => by
              rcases hf1 b hb with h | h
              · have := hfp b h; omega
              · have := hfp' b h; omega
            exact ⟨_, results_none rfl _ _ _, ⟨_, rfl⟩, fp1, fun b hb => ⟨(hb1 b hb).1.1, Nat.lt_of_lt_of_le (hb1 b hb).1.2 hg.size⟩, .inr ⟨pre, hp, hJx _ _ _ _ hj (Sits.of_grown hg (by omega) (fun h => (hb1 _ h).2 rfl))⟩⟩
    · simp only [putD, Act.put, List.setIfInBounds_toArray, List.set_cons_zero, List.set_cons_succ, e6]
      gi_wp2
      exact ⟨_, results_none rfl _ _ _, ⟨_, rfl⟩, fp, hfp, .inr ⟨[self], ⟨row ++ listN c, rfl⟩, hj⟩⟩
end Thr
end Go.Proofs.Ythhgcfklaakndaa
