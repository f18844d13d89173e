/-
  Sessions, the document's side: what was kept last, what a command is, what is kept.
-/
import Derived.Test.YtidgeljkihamhaaSesLaw
import Derived.Test.YtidgeljkihamhaaElem
import Derived.Test.YtidgeljkihamhaaOrd
import Derived.Test.YtidgeljkihamhaaWireOwn
namespace Go.Proofs.Ytidgeljkihamhaa
open Go.RowKit Go.WideShapes
namespace Ses
def none0 (c : Nat) : K := ⟨c, 0, 0, ⟨#[]⟩⟩
/-- What was kept of a client last. -/
def lastK (l : List K) (c : Nat) : K := l.foldl (fun o x => if x.c = c then x else o) (none0 c)
theorem last_step (l : List K) (c k : Nat) (h : k < l.length) : lastK (l.take (k + 1)) c = if l[k].c = c then l[k] else lastK (l.take k) c := by
  unfold lastK
  rw [List.take_succ_eq_append_getElem h, List.foldl_append]; rfl
theorem last_snoc (l : List K) (x : K) (c : Nat) : lastK (l ++ [x]) c = if x.c = c then x else lastK l c := by
  unfold lastK
  rw [List.foldl_append]; rfl
/-- The table of what was kept. -/
def tabK (l : List K) : Nat → L := fun i => ⟨(lastK l i).q, (lastK l i).code, (lastK l i).t⟩
def keepL (l : List K) (x : K) : List K := if (lookT (tabK l) x.c x.q).2.2 = 1 then l ++ [x] else l
theorem keepL_tab (l : List K) (x : K) : tabK (keepL l x) = keepT (tabK l) x.c x.q x.code x.t := by
  unfold keepL keepT
  by_cases h : (lookT (tabK l) x.c x.q).2.2 = 1
  · rw [if_pos h, if_pos h]
    funext i
    simp only [tabK, last_snoc]
    by_cases e : x.c = i
    · rw [if_pos e, if_pos e.symm]
    · rw [if_neg e, if_neg (fun h => e h.symm)]
  · rw [if_neg h, if_neg h]
theorem keepL_len (l : List K) (x : K) : (keepL l x).length ≤ l.length + 1 := by
  unfold keepL
  split
  · simp
  · omega
theorem look_pos (T : Nat → L) (c q : Nat) (h : (lookT T c q).2.2 = 1) : 0 < q := by
  rcases Nat.eq_zero_or_pos q with h0 | h0
  · subst h0; simp [lookT] at h
  · exact h0
theorem keepL_all (p : K → Prop) (l : List K) (x : K) (hl : ∀ y ∈ l, p y) (hx : 0 < x.q → p x) : ∀ y ∈ keepL l x, p y := by
  unfold keepL
  split
  · rename_i h
    intro y hy
    rcases List.mem_append.1 hy with h1 | h1
    · exact hl y h1
    · have e : y = x := by simpa using h1
      subst e
      exact hx (look_pos _ _ _ h)
  · exact hl
theorem lastK_mem (l : List K) (c : Nat) : lastK l c = none0 c ∨ lastK l c ∈ l := by
  unfold lastK
  suffices h : ∀ (l : List K) (o : K), l.foldl (fun o x => if x.c = c then x else o) o = o ∨ l.foldl (fun o x => if x.c = c then x else o) o ∈ l from h l _
  intro l
  induction l with
  | nil => intro o; exact .inl rfl
  | cons a l ih =>
    intro o
    rw [List.foldl_cons]
    rcases ih (if a.c = c then a else o) with h | h
    · rw [h]
      by_cases e : a.c = c
      · rw [if_pos e]; exact .inr (by simp)
      · rw [if_neg e]; exact .inl rfl
    · exact .inr (List.mem_cons_of_mem _ h)
abbrev kA (x : K) : Array Value := #[.int .u8 x.c, .int .u32 x.q, .int .u8 x.code, .string x.t]
abbrev kv (x : K) : Value := .agg (kA x)
theorem keptV_len (x : K) : (keptV x).length = 4 := rfl
theorem infoK : (Try.prog.info? 34).map (fun i => (i.zero, i.size, i.bytes)) = some (some (.agg #[.int .u8 0, .int .u32 0, .int .u8 0, .string ⟨#[]⟩]), 4, 32) := by kernel_rfl
theorem own_lower {w : World} {b1 b2 : Nat} {e : TypeId} {size : Nat} {v : Value} {n : Nat} {xs : List Value} (h : w.ownsRow b1 e size v n xs) (hb : b2 ≤ b1) : w.ownsRow b2 e size v n xs := by
  refine ⟨h.1, ?_⟩
  rcases h.2 with h2 | ⟨g, cap, cur, e, hbg, h3⟩
  · exact .inl h2
  · exact .inr ⟨g, cap, cur, e, Nat.le_trans hb hbg, h3⟩
set_option maxRecDepth 100000 in
set_option maxHeartbeats 4000000 in
theorem last_any (v : Value) (l : List K) (c : Nat) (w : World) (hv : RdT keptV w v l) :
    Calls Try.prog 23 #[v, .int .u8 c] w fun e w' => e = .returned (kv (lastK l c)) ∧ Below w.heap.size w w' := by
  have HV := Lib.hid hv
  obtain ⟨p, cap, rfl, hlen⟩ := hv.len
  clear hv
  obtain ⟨o, ho⟩ : ∃ o : Nat → K, (fun k => lastK (l.take k) c) = o := ⟨_, rfl⟩
  have HO0 := Lib.hid (show o 0 = none0 c by rw [← ho]; rfl)
  have HOS := Lib.hid (show ∀ k (h : k < l.length), o (k + 1) = if l[k].c = c then l[k] else o k by rw [← ho]; exact fun k h => last_step l c k h)
  have HOE := Lib.hid (show o l.length = lastK l c by rw [← ho]; simp only [List.take_length])
  clear ho
  go_enter Try.func23, Try.ntmps23
  go_wp2_with fail
  go_loopw [6] (fun i wr => ∃ k : Nat, k ≤ l.length ∧ i = .int .i64 k ∧ Blk wr (w.heap.size + 1) (.cells (kA (o k)) 34) ∧ Blk wr w.heap.size (.cells #[.int .u8 0, .int .u32 0, .int .u8 0, .string ⟨#[]⟩] 34) ∧ Below w.heap.size w wr) (fun i _ => l.length - (intOf i).toNat)
  case atStart => exact ⟨0, Nat.zero_le _, rfl, by rw [HO0.out]; exact Blk.newAt _ (by simp), Blk.alloc (Blk.new _ _) _, below2 _ _ _⟩
  case round =>
    obtain ⟨k, hk, rfl, k5, k4, hB⟩ := hrel
    have l5 := k5.lt
    by_cases hlt : k < l.length
    · have hd : decide ((k : Int) < (l.length : Int)) = true := decide_eq_true (by omega)
      obtain ⟨lb, off, rfl, _⟩ := HV.out.at 4 (by decide) keptV_len k hlt
      have g : ∀ j, j < 4 → wr.cell? ⟨lb, off + k * 4 + j, none⟩ = (keptV l[k])[j]? := by
        obtain ⟨b', off', e, h⟩ := (HV.out.below hB (Nat.le_refl _)).at 4 (by decide) keptV_len k hlt
        cases e; exact h
      have hos := Lib.hid (HOS.out k hlt)
      obtain ⟨x, hx⟩ : ∃ x, l[k] = x := ⟨_, rfl⟩
      rw [hx] at g hos
      clear hx
      have g0 := g 0 (by decide)
      have g1 := g 1 (by decide)
      have g2 := g 2 (by decide)
      have g3 := g 3 (by decide)
      simp only [keptV, Nat.add_zero] at g0 g1 g2 g3
      clear g
      have r0 := k5.cell 0
      have r1 := k5.cell 1
      have r2 := k5.cell 2
      have r3 := k5.cell 3
      have f0 := k5.frozen 0
      have f1 := k5.frozen 1
      have f2 := k5.frozen 2
      have f3 := k5.frozen 3
      by_cases e : x.c = c
      · have he : ((x.c : Int) == (c : Int)) = true := by simp [e]
        have HN := Lib.hid (show o (k + 1) = x by rw [hos.out, if_pos e])
        clear hos e
        go_wp2
        go_roundw
        case rel => exact ⟨k + 1, by omega, by go_num, by rw [HN.out]; exact Blk.set (Blk.set (Blk.set (Blk.set k5 0 _) 1 _) 2 _) 3 _, Blk.other (Blk.other (Blk.other (Blk.other k4 (a := ⟨w.heap.size + 1, 0, none⟩) (by simp) _) (a := ⟨w.heap.size + 1, 1, none⟩) (by simp) _) (a := ⟨w.heap.size + 1, 2, none⟩) (by simp) _) (a := ⟨w.heap.size + 1, 3, none⟩) (by simp) _,
          (((hB.setCell (p := ⟨w.heap.size + 1, 0, none⟩) (by simp) _).setCell (p := ⟨w.heap.size + 1, 1, none⟩) (by simp) _).setCell (p := ⟨w.heap.size + 1, 2, none⟩) (by simp) _).setCell (p := ⟨w.heap.size + 1, 3, none⟩) (by simp) _⟩
        case measure => simp [intOf]; omega
      · have he : ((x.c : Int) == (c : Int)) = false := beq_eq_false_iff_ne.2 (by omega)
        have HN := Lib.hid (show o (k + 1) = o k by rw [hos.out, if_neg e])
        clear hos e
        go_wp2
        go_roundw
        case rel => exact ⟨k + 1, by omega, by go_num, by rw [HN.out]; exact k5, k4, hB⟩
        case measure => simp [intOf]; omega
    · have hd : decide ((k : Int) < (l.length : Int)) = false := decide_eq_false (by omega)
      obtain rfl : k = l.length := by omega
      rw [HOE.out] at k5
      obtain ⟨x, hx⟩ : ∃ x, lastK l c = x := ⟨_, rfl⟩
      rw [hx] at k5
      have HX := Lib.hid hx
      clear hx HOE
      have a0 := k5.cell 0
      have a1 := k5.cell 1
      have a2 := k5.cell 2
      have a3 := k5.cell 3
      have b0 := k4.cell 0
      have b1 := k4.cell 1
      have b2 := k4.cell 2
      have b3 := k4.cell 3
      have f0 := k4.frozen 0
      have f1 := k4.frozen 1
      have f2 := k4.frozen 2
      have f3 := k4.frozen 3
      have l4 := k4.lt
      go_wp2
      refine bodyPost_ret (v := kv x) (by simp [results, Try.results23, go_sem, b0, b1, b2, b3]) rfl ⟨by rw [HX.out], ?_⟩
      repeat (first | (with_reducible refine Below.setCell ?_ (by dsimp only; omega) _) | (with_reducible refine Below.alloc ?_ (by (try simp only [World.size_alloc, World.size_setCell]); omega) _))
      exact hB
set_option maxRecDepth 100000 in
set_option maxHeartbeats 4000000 in
theorem rlook_any (v : Value) (l : List K) (c q : Nat) (w : World) (hv : RdT keptV w v l) :
    Calls Try.prog 11 #[v, .int .u8 c, .int .u32 q] w fun e w' => e = .returned (lookV (lookT (tabK l) c q)) ∧ Below w.heap.size w w' := by
  by_cases h : 4 ≤ c ∨ q = 0
  · have H := Lib.hid (show lookT (tabK l) c q = (2, ⟨#[]⟩, 0) by rw [lookT, if_pos h])
    by_cases h4 : 4 ≤ c
    · have d : decide ((3 : Int) < (c : Int)) = true := decide_eq_true (by omega)
      clear h
      go_enter Try.func11, Try.ntmps11
      go_wp2
      refine bodyPost_ret (v := .tuple #[.agg #[.int .u8 2, .string ⟨#[]⟩], .int .u8 0]) (by simp [results, Try.results11, go_sem]) rfl ⟨by rw [H.out]; rfl, ?_⟩
      repeat (first | (with_reducible refine Below.setCell ?_ (by dsimp only; omega) _) | (with_reducible refine Below.alloc ?_ (by (try simp only [World.size_alloc, World.size_setCell]); omega) _))
      exact Below.refl _ _
    · obtain rfl : q = 0 := by omega
      have d : decide ((3 : Int) < (c : Int)) = false := decide_eq_false (by omega)
      clear h
      go_enter Try.func11, Try.ntmps11
      go_wp2
      refine bodyPost_ret (v := .tuple #[.agg #[.int .u8 2, .string ⟨#[]⟩], .int .u8 0]) (by simp [results, Try.results11, go_sem]) rfl ⟨by rw [H.out]; rfl, ?_⟩
      repeat (first | (with_reducible refine Below.setCell ?_ (by dsimp only; omega) _) | (with_reducible refine Below.alloc ?_ (by (try simp only [World.size_alloc, World.size_setCell]); omega) _))
      exact Below.refl _ _
  · have d : decide ((3 : Int) < (c : Int)) = false := decide_eq_false (by omega)
    have d2 : ((q : Int) == 0) = false := beq_eq_false_iff_ne.2 (by omega)
    have HTc := Lib.hid (show tabK l c = ⟨(lastK l c).q, (lastK l c).code, (lastK l c).t⟩ from rfl)
    obtain ⟨x, hx⟩ : ∃ x, lastK l c = x := ⟨_, rfl⟩
    have HL := Lib.hid (fun w => fun h => last_any v l c w h)
    rw [hx] at HTc HL
    clear hx
    have hc4 : c < 4 := by omega
    have hq : 0 < q := by omega
    clear h
    go_enter Try.func11, Try.ntmps11
    go_wp2_with fail
    refine (HL.out _ (hv.later (below1 w _))).mono ?_
    rintro e w1 ⟨rfl, b1⟩
    have k6 := (Blk.new w (.cells #[.int .u8 0, .string ⟨#[]⟩] 25)).later b1
    have hB := Below.later' (below1 w _) b1
    have r0 := k6.cell 0
    have r1 := k6.cell 1
    have f0 := k6.frozen 0
    have f1 := k6.frozen 1
    have l6 := k6.lt
    clear b1 k6
    rcases Nat.lt_trichotomy x.q q with h1 | h1 | h1
    · have H := Lib.hid (look_fresh (tabK l) c q hc4 hq (by rw [HTc.out]; exact h1))
      have e1 : decide ((x.q : Int) < (q : Int)) = true := decide_eq_true (by omega)
      go_wp2
      refine bodyPost_ret (v := .tuple #[.agg #[.int .u8 0, .string ⟨#[]⟩], .int .u8 1]) (by simp [results, Try.results11, go_sem, r0, r1, l6]) rfl ⟨by rw [H.out]; rfl, ?_⟩
      repeat (first | (with_reducible refine Below.setCell ?_ (by dsimp only; omega) _) | (with_reducible refine Below.alloc ?_ (by (try simp only [World.size_alloc, World.size_setCell]); omega) _))
      exact hB
    · have H := Lib.hid (look_again (tabK l) c q hc4 hq (by rw [HTc.out]; exact h1))
      have HX := Lib.hid (show (tabK l c).c = x.code ∧ (tabK l c).t = x.t by rw [HTc.out]; exact ⟨rfl, rfl⟩)
      have e1 : decide ((x.q : Int) < (q : Int)) = false := decide_eq_false (by omega)
      have e1' : decide (x.q < q) = false := decide_eq_false (by omega)
      have e2 : ((q : Int) == (x.q : Int)) = true := by simp [h1]
      clear h1
      go_wp2
      refine bodyPost_ret (v := .tuple #[.agg #[.int .u8 x.code, .string x.t], .int .u8 2]) (by simp [results, Try.results11, go_sem, r0, r1, l6]) rfl ⟨by rw [H.out, HX.out.1, HX.out.2]; rfl, ?_⟩
      repeat (first | (with_reducible refine Below.setCell ?_ (by dsimp only; omega) _) | (with_reducible refine Below.alloc ?_ (by (try simp only [World.size_alloc, World.size_setCell]); omega) _))
      exact hB
    · have H := Lib.hid (look_old (tabK l) c q hc4 hq (by rw [HTc.out]; exact h1))
      have e1 : decide ((x.q : Int) < (q : Int)) = false := decide_eq_false (by omega)
      have e2 : ((q : Int) == (x.q : Int)) = false := beq_eq_false_iff_ne.2 (by omega)
      go_wp2
      refine bodyPost_ret (v := .tuple #[.agg #[.int .u8 3, .string ⟨#[]⟩], .int .u8 3]) (by simp [results, Try.results11, go_sem, r0, r1, l6]) rfl ⟨by rw [H.out]; rfl, ?_⟩
      repeat (first | (with_reducible refine Below.setCell ?_ (by dsimp only; omega) _) | (with_reducible refine Below.alloc ?_ (by (try simp only [World.size_alloc, World.size_setCell]); omega) _))
      exact hB
set_option maxRecDepth 100000 in
set_option maxHeartbeats 4000000 in
theorem rkeep_any (base : Nat) (v : Value) (l : List K) (x : K) (w : World) (hown : w.ownsRow base 34 4 v l.length (l.flatMap keptV)) (hl : l.length ≤ 1000) (hbase : base ≤ w.heap.size) :
    Calls Try.prog 12 #[v, kv x] w fun e w' => ∃ v', e = .returned v' ∧ w'.ownsRow base 34 4 v' (keepL l x).length ((keepL l x).flatMap keptV) ∧ Below w.heap.size w w' := by
  have hrd : RdT keptV w v l := RdT.owns hown
  have hxl := rows_length keptV 4 keptV_len l
  by_cases h : (lookT (tabK l) x.c x.q).2.2 = 1
  · have HK := Lib.hid (show keepL l x = l ++ [x] by unfold keepL; rw [if_pos h])
    have HL := Lib.hid (fun w h => rlook_any v l x.c x.q w h)
    obtain ⟨a, b, d, hlk⟩ : ∃ a b d, lookT (tabK l) x.c x.q = (a, b, d) := ⟨_, _, _, rfl⟩
    rw [hlk] at h HL
    obtain rfl : d = 1 := h
    clear hlk
    go_enter Try.func12, Try.ntmps12
    go_wp2_with fail
    refine (HL.out _ (hrd.later (below1 w _))).mono ?_
    rintro e w1 ⟨rfl, b1⟩
    have k3 := (Blk.new w (.cells (kA x) 34)).later b1
    have hB1 := Below.later' (below1 w _) b1
    simp only [lookV]
    go_wp2_with fail
    have k3' := k3.alloc (.cells #[.int .u8 a, .string b] 25)
    have hB2 := hB1.alloc hB1.size (.cells #[.int .u8 a, .string b] 25)
    have zW := hB2.size
    clear k3 hB1 b1 HL
    generalize w1.alloc (.cells #[.int .u8 a, .string b] 25) = W at *
    have hrW : RdT keptV W v l := hrd.below hB2 (Nat.le_refl _)
    have c0 := fun w' (hb : Below W.heap.size W w') => (k3'.later hb).cell 0
    have c1 := fun w' (hb : Below W.heap.size W w') => (k3'.later hb).cell 1
    have c2 := fun w' (hb : Below W.heap.size W w') => (k3'.later hb).cell 2
    have c3 := fun w' (hb : Below W.heap.size W w') => (k3'.later hb).cell 3
    have B0 : Below W.heap.size W W.drew := Below.drew (Below.refl _ _)
    obtain ⟨p, cap, rfl, _⟩ := hrd.len
    clear hown hrd k3'
    refine wp_region_way (fun w' => Below W.heap.size W w') (.go 0 (.go 2 (.two 1 3 (.go 3 (.go 4 (.go 5 .nil))) (.go 1 (.go 4 (.go 5 .nil)))))) [1, 3, 4] (by kernel_rfl) (by kernel_rfl) (by intro c d v a w h; cases d <;> exact h) B0 ?_
    repeat (first
      | (refine wpWay_take (v := ?_) rfl rfl ?_ ?_ ?_; rotate_left; rfl; (· intro w' hSw; (try dsimp only at hSw); go_simp <;> with_reducible rfl); simp only [Act.put, List.setIfInBounds_toArray, List.set_cons_zero, List.set_cons_succ])
      | (refine wpWay_skip rfl rfl ?_ ?_; rfl; simp only [Act.put, List.setIfInBounds_toArray, List.set_cons_zero, List.set_cons_succ]))
    refine wpWay_two rfl rfl (fun K hK => ?_) (fun K hK => ?_)
    · go_wp2_with (at_builtin; go_loud (refine appNg rfl _ _ 22 rfl W.heap.size 34 (.agg #[.int .u8 0, .int .u32 0, .int .u8 0, .string ⟨#[]⟩]) 4 32 infoK Try.underlying22 rfl (by decide) _ (.slice none 0 0) 0 [] ⟨rfl, .inl ⟨rfl, rfl⟩⟩ rfl (.slice p l.length cap) l.length (l.flatMap keptV) (hrW.later B0) (by rw [rows_length keptV 4 keptV_len]) (by intro u hu; obtain ⟨y, _, hy⟩ := List.mem_flatMap.1 hu; simp [keptV] at hy; rcases hy with rfl | rfl | rfl | rfl <;> rfl) rfl (by omega) (by omega) B0.size ?_; intro va wa hoa ga))
      have Ba := ga.below B0 B0.size (fun b hb => by cases hb)
      rw [Nat.zero_add, List.nil_append] at hoa
      refine hK.out _ _ Ba ?_
      clear hK K
      repeat (first
        | (refine wpWay_take (v := ?_) rfl rfl ?_ ?_ ?_; rotate_left; rfl; (· intro w' hSw; (try dsimp only at hSw); go_simp <;> with_reducible rfl); simp only [Act.put, List.setIfInBounds_toArray, List.set_cons_zero, List.set_cons_succ])
        | (refine wpWay_skip rfl rfl ?_ ?_; rfl; simp only [Act.put, List.setIfInBounds_toArray, List.set_cons_zero, List.set_cons_succ]))
      refine wpWay_eff rfl rfl (fun K hK => ?_)
      go_wp2_with fail
      refine hK.out _ _ (Ba.alloc Ba.size _) ?_
      clear hK K
      repeat (first
        | (refine wpWay_take (v := ?_) rfl rfl ?_ ?_ ?_; rotate_left; rfl; (· intro w' hSw; (try dsimp only at hSw); go_simp <;> with_reducible rfl); simp only [Act.put, List.setIfInBounds_toArray, List.set_cons_zero, List.set_cons_succ])
        | (refine wpWay_skip rfl rfl ?_ ?_; rfl; simp only [Act.put, List.setIfInBounds_toArray, List.set_cons_zero, List.set_cons_succ]))
      refine wpWay_eff rfl rfl (fun K hK => ?_)
      go_wp2_with (at_builtin; go_loud (refine appSt rfl _ _ 22 rfl W.heap.size 34 (.agg #[.int .u8 0, .int .u32 0, .int .u8 0, .string ⟨#[]⟩]) 4 32 infoK Try.underlying22 rfl (by decide) _ (kA x) _ rfl (by intro u hu; simp at hu; rcases hu with rfl | rfl | rfl | rfl <;> rfl) va l.length (l.flatMap keptV) hoa rfl _ (by simp) rfl (by omega) (by omega) Ba.size ?_; intro vb wb hob gb))
      have Bb := gb.below Ba Ba.size (fun c hc => (hoa.lt c hc).1)
      refine hK.out _ _ Bb ?_
      clear hK K
      repeat (first
        | (refine wpWay_take (v := ?_) rfl rfl ?_ ?_ ?_; rotate_left; rfl; (· intro w' hSw; (try dsimp only at hSw); go_simp <;> with_reducible rfl); simp only [Act.put, List.setIfInBounds_toArray, List.set_cons_zero, List.set_cons_succ])
        | (refine wpWay_skip rfl rfl ?_ ?_; rfl; simp only [Act.put, List.setIfInBounds_toArray, List.set_cons_zero, List.set_cons_succ]))
      refine wpWay_nil ?_
      go_wp2_with fail
      go_ret
      exact ⟨_, rfl, by rw [HK.out, List.length_append, List.flatMap_append]; exact own_lower hob (Nat.le_trans hbase zW), hB2.trans (Bb.mono zW)⟩
    · go_wp2_with fail
      have Bn := B0.alloc B0.size (.cells (kA x) 34)
      have hrx := rdV_block W.drew (kA x) 34 1 1 (by omega)
      obtain ⟨Wd, hWd⟩ : ∃ Wd, W.drew.alloc (.cells (kA x) 34) = Wd := ⟨_, rfl⟩
      have hWd' : (W.alloc (.cells (kA x) 34)).drew = Wd := hWd
      rw [hWd] at Bn hrx
      rw [hWd']
      clear hWd hWd'
      refine hK.out _ _ Bn ?_
      clear hK K
      repeat (first
        | (refine wpWay_take (v := ?_) rfl rfl ?_ ?_ ?_; rotate_left; rfl; (· intro w' hSw; (try dsimp only at hSw); go_simp <;> with_reducible rfl); simp only [Act.put, List.setIfInBounds_toArray, List.set_cons_zero, List.set_cons_succ])
        | (refine wpWay_skip rfl rfl ?_ ?_; rfl; simp only [Act.put, List.setIfInBounds_toArray, List.set_cons_zero, List.set_cons_succ]))
      refine wpWay_eff rfl rfl (fun K hK => ?_)
      go_wp2_with (at_builtin; go_loud (refine appNg rfl _ _ 22 rfl W.heap.size 34 (.agg #[.int .u8 0, .int .u32 0, .int .u8 0, .string ⟨#[]⟩]) 4 32 infoK Try.underlying22 rfl (by decide) _ (.slice none 0 0) 0 [] ⟨rfl, .inl ⟨rfl, rfl⟩⟩ rfl (.slice p l.length cap) l.length (l.flatMap keptV) (hrW.later Bn) (by rw [rows_length keptV 4 keptV_len]) (by intro u hu; obtain ⟨y, _, hy⟩ := List.mem_flatMap.1 hu; simp [keptV] at hy; rcases hy with rfl | rfl | rfl | rfl <;> rfl) rfl (by omega) (by omega) Bn.size ?_; intro va wa hoa ga))
      have Ba := ga.below Bn Bn.size (fun b hb => by cases hb)
      have Bd : Below Wd.heap.size Wd wa := ga.below (Below.refl _ _) (Nat.le_refl _) (fun b hb => by cases hb)
      rw [Nat.zero_add, List.nil_append] at hoa
      refine hK.out _ _ Ba ?_
      clear hK K
      repeat (first
        | (refine wpWay_take (v := ?_) rfl rfl ?_ ?_ ?_; rotate_left; rfl; (· intro w' hSw; (try dsimp only at hSw); go_simp <;> with_reducible rfl); simp only [Act.put, List.setIfInBounds_toArray, List.set_cons_zero, List.set_cons_succ])
        | (refine wpWay_skip rfl rfl ?_ ?_; rfl; simp only [Act.put, List.setIfInBounds_toArray, List.set_cons_zero, List.set_cons_succ]))
      refine wpWay_eff rfl rfl (fun K hK => ?_)
      go_wp2_with (at_builtin; go_loud (refine appNg rfl _ _ 22 rfl W.heap.size 34 (.agg #[.int .u8 0, .int .u32 0, .int .u8 0, .string ⟨#[]⟩]) 4 32 infoK Try.underlying22 rfl (by decide) _ va l.length (l.flatMap keptV) hoa rfl _ 1 (keptV x) (hrx.below Bd (Nat.le_refl _)) rfl (by intro u hu; simp [keptV] at hu; rcases hu with rfl | rfl | rfl | rfl <;> rfl) rfl (by omega) (by omega) Ba.size ?_; intro vb wb hob gb))
      have Bb := gb.below Ba Ba.size (fun c hc => (hoa.lt c hc).1)
      refine hK.out _ _ Bb ?_
      clear hK K
      repeat (first
        | (refine wpWay_take (v := ?_) rfl rfl ?_ ?_ ?_; rotate_left; rfl; (· intro w' hSw; (try dsimp only at hSw); go_simp <;> with_reducible rfl); simp only [Act.put, List.setIfInBounds_toArray, List.set_cons_zero, List.set_cons_succ])
        | (refine wpWay_skip rfl rfl ?_ ?_; rfl; simp only [Act.put, List.setIfInBounds_toArray, List.set_cons_zero, List.set_cons_succ]))
      refine wpWay_nil ?_
      go_wp2_with fail
      go_ret
      exact ⟨_, rfl, by rw [HK.out, List.length_append, List.flatMap_append, List.flatMap_singleton]; exact own_lower hob (Nat.le_trans hbase zW), hB2.trans (Bb.mono zW)⟩
  · have HK := Lib.hid (show keepL l x = l by unfold keepL; rw [if_neg h])
    have HL := Lib.hid (fun w h => rlook_any v l x.c x.q w h)
    obtain ⟨a, b, d, hlk⟩ : ∃ a b d, lookT (tabK l) x.c x.q = (a, b, d) := ⟨_, _, _, rfl⟩
    rw [hlk] at h HL
    have hd1 : ((d : Int) == 1) = false := beq_eq_false_iff_ne.2 (by simp only [] at h; omega)
    have hd2 : ((d : Int) != 1) = true := by simp only [bne, hd1]; rfl
    clear hlk h
    go_enter Try.func12, Try.ntmps12
    go_wp2_with fail
    refine (HL.out _ (hrd.later (below1 w _))).mono ?_
    rintro e w1 ⟨rfl, b1⟩
    have hB1 := Below.later' (below1 w _) b1
    have hB2 := hB1.alloc hB1.size (.cells #[.int .u8 a, .string b] 25)
    simp only [lookV]
    go_wp2
    go_ret
    exact ⟨_, rfl, by rw [HK.out]; exact ownsRow_below hown hB2, hB2⟩
end Ses
end Go.Proofs.Ytidgeljkihamhaa
