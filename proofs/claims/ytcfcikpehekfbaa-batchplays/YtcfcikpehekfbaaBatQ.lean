/-
  The queue: New, Put, Take, Done, All.
-/
import Derived.Test.YtcfcikpehekfbaaBatDel
import Derived.Test.YtcfcikpehekfbaaCmdCheck
namespace Go.Proofs.Ytcfcikpehekfbaa
open Go.RowKit Go.WideShapes
namespace Bat
/-- What a queue's act leaves: all blocks but its own and its row's. -/
structure Moved (w : World) (qb : Nat) (v : Value) (w' : World) (v' : Value) : Prop where
  os : w'.os = w.os
  tape : w'.tape = w.tape
  output : w'.output = w.output
  size : w.heap.size ≤ w'.heap.size
  block : ∀ k, k < w.heap.size → k ≠ qb → some k ≠ v.ownBlock → w'.heap[k]? = w.heap[k]?
  own : v'.ownBlock = v.ownBlock ∨ ∀ b, v'.ownBlock = some b → w.heap.size ≤ b
theorem Moved.of_below {w w' : World} (qb : Nat) (v : Value) (h : Below w.heap.size w w') : Moved w qb v w' v := ⟨h.os, h.tape, h.output, h.size, fun k hk _ _ => h.block k hk, .inl rfl⟩
theorem Moved.of_grew {w w' : World} {v v' : Value} (qb : Nat) (h : Grew w v w' v') : Moved w qb v w' v' := ⟨h.1.os, h.1.tape, h.1.output, h.1.size, fun k hk _ h2 => h.1.block k hk h2, h.2⟩
theorem Moved.trans {w w1 w2 : World} {qb : Nat} {v v1 v2 : Value} (h : Moved w qb v w1 v1) (g : Moved w1 qb v1 w2 v2) : Moved w qb v w2 v2 := by
  refine ⟨g.os.trans h.os, g.tape.trans h.tape, g.output.trans h.output, Nat.le_trans h.size g.size, fun k hk h1 h2 => ?_, ?_⟩
  · refine (g.block k (Nat.lt_of_lt_of_le hk h.size) h1 ?_).trans (h.block k hk h1 h2)
    rcases h.own with e | e
    · rw [e]; exact h2
    · intro e2; have := e k e2.symm; omega
  · rcases g.own with e | e
    · rw [e]; exact h.own
    · exact .inr fun b hb => Nat.le_trans h.size (e b hb)
theorem Moved.set {w w1 : World} {qb : Nat} {v v1 : Value} (h : Moved w qb v w1 v1) (j : Nat) (u : Value) : Moved w qb v (w1.setCell ⟨qb, j, none⟩ u) v1 :=
  ⟨h.os, h.tape, h.output, by simpa using h.size, fun k hk h1 h2 => (Below.heap_setCell _ _ _ _ h1).trans (h.block k hk h1 h2), h.own⟩
theorem Moved.below {B : Nat} {a w w' : World} {qb : Nat} {v v' : Value} (h : Moved w qb v w' v') (hb : Below B a w) (hB : B ≤ w.heap.size) (hq : B ≤ qb) (hv : ∀ b, v.ownBlock = some b → B ≤ b) : Below B a w' :=
  hb.trans ⟨h.os, h.tape, h.output, Nat.le_trans (Nat.le_refl _) h.size, fun k hk => h.block k (Nat.lt_of_lt_of_le hk hB) (by omega) (fun e => by have := hv k e.symm; omega)⟩
theorem Moved.blk {w w' : World} {qb : Nat} {v v' : Value} {b : Nat} {o : Obj} (h : Moved w qb v w' v') (hb : Blk w b o) (h1 : b ≠ qb) (h2 : some b ≠ v.ownBlock) : Blk w' b o := (h.block b hb.lt h1 h2).trans hb
theorem rd_kept {w w' : World} {u : Value} {l : List Cm} (h : RdT Cm.cells w u l) (hk : ∀ b, u.ownBlock = some b → b < w.heap.size → w'.heap[b]? = w.heap[b]?) : RdT Cm.cells w' u l := by
  obtain ⟨p, cap, rfl, hn, hc, h0⟩ := h
  refine ⟨p, cap, rfl, hn, fun j x hj => ?_, h0⟩
  obtain ⟨b, off, rfl, hcell⟩ := hc j x hj
  refine ⟨b, off, rfl, ?_⟩
  have := hk b rfl (World.block_lt_of_cell? w _ hcell)
  rw [← hcell]
  simp [World.cell?, this]
theorem Moved.rd {w w' : World} {qb : Nat} {v v' u : Value} {l : List Cm} (h : Moved w qb v w' v') (hr : RdT Cm.cells w u l) (h1 : some qb ≠ u.ownBlock) (h2 : Apart u v) : RdT Cm.cells w' u l :=
  rd_kept hr fun b hb hlt => h.block b hlt (fun e => h1 (by rw [hb, e])) (fun e => by rcases h2 with g | g; (rw [g] at hb; cases hb); exact g (hb.trans e))
/-- A queue's block, and its row. -/
structure Que (w : World) (base qb : Nat) (v : Value) (l : List Cm) : Prop where
  blk : Blk w qb (.cells #[v] 50)
  row : w.ownsRow base 30 7 v l.length (flat l)
  apart : some qb ≠ v.ownBlock
  base : base ≤ qb
theorem own_base {w : World} {base : Nat} {e : TypeId} {size : Nat} {v : Value} {n : Nat} {xs : List Value} (h : w.ownsRow base e size v n xs) : ∀ b, v.ownBlock = some b → base ≤ b := by
  intro b hb
  rcases h.2 with ⟨rfl, _⟩ | ⟨g, cap, cur, rfl, hg, _⟩
  · cases hb
  · cases hb; exact hg
theorem own_lower {w : World} {b1 b2 : Nat} {e : TypeId} {size : Nat} {v : Value} {n : Nat} {xs : List Value} (h : w.ownsRow b1 e size v n xs) (hb : b2 ≤ b1) : w.ownsRow b2 e size v n xs := by
  refine ⟨h.1, ?_⟩
  rcases h.2 with h2 | ⟨g, cap, cur, e, hbg, h3⟩
  · exact .inl h2
  · exact .inr ⟨g, cap, cur, e, Nat.le_trans hb hbg, h3⟩
theorem Que.moved {w w' : World} {base qb : Nat} {v v' : Value} {l : List Cm} (q : Que w base qb v l) {a : World} {B : Nat} (h : Moved w qb v w' v') (hb : Below B a w) (hB : B ≤ base) (hs : B ≤ w.heap.size) : Below B a w' :=
  h.below hb hs (Nat.le_trans hB q.base) (fun b e => Nat.le_trans hB (own_base q.row b e))
theorem Que.below {w w' : World} {base qb : Nat} {v : Value} {l : List Cm} (q : Que w base qb v l) (hb : Below w.heap.size w w') : Que w' base qb v l := ⟨q.blk.later hb, ownsRow_below q.row hb, q.apart, q.base⟩
theorem Que.drew {w : World} {base qb : Nat} {v : Value} {l : List Cm} (q : Que w base qb v l) : Que w.drew base qb v l := q.below (Below.drew (Below.refl _ _))
/-- The row has turned into another one of its own; the queue's cell is written. -/
theorem Que.store {w w1 : World} {base qb : Nat} {v v' : Value} {l l' : List Cm} (q : Que w base qb v l) (g : Grew w v w1 v') (ho : w1.ownsRow base 30 7 v' l'.length (flat l')) :
    Que (w1.setCell ⟨qb, 0, none⟩ v') base qb v' l' ∧ Moved w qb v (w1.setCell ⟨qb, 0, none⟩ v') v' := by
  have hne : some qb ≠ v'.ownBlock := by
    rcases g.2 with e | e
    · rw [e]; exact q.apart
    · intro e2; have := e qb e2.symm; have := q.blk.lt; omega
  refine ⟨⟨?_, ownsRow_blkset ho hne v', hne, q.base⟩, (Moved.of_grew qb g).set 0 v'⟩
  exact ((q.blk.grown g.1 q.apart).set 0 v')
theorem new_any (w : World) : Calls Try.prog 9 #[] w fun e w' => e = .returned (.pointer (some ⟨w.heap.size, 0, none⟩)) ∧ Que w' w.heap.size w.heap.size (.slice none 0 0) [] ∧ Below w.heap.size w w' := by
  go_enter Try.func9, Try.ntmps9
  go_wp2
  go_ret
  exact ⟨rfl, ⟨Blk.new _ _, ⟨rfl, .inl ⟨rfl, rfl⟩⟩, by simp [Value.ownBlock], Nat.le_refl _⟩, below1 w _⟩
set_option maxHeartbeats 1000000 in
theorem dropP_any (cl cb : Nat) (base qb : Nat) (v : Value) (l : List Cm) (hl : l.length ≤ 100000) (w : World) (q : Que w base qb v l) (hc : ∀ w', w.grownBy w' v.ownBlock → w'.cell? ⟨cb, 0, none⟩ = some (.int .u8 cl)) :
    Calls Try.prog 21 #[.pointer (some ⟨qb, 0, none⟩), .func (.func 27) #[] #[.pointer (some ⟨cb, 0, none⟩)]] w fun e w' => e = .returned (.tuple #[]) ∧ ∃ v', Que w' base qb v' (l.filter (fun x => !(fun x => decide (x.cl = cl)) x)) ∧ Moved w qb v w' v' := by
  have HD := Lib.hid (delP_any cl cb base v l hl w q.row hc)
  have HQ := Lib.hid q
  have c0 := q.blk.cell 0
  clear q hc
  generalize l.filter (fun x => !(fun x => decide (x.cl = cl)) x) = l' at HD ⊢
  go_enter Try.func21, Try.ntmps21
  go_wp2_with fail
  refine HD.out.mono ?_
  rintro e w1 ⟨v', rfl, ho, g⟩
  have k1 := HQ.out.blk.grown g.1 HQ.out.apart
  have c1 := k1.cell 0
  have f1 := k1.frozen 0
  have hz := HQ.out.store g ho
  obtain ⟨p2, cap2, hv2, _⟩ := RdV.owns ho
  subst hv2
  clear c0
  go_wp2_with fail

  go_end0
  exact ⟨rfl, _, hz⟩
set_option maxHeartbeats 1000000 in
theorem dropD_any (cl sq cb sb : Nat) (base qb : Nat) (v : Value) (l : List Cm) (hl : l.length ≤ 100000) (w : World) (q : Que w base qb v l) (hc : ∀ w', w.grownBy w' v.ownBlock → (w'.cell? ⟨cb, 0, none⟩ = some (.int .u8 cl) ∧ w'.cell? ⟨sb, 0, none⟩ = some (.int .u32 sq))) :
    Calls Try.prog 21 #[.pointer (some ⟨qb, 0, none⟩), .func (.func 22) #[] #[.pointer (some ⟨cb, 0, none⟩), .pointer (some ⟨sb, 0, none⟩)]] w fun e w' => e = .returned (.tuple #[]) ∧ ∃ v', Que w' base qb v' (l.filter (fun x => !(fun x => decide (x.cl = cl ∧ x.sq ≤ sq)) x)) ∧ Moved w qb v w' v' := by
  have HD := Lib.hid (delD_any cl sq cb sb base v l hl w q.row hc)
  have HQ := Lib.hid q
  have c0 := q.blk.cell 0
  clear q hc
  generalize l.filter (fun x => !(fun x => decide (x.cl = cl ∧ x.sq ≤ sq)) x) = l' at HD ⊢
  go_enter Try.func21, Try.ntmps21
  go_wp2_with fail
  refine HD.out.mono ?_
  rintro e w1 ⟨v', rfl, ho, g⟩
  have k1 := HQ.out.blk.grown g.1 HQ.out.apart
  have c1 := k1.cell 0
  have f1 := k1.frozen 0
  have hz := HQ.out.store g ho
  obtain ⟨p2, cap2, hv2, _⟩ := RdV.owns ho
  subst hv2
  clear c0
  go_wp2_with fail

  go_end0
  exact ⟨rfl, _, hz⟩
def pos (c : Nat) (l : List Cm) : Option Cm := l[l.findIdx (fun y => decide (y.cl = c))]?
/-- What Put leaves, and answers. -/
def qPut (l : List Cm) (x : Cm) : List Cm × Int :=
  if x.may then
    match pos x.cl l with
    | none => (l ++ [x], 0)
    | some o => if o.sq = x.sq then (l, 0) else if x.sq < o.sq then (l, 12) else (l.filter (fun y => !decide (y.cl = x.cl)) ++ [x], 0)
  else (l, 2)
def qDone (l : List Cm) (cl sq : Nat) : List Cm := l.filter (fun y => !decide (y.cl = cl ∧ y.sq ≤ sq))
theorem clone_own (v : Value) (l : List Cm) (hl : l.length ≤ 1000000) (w : World) (hv : RdT Cm.cells w v l) :
    Calls Try.prog 20 #[v] w fun e w' => ∃ p c, e = .returned (.slice p l.length c) ∧ w'.ownsRow w.heap.size 30 7 (.slice p l.length c) l.length (flat l) ∧ Below w.heap.size w w' := by
  refine (clone_any v l hl w hv).mono ?_
  rintro e w' ⟨v', rfl, ho, b⟩
  obtain ⟨p, c, rfl, _⟩ := RdV.owns ho
  exact ⟨p, c, rfl, ho, b⟩
set_option maxHeartbeats 1000000 in
theorem all_any (base qb : Nat) (v : Value) (l : List Cm) (hl : l.length ≤ 100000) (w : World) (q : Que w base qb v l) :
    Calls Try.prog 17 #[.pointer (some ⟨qb, 0, none⟩)] w fun e w' => ∃ v', e = .returned v' ∧ w'.ownsRow w.heap.size 30 7 v' l.length (flat l) ∧ Below w.heap.size w w' := by
  have c0 := q.blk.cell 0
  have HC := Lib.hid (clone_own v l (by omega) w (RdT.owns q.row))
  clear q
  go_enter Try.func17, Try.ntmps17
  go_wp2_with fail
  refine HC.out.mono ?_
  rintro e w1 ⟨p, c, rfl, ho, b1⟩
  go_wp2
  go_ret
  exact ⟨_, rfl, ho, b1⟩
set_option maxHeartbeats 1000000 in
theorem qdone_any (base qb : Nat) (v : Value) (l : List Cm) (hl : l.length ≤ 100000) (cl sq : Nat) (w : World) (q : Que w base qb v l) :
    Calls Try.prog 13 #[.pointer (some ⟨qb, 0, none⟩), .int .u8 cl, .int .u32 sq] w fun e w' => e = .returned (.tuple #[]) ∧ ∃ v', Que w' base qb v' (qDone l cl sq) ∧ Moved w qb v w' v' := by
  have z := q.blk.lt
  have zr : ∀ b, v.ownBlock = some b → b < w.heap.size := fun b hb => (q.row.lt b hb).2
  have k1 : Blk ((w.alloc (.cells #[.int .u8 cl] 5)).alloc (.cells #[.int .u32 sq] 28)) w.heap.size _ := Blk.alloc (Blk.new w (.cells #[.int .u8 cl] 5)) _
  have k2 : Blk ((w.alloc (.cells #[.int .u8 cl] 5)).alloc (.cells #[.int .u32 sq] 28)) (w.heap.size + 1) _ := Blk.newAt _ (by simp)
  have b2 := below2 w (.cells #[.int .u8 cl] 5) (.cells #[.int .u32 sq] 28)
  have hq := Lib.hid (q.below b2)
  clear q
  go_enter Try.func13, Try.ntmps13
  go_wp2_with fail
  generalize (w.alloc (.cells #[.int .u8 cl] 5)).alloc (.cells #[.int .u32 sq] 28) = W at k1 k2 b2 hq ⊢
  refine (dropD_any cl sq w.heap.size (w.heap.size + 1) base qb v l hl W hq.out (fun w' g => ⟨by rw [(k1.grown g (fun e => by have := zr _ e.symm; omega)).cell]; rfl, by rw [(k2.grown g (fun e => by have := zr _ e.symm; omega)).cell]; rfl⟩)).mono ?_
  rintro e w1 ⟨rfl, v', q', m⟩
  go_wp2
  go_end0
  exact ⟨rfl, v', q', (Moved.of_below qb v b2).trans m⟩
theorem qPut_none (l : List Cm) (x : Cm) (hm : x.may) (h : idx (fun y => decide (y.cl = x.cl)) l = -1) : qPut l x = (l ++ [x], 0) := by
  have h1 : pos x.cl l = none := by
    unfold pos
    rw [List.getElem?_eq_none]
    unfold idx at h
    split at h
    · omega
    · omega
  unfold qPut
  rw [if_pos hm, h1]
theorem qPut_some (l : List Cm) (x : Cm) (i : Nat) (hi : i < l.length) (hm : x.may) (h : idx (fun y => decide (y.cl = x.cl)) l = i) : qPut l x = if (l[i]).sq = x.sq then (l, 0) else if x.sq < (l[i]).sq then (l, 12) else (l.filter (fun y => !decide (y.cl = x.cl)) ++ [x], 0) := by
  have h1 : pos x.cl l = some l[i] := by
    unfold pos
    have : l.findIdx (fun y => decide (y.cl = x.cl)) = i := by
      unfold idx at h
      split at h <;> omega
    rw [this, List.getElem?_eq_getElem hi]
  unfold qPut
  rw [if_pos hm, h1]
set_option maxRecDepth 100000 in
set_option maxHeartbeats 4000000 in
theorem put_any (base qb : Nat) (v : Value) (l : List Cm) (hl : l.length ≤ 10000) (x : Cm) (hx : x.ok) (w : World) (q : Que w base qb v l) :
    Calls Try.prog 16 #[.pointer (some ⟨qb, 0, none⟩), x.val] w fun e w' => ∃ v', e = .returned (.int .i64 (qPut l x).2) ∧ Que w' base qb v' (qPut l x).1 ∧ Moved w qb v w' v' := by
  have hneq : w.heap.size ≠ qb := by have := q.blk.lt; omega
  have hcbv : some w.heap.size ≠ v.ownBlock := fun e => by have := (q.row.lt _ e.symm).2; omega
  have hb1 := below1 w (.cells #[.int .u8 x.cl, .int .u32 x.sq, .int .u8 x.kd, .string x.key, .string x.old, .string x.new, .int .u8 x.set] 30)
  have kB := Blk.new w (.cells #[.int .u8 x.cl, .int .u32 x.sq, .int .u8 x.kd, .string x.key, .string x.old, .string x.new, .int .u8 x.set] 30)
  have q1 := q.below hb1
  have zw : w.heap.size < (w.alloc (.cells #[.int .u8 x.cl, .int .u32 x.sq, .int .u8 x.kd, .string x.key, .string x.old, .string x.new, .int .u8 x.set] 30)).heap.size := kB.lt
  go_enter Try.func16, Try.ntmps16
  go_wp2_with fail
  generalize w.alloc (.cells #[.int .u8 x.cl, .int .u32 x.sq, .int .u8 x.kd, .string x.key, .string x.old, .string x.new, .int .u8 x.set] 30) = W at *
  have MM := Moved.of_below qb v hb1
  refine (Cm.check_any x hx W).mono ?_
  rintro e w1 ⟨rfl, b1⟩
  have kB := kB.later b1
  have q1 := q1.below b1
  have MM := MM.trans (Moved.of_below qb v b1)
  clear b1 hb1 zw
  by_cases hm : x.may
  · have hch : Cm.chk x = 0 := if_pos hm
    rw [hch]
    have HC := Lib.hid (idxP_any x.cl w.heap.size v l w1 (RdT.owns q1.row) (fun w' h => by rw [(kB.later h).cell]; rfl))
    have c0 := q1.blk.cell 0
    clear hch
    rcases idx_cases (fun y => decide (y.cl = x.cl)) l with ⟨h1, h2⟩ | ⟨i, hi, h1, hpi, hpre⟩
    · rw [h1] at HC
      have HR := Lib.hid (show qPut l x = (l ++ [x], 0) from qPut_none l x hm h1)
      have d0 : decide ((0 : Int) ≤ -1) = false := by decide
      clear h1 h2
      go_wp2_with fail
      refine HC.out.mono ?_
      rintro e w2 ⟨rfl, b2⟩
      have kB := kB.later b2
      have q2 := q1.below b2
      have MM := MM.trans (Moved.of_below qb v b2)
      clear b2 HC c0 q1
      have hcb : some w.heap.size ≠ v.ownBlock := hcbv
      have hne : w.heap.size ≠ qb := hneq
      have q5 := q2.drew
      have MM := MM.trans (Moved.of_below qb _ (show Below w2.heap.size w2 w2.drew from Below.drew (Below.refl _ _)))
      have hS0 : Blk w2.drew w.heap.size (.cells #[.int .u8 x.cl, .int .u32 x.sq, .int .u8 x.kd, .string x.key, .string x.old, .string x.new, .int .u8 x.set] 30) := kB.drew
      have hBq : base ≤ w2.drew.heap.size := Nat.le_of_lt (Nat.lt_of_le_of_lt q5.base q5.blk.lt)
      go_wp2_with fail
      refine wp_region_way (fun w' => Blk w' w.heap.size (.cells #[.int .u8 x.cl, .int .u32 x.sq, .int .u8 x.kd, .string x.key, .string x.old, .string x.new, .int .u8 x.set] 30)) (.go 0 (.go 1 (.go 2 (.go 3 (.go 5 (.two 4 6 (.go 6 (.go 7 (.go 8 (.go 9 (.go 10 .nil))))) (.go 4 (.go 7 (.go 8 (.go 9 (.go 10 .nil))))))))))) [4, 6, 7, 10] (by kernel_rfl) (by kernel_rfl) (by intro c d v a w h; cases d <;> exact h) hS0 ?_
      have hF := fun (w' : World) (j : Nat) (hb : Blk w' w.heap.size (.cells #[.int .u8 x.cl, .int .u32 x.sq, .int .u8 x.kd, .string x.key, .string x.old, .string x.new, .int .u8 x.set] 30)) => hb.cell j
      obtain ⟨Wd, hWd⟩ : ∃ Wd, w2.drew = Wd := ⟨_, rfl⟩
      rw [hWd] at q5 hS0 hBq MM ⊢
      clear hWd
      have hS := hS0
      obtain ⟨LL, hLL⟩ : ∃ LL, l = LL := ⟨_, rfl⟩
      rw [hLL] at q5
      have hLen : LL.length ≤ 100000 := by rw [← hLL]; omega
      repeat (first
        | (refine wpWay_take (v := ?_) rfl rfl ?_ ?_ ?_; rotate_left; rfl; (· intro w' hSw; (try dsimp only at hSw); go_simp <;> with_reducible rfl); simp only [Act.put, List.setIfInBounds_toArray, List.set_cons_zero, List.set_cons_succ])
        | (refine wpWay_skip rfl rfl ?_ ?_; rfl; simp only [Act.put, List.setIfInBounds_toArray, List.set_cons_zero, List.set_cons_succ]))
      refine wpWay_two rfl rfl (fun K hK => ?_) (fun K hK => ?_)
      · have c0 := q5.blk.cell 0
        go_wp2_with fail
        refine hK.out _ _ hS ?_
        clear hK K
        repeat (first
          | (refine wpWay_take (v := ?_) rfl rfl ?_ ?_ ?_; rotate_left; rfl; (· intro w' hSw; (try dsimp only at hSw); go_simp <;> with_reducible rfl); simp only [Act.put, List.setIfInBounds_toArray, List.set_cons_zero, List.set_cons_succ])
          | (refine wpWay_skip rfl rfl ?_ ?_; rfl; simp only [Act.put, List.setIfInBounds_toArray, List.set_cons_zero, List.set_cons_succ]))
        refine wpWay_eff rfl rfl (fun K hK => ?_)
        go_wp2_with fail
        have hS := Blk.alloc hS (.cells #[.int .u8 x.cl, .int .u32 x.sq, .int .u8 x.kd, .string x.key, .string x.old, .string x.new, .int .u8 x.set] 30)
        have q6 := q5.below (below1 Wd (.cells #[.int .u8 x.cl, .int .u32 x.sq, .int .u8 x.kd, .string x.key, .string x.old, .string x.new, .int .u8 x.set] 30))
        have c1 := q6.blk.cell 0
        refine hK.out _ _ hS ?_
        clear hK K
        repeat (first
          | (refine wpWay_take (v := ?_) rfl rfl ?_ ?_ ?_; rotate_left; rfl; (· intro w' hSw; (try dsimp only at hSw); go_simp <;> with_reducible rfl); simp only [Act.put, List.setIfInBounds_toArray, List.set_cons_zero, List.set_cons_succ])
          | (refine wpWay_skip rfl rfl ?_ ?_; rfl; simp only [Act.put, List.setIfInBounds_toArray, List.set_cons_zero, List.set_cons_succ]))
        refine wpWay_eff rfl rfl (fun K hK => ?_)
        refine appSt rfl _ _ 27 rfl base 30 Cm.zero.val 7 72 infoC Try.underlying27 rfl (by decide) Wd #[.int .u8 x.cl, .int .u32 x.sq, .int .u8 x.kd, .string x.key, .string x.old, .string x.new, .int .u8 x.set] 30 rfl (by intro u hu; simp at hu; rcases hu with rfl | rfl | rfl | rfl | rfl | rfl | rfl <;> rfl) _ LL.length (flat LL) q5.row rfl _ rfl rfl (by omega) (by omega) hBq ?_
        intro v2 w6 ho6 g6
        have hS6 : Blk w6 w.heap.size (.cells #[.int .u8 x.cl, .int .u32 x.sq, .int .u8 x.kd, .string x.key, .string x.old, .string x.new, .int .u8 x.set] 30) := hS0.grown g6.1 hcb
        have ho6' : w6.ownsRow base 30 7 v2 (LL ++ [x]).length (flat (LL ++ [x])) := by
          have e : flat (LL ++ [x]) = flat LL ++ x.cells := by unfold flat; rw [List.flatMap_append]; simp
          rw [e, List.length_append]; exact ho6
        have hz := q5.store g6 ho6'
        have k6 := q5.blk.grown g6.1 q5.apart
        obtain ⟨p2, cap2, hv2, _⟩ := RdV.owns ho6
        subst hv2
        clear ho6 ho6' g6
        go_wp2_with fail
        refine hK.out _ _ hS6 ?_
        clear hK K
        repeat (first
          | (refine wpWay_take (v := ?_) rfl rfl ?_ ?_ ?_; rotate_left; rfl; (· intro w' hSw; (try dsimp only at hSw); go_simp <;> with_reducible rfl); simp only [Act.put, List.setIfInBounds_toArray, List.set_cons_zero, List.set_cons_succ])
          | (refine wpWay_skip rfl rfl ?_ ?_; rfl; simp only [Act.put, List.setIfInBounds_toArray, List.set_cons_zero, List.set_cons_succ]))
        refine wpWay_eff rfl rfl (fun K hK => ?_)
        have c6 := k6.cell 0
        have f6 := k6.frozen 0
        go_wp2_with fail
        refine hK.out _ _ (hS6.other (a := ⟨qb, 0, none⟩) hne _) ?_
        clear hK K
        repeat (first
          | (refine wpWay_take (v := ?_) rfl rfl ?_ ?_ ?_; rotate_left; rfl; (· intro w' hSw; (try dsimp only at hSw); go_simp <;> with_reducible rfl); simp only [Act.put, List.setIfInBounds_toArray, List.set_cons_zero, List.set_cons_succ])
          | (refine wpWay_skip rfl rfl ?_ ?_; rfl; simp only [Act.put, List.setIfInBounds_toArray, List.set_cons_zero, List.set_cons_succ]))
        refine wpWay_nil ?_
        go_wp2_with fail
        go_ret
        refine ⟨.slice p2 (LL.length + 1) cap2, by rw [HR.out]; rfl, ?_, ?_⟩
        · rw [HR.out, hLL]; exact hz.1
        · exact MM.trans hz.2
      · go_wp2_with fail
        have hS := Blk.alloc hS (.cells #[.int .u8 x.cl, .int .u32 x.sq, .int .u8 x.kd, .string x.key, .string x.old, .string x.new, .int .u8 x.set] 30)
        have q6 := q5.below (below1 Wd (.cells #[.int .u8 x.cl, .int .u32 x.sq, .int .u8 x.kd, .string x.key, .string x.old, .string x.new, .int .u8 x.set] 30))
        have c1 := q6.blk.cell 0
        refine hK.out _ _ hS ?_
        clear hK K
        repeat (first
          | (refine wpWay_take (v := ?_) rfl rfl ?_ ?_ ?_; rotate_left; rfl; (· intro w' hSw; (try dsimp only at hSw); go_simp <;> with_reducible rfl); simp only [Act.put, List.setIfInBounds_toArray, List.set_cons_zero, List.set_cons_succ])
          | (refine wpWay_skip rfl rfl ?_ ?_; rfl; simp only [Act.put, List.setIfInBounds_toArray, List.set_cons_zero, List.set_cons_succ]))
        refine wpWay_eff rfl rfl (fun K hK => ?_)
        go_wp2_with fail
        refine hK.out _ _ hS ?_
        clear hK K
        repeat (first
          | (refine wpWay_take (v := ?_) rfl rfl ?_ ?_ ?_; rotate_left; rfl; (· intro w' hSw; (try dsimp only at hSw); go_simp <;> with_reducible rfl); simp only [Act.put, List.setIfInBounds_toArray, List.set_cons_zero, List.set_cons_succ])
          | (refine wpWay_skip rfl rfl ?_ ?_; rfl; simp only [Act.put, List.setIfInBounds_toArray, List.set_cons_zero, List.set_cons_succ]))
        refine wpWay_eff rfl rfl (fun K hK => ?_)
        refine appSt rfl _ _ 27 rfl base 30 Cm.zero.val 7 72 infoC Try.underlying27 rfl (by decide) Wd #[.int .u8 x.cl, .int .u32 x.sq, .int .u8 x.kd, .string x.key, .string x.old, .string x.new, .int .u8 x.set] 30 rfl (by intro u hu; simp at hu; rcases hu with rfl | rfl | rfl | rfl | rfl | rfl | rfl <;> rfl) _ LL.length (flat LL) q5.row rfl _ rfl rfl (by omega) (by omega) hBq ?_
        intro v2 w6 ho6 g6
        have hS6 : Blk w6 w.heap.size (.cells #[.int .u8 x.cl, .int .u32 x.sq, .int .u8 x.kd, .string x.key, .string x.old, .string x.new, .int .u8 x.set] 30) := hS0.grown g6.1 hcb
        have ho6' : w6.ownsRow base 30 7 v2 (LL ++ [x]).length (flat (LL ++ [x])) := by
          have e : flat (LL ++ [x]) = flat LL ++ x.cells := by unfold flat; rw [List.flatMap_append]; simp
          rw [e, List.length_append]; exact ho6
        have hz := q5.store g6 ho6'
        have k6 := q5.blk.grown g6.1 q5.apart
        obtain ⟨p2, cap2, hv2, _⟩ := RdV.owns ho6
        subst hv2
        clear ho6 ho6' g6
        go_wp2_with fail
        refine hK.out _ _ hS6 ?_
        clear hK K
        repeat (first
          | (refine wpWay_take (v := ?_) rfl rfl ?_ ?_ ?_; rotate_left; rfl; (· intro w' hSw; (try dsimp only at hSw); go_simp <;> with_reducible rfl); simp only [Act.put, List.setIfInBounds_toArray, List.set_cons_zero, List.set_cons_succ])
          | (refine wpWay_skip rfl rfl ?_ ?_; rfl; simp only [Act.put, List.setIfInBounds_toArray, List.set_cons_zero, List.set_cons_succ]))
        refine wpWay_eff rfl rfl (fun K hK => ?_)
        have c6 := k6.cell 0
        have f6 := k6.frozen 0
        go_wp2_with fail
        refine hK.out _ _ (hS6.other (a := ⟨qb, 0, none⟩) hne _) ?_
        clear hK K
        repeat (first
          | (refine wpWay_take (v := ?_) rfl rfl ?_ ?_ ?_; rotate_left; rfl; (· intro w' hSw; (try dsimp only at hSw); go_simp <;> with_reducible rfl); simp only [Act.put, List.setIfInBounds_toArray, List.set_cons_zero, List.set_cons_succ])
          | (refine wpWay_skip rfl rfl ?_ ?_; rfl; simp only [Act.put, List.setIfInBounds_toArray, List.set_cons_zero, List.set_cons_succ]))
        refine wpWay_nil ?_
        go_wp2_with fail
        go_ret
        refine ⟨.slice p2 (LL.length + 1) cap2, by rw [HR.out]; rfl, ?_, ?_⟩
        · rw [HR.out, hLL]; exact hz.1
        · exact MM.trans hz.2
    · rw [h1] at HC
      have HR := Lib.hid (qPut_some l x i hi hm h1)
      have d0 : decide ((0 : Int) ≤ (i : Int)) = true := decide_eq_true (by omega)
      clear h1 hpre
      go_wp2_with fail
      refine HC.out.mono ?_
      rintro e w2 ⟨rfl, b2⟩
      have kB := kB.later b2
      have q2 := q1.below b2
      have MM := MM.trans (Moved.of_below qb v b2)
      clear b2 HC c0 q1
      obtain ⟨o, ho⟩ : ∃ o, l[i] = o := ⟨_, rfl⟩
      obtain ⟨p, cap, hv, _⟩ := (RdT.owns q2.row).len
      have hrd : RdT Cm.cells w2 (.slice p l.length cap) l := hv ▸ RdT.owns q2.row
      obtain ⟨lb, off, hp, hg⟩ := hrd.at 7 (by decide) Cm.cells_len i hi
      subst hp
      subst hv
      rw [ho] at hg HR
      have g0 := hg 0 (by decide)
      have g1 := hg 1 (by decide)
      have g2 := hg 2 (by decide)
      have g3 := hg 3 (by decide)
      have g4 := hg 4 (by decide)
      have g5 := hg 5 (by decide)
      have g6 := hg 6 (by decide)
      simp only [Cm.cells, Nat.add_zero] at g0 g1 g2 g3 g4 g5 g6
      have c0 := q2.blk.cell 0
      clear hg hrd ho hpi
      have hil : decide ((i : Int) < (l.length : Int)) = true := decide_eq_true (by omega)
      have x1 := (Blk.alloc kB (.cells #[.int .u8 o.cl, .int .u32 o.sq, .int .u8 o.kd, .string o.key, .string o.old, .string o.new, .int .u8 o.set] 30)).cell 1
      by_cases e1 : o.sq = x.sq
      · have t1 : ((o.sq : Int) == (x.sq : Int)) = true := by rw [beq_iff_eq]; omega
        rw [if_pos e1] at HR
        clear e1
        go_wp2_with fail
        go_ret
        exact ⟨_, by rw [HR.out]; rfl, by rw [HR.out]; exact q2.below (below1 w2 _), MM.trans (Moved.of_below qb _ (below1 w2 _))⟩
      · have t1 : ((o.sq : Int) == (x.sq : Int)) = false := by rw [beq_eq_false_iff_ne]; omega
        rw [if_neg e1] at HR
        by_cases e2 : x.sq < o.sq
        · have t2 : decide ((x.sq : Int) < (o.sq : Int)) = true := decide_eq_true (by omega)
          have t3 : decide (x.sq < o.sq) = true := decide_eq_true e2
          rw [if_pos e2] at HR
          clear e1 e2
          go_wp2_with fail
          go_ret
          exact ⟨_, by rw [HR.out]; rfl, by rw [HR.out]; exact q2.below (below1 w2 _), MM.trans (Moved.of_below qb _ (below1 w2 _))⟩
        · have t2 : decide ((x.sq : Int) < (o.sq : Int)) = false := decide_eq_false (by omega)
          have t3 : decide (x.sq < o.sq) = false := decide_eq_false e2
          rw [if_neg e2] at HR
          clear e1 e2
          go_wp2_with fail
          have kB := kB.alloc (.cells #[.int .u8 o.cl, .int .u32 o.sq, .int .u8 o.kd, .string o.key, .string o.old, .string o.new, .int .u8 o.set] 30)
          have q3 := q2.below (below1 w2 (.cells #[.int .u8 o.cl, .int .u32 o.sq, .int .u8 o.kd, .string o.key, .string o.old, .string o.new, .int .u8 o.set] 30))
          have MM := MM.trans (Moved.of_below qb _ (below1 w2 (.cells #[.int .u8 o.cl, .int .u32 o.sq, .int .u8 o.kd, .string o.key, .string o.old, .string o.new, .int .u8 o.set] 30)))
          clear g0 g1 g2 g3 g4 g5 g6 c0 q2 x1
          have hW3 := kB.lt
          generalize w2.alloc (.cells #[.int .u8 o.cl, .int .u32 o.sq, .int .u8 o.kd, .string o.key, .string o.old, .string o.new, .int .u8 o.set] 30) = W3 at *
          refine (dropP_any x.cl w.heap.size base qb _ l (by omega) W3 q3 (fun w' g => by rw [(kB.grown g hcbv).cell]; rfl)).mono ?_
          rintro e w4 ⟨rfl, v4, q4, m4⟩
          have kB := m4.blk kB hneq hcbv
          have MM := MM.trans m4
          have hcb : some w.heap.size ≠ v4.ownBlock := by
            rcases m4.own with e | e
            · rw [e]; exact hcbv
            · intro e2; have := e _ e2.symm; have := q3.blk.lt; have := hW3; omega
          have hlen : (l.filter (fun y => !decide (y.cl = x.cl))).length ≤ l.length := List.length_filter_le _ _
          have hne : w.heap.size ≠ qb := hneq
          clear q3 m4
          have q5 := q4.drew
          have MM := MM.trans (Moved.of_below qb _ (show Below w4.heap.size w4 w4.drew from Below.drew (Below.refl _ _)))
          have hS0 : Blk w4.drew w.heap.size (.cells #[.int .u8 x.cl, .int .u32 x.sq, .int .u8 x.kd, .string x.key, .string x.old, .string x.new, .int .u8 x.set] 30) := kB.drew
          have hBq : base ≤ w4.drew.heap.size := Nat.le_of_lt (Nat.lt_of_le_of_lt q5.base q5.blk.lt)
          go_wp2_with fail
          refine wp_region_way (fun w' => Blk w' w.heap.size (.cells #[.int .u8 x.cl, .int .u32 x.sq, .int .u8 x.kd, .string x.key, .string x.old, .string x.new, .int .u8 x.set] 30)) (.go 0 (.go 1 (.go 2 (.go 3 (.go 5 (.two 4 6 (.go 6 (.go 7 (.go 8 (.go 9 (.go 10 .nil))))) (.go 4 (.go 7 (.go 8 (.go 9 (.go 10 .nil))))))))))) [4, 6, 7, 10] (by kernel_rfl) (by kernel_rfl) (by intro c d v a w h; cases d <;> exact h) hS0 ?_
          have hF := fun (w' : World) (j : Nat) (hb : Blk w' w.heap.size (.cells #[.int .u8 x.cl, .int .u32 x.sq, .int .u8 x.kd, .string x.key, .string x.old, .string x.new, .int .u8 x.set] 30)) => hb.cell j
          obtain ⟨Wd, hWd⟩ : ∃ Wd, w4.drew = Wd := ⟨_, rfl⟩
          rw [hWd] at q5 hS0 hBq MM ⊢
          clear hWd
          have hS := hS0
          obtain ⟨LL, hLL⟩ : ∃ LL, (l.filter (fun y => !decide (y.cl = x.cl))) = LL := ⟨_, rfl⟩
          rw [hLL] at q5
          have hLen : LL.length ≤ 100000 := by rw [← hLL]; omega
          repeat (first
            | (refine wpWay_take (v := ?_) rfl rfl ?_ ?_ ?_; rotate_left; rfl; (· intro w' hSw; (try dsimp only at hSw); go_simp <;> with_reducible rfl); simp only [Act.put, List.setIfInBounds_toArray, List.set_cons_zero, List.set_cons_succ])
            | (refine wpWay_skip rfl rfl ?_ ?_; rfl; simp only [Act.put, List.setIfInBounds_toArray, List.set_cons_zero, List.set_cons_succ]))
          refine wpWay_two rfl rfl (fun K hK => ?_) (fun K hK => ?_)
          · have c0 := q5.blk.cell 0
            go_wp2_with fail
            refine hK.out _ _ hS ?_
            clear hK K
            repeat (first
              | (refine wpWay_take (v := ?_) rfl rfl ?_ ?_ ?_; rotate_left; rfl; (· intro w' hSw; (try dsimp only at hSw); go_simp <;> with_reducible rfl); simp only [Act.put, List.setIfInBounds_toArray, List.set_cons_zero, List.set_cons_succ])
              | (refine wpWay_skip rfl rfl ?_ ?_; rfl; simp only [Act.put, List.setIfInBounds_toArray, List.set_cons_zero, List.set_cons_succ]))
            refine wpWay_eff rfl rfl (fun K hK => ?_)
            go_wp2_with fail
            have hS := Blk.alloc hS (.cells #[.int .u8 x.cl, .int .u32 x.sq, .int .u8 x.kd, .string x.key, .string x.old, .string x.new, .int .u8 x.set] 30)
            have q6 := q5.below (below1 Wd (.cells #[.int .u8 x.cl, .int .u32 x.sq, .int .u8 x.kd, .string x.key, .string x.old, .string x.new, .int .u8 x.set] 30))
            have c1 := q6.blk.cell 0
            refine hK.out _ _ hS ?_
            clear hK K
            repeat (first
              | (refine wpWay_take (v := ?_) rfl rfl ?_ ?_ ?_; rotate_left; rfl; (· intro w' hSw; (try dsimp only at hSw); go_simp <;> with_reducible rfl); simp only [Act.put, List.setIfInBounds_toArray, List.set_cons_zero, List.set_cons_succ])
              | (refine wpWay_skip rfl rfl ?_ ?_; rfl; simp only [Act.put, List.setIfInBounds_toArray, List.set_cons_zero, List.set_cons_succ]))
            refine wpWay_eff rfl rfl (fun K hK => ?_)
            refine appSt rfl _ _ 27 rfl base 30 Cm.zero.val 7 72 infoC Try.underlying27 rfl (by decide) Wd #[.int .u8 x.cl, .int .u32 x.sq, .int .u8 x.kd, .string x.key, .string x.old, .string x.new, .int .u8 x.set] 30 rfl (by intro u hu; simp at hu; rcases hu with rfl | rfl | rfl | rfl | rfl | rfl | rfl <;> rfl) _ LL.length (flat LL) q5.row rfl _ rfl rfl (by omega) (by omega) hBq ?_
            intro v2 w6 ho6 g6
            have hS6 : Blk w6 w.heap.size (.cells #[.int .u8 x.cl, .int .u32 x.sq, .int .u8 x.kd, .string x.key, .string x.old, .string x.new, .int .u8 x.set] 30) := hS0.grown g6.1 hcb
            have ho6' : w6.ownsRow base 30 7 v2 (LL ++ [x]).length (flat (LL ++ [x])) := by
              have e : flat (LL ++ [x]) = flat LL ++ x.cells := by unfold flat; rw [List.flatMap_append]; simp
              rw [e, List.length_append]; exact ho6
            have hz := q5.store g6 ho6'
            have k6 := q5.blk.grown g6.1 q5.apart
            obtain ⟨p2, cap2, hv2, _⟩ := RdV.owns ho6
            subst hv2
            clear ho6 ho6' g6
            go_wp2_with fail
            refine hK.out _ _ hS6 ?_
            clear hK K
            repeat (first
              | (refine wpWay_take (v := ?_) rfl rfl ?_ ?_ ?_; rotate_left; rfl; (· intro w' hSw; (try dsimp only at hSw); go_simp <;> with_reducible rfl); simp only [Act.put, List.setIfInBounds_toArray, List.set_cons_zero, List.set_cons_succ])
              | (refine wpWay_skip rfl rfl ?_ ?_; rfl; simp only [Act.put, List.setIfInBounds_toArray, List.set_cons_zero, List.set_cons_succ]))
            refine wpWay_eff rfl rfl (fun K hK => ?_)
            have c6 := k6.cell 0
            have f6 := k6.frozen 0
            go_wp2_with fail
            refine hK.out _ _ (hS6.other (a := ⟨qb, 0, none⟩) hne _) ?_
            clear hK K
            repeat (first
              | (refine wpWay_take (v := ?_) rfl rfl ?_ ?_ ?_; rotate_left; rfl; (· intro w' hSw; (try dsimp only at hSw); go_simp <;> with_reducible rfl); simp only [Act.put, List.setIfInBounds_toArray, List.set_cons_zero, List.set_cons_succ])
              | (refine wpWay_skip rfl rfl ?_ ?_; rfl; simp only [Act.put, List.setIfInBounds_toArray, List.set_cons_zero, List.set_cons_succ]))
            refine wpWay_nil ?_
            go_wp2_with fail
            go_ret
            refine ⟨.slice p2 (LL.length + 1) cap2, by rw [HR.out]; rfl, ?_, ?_⟩
            · rw [HR.out, hLL]; exact hz.1
            · exact MM.trans hz.2
          · go_wp2_with fail
            have hS := Blk.alloc hS (.cells #[.int .u8 x.cl, .int .u32 x.sq, .int .u8 x.kd, .string x.key, .string x.old, .string x.new, .int .u8 x.set] 30)
            have q6 := q5.below (below1 Wd (.cells #[.int .u8 x.cl, .int .u32 x.sq, .int .u8 x.kd, .string x.key, .string x.old, .string x.new, .int .u8 x.set] 30))
            have c1 := q6.blk.cell 0
            refine hK.out _ _ hS ?_
            clear hK K
            repeat (first
              | (refine wpWay_take (v := ?_) rfl rfl ?_ ?_ ?_; rotate_left; rfl; (· intro w' hSw; (try dsimp only at hSw); go_simp <;> with_reducible rfl); simp only [Act.put, List.setIfInBounds_toArray, List.set_cons_zero, List.set_cons_succ])
              | (refine wpWay_skip rfl rfl ?_ ?_; rfl; simp only [Act.put, List.setIfInBounds_toArray, List.set_cons_zero, List.set_cons_succ]))
            refine wpWay_eff rfl rfl (fun K hK => ?_)
            go_wp2_with fail
            refine hK.out _ _ hS ?_
            clear hK K
            repeat (first
              | (refine wpWay_take (v := ?_) rfl rfl ?_ ?_ ?_; rotate_left; rfl; (· intro w' hSw; (try dsimp only at hSw); go_simp <;> with_reducible rfl); simp only [Act.put, List.setIfInBounds_toArray, List.set_cons_zero, List.set_cons_succ])
              | (refine wpWay_skip rfl rfl ?_ ?_; rfl; simp only [Act.put, List.setIfInBounds_toArray, List.set_cons_zero, List.set_cons_succ]))
            refine wpWay_eff rfl rfl (fun K hK => ?_)
            refine appSt rfl _ _ 27 rfl base 30 Cm.zero.val 7 72 infoC Try.underlying27 rfl (by decide) Wd #[.int .u8 x.cl, .int .u32 x.sq, .int .u8 x.kd, .string x.key, .string x.old, .string x.new, .int .u8 x.set] 30 rfl (by intro u hu; simp at hu; rcases hu with rfl | rfl | rfl | rfl | rfl | rfl | rfl <;> rfl) _ LL.length (flat LL) q5.row rfl _ rfl rfl (by omega) (by omega) hBq ?_
            intro v2 w6 ho6 g6
            have hS6 : Blk w6 w.heap.size (.cells #[.int .u8 x.cl, .int .u32 x.sq, .int .u8 x.kd, .string x.key, .string x.old, .string x.new, .int .u8 x.set] 30) := hS0.grown g6.1 hcb
            have ho6' : w6.ownsRow base 30 7 v2 (LL ++ [x]).length (flat (LL ++ [x])) := by
              have e : flat (LL ++ [x]) = flat LL ++ x.cells := by unfold flat; rw [List.flatMap_append]; simp
              rw [e, List.length_append]; exact ho6
            have hz := q5.store g6 ho6'
            have k6 := q5.blk.grown g6.1 q5.apart
            obtain ⟨p2, cap2, hv2, _⟩ := RdV.owns ho6
            subst hv2
            clear ho6 ho6' g6
            go_wp2_with fail
            refine hK.out _ _ hS6 ?_
            clear hK K
            repeat (first
              | (refine wpWay_take (v := ?_) rfl rfl ?_ ?_ ?_; rotate_left; rfl; (· intro w' hSw; (try dsimp only at hSw); go_simp <;> with_reducible rfl); simp only [Act.put, List.setIfInBounds_toArray, List.set_cons_zero, List.set_cons_succ])
              | (refine wpWay_skip rfl rfl ?_ ?_; rfl; simp only [Act.put, List.setIfInBounds_toArray, List.set_cons_zero, List.set_cons_succ]))
            refine wpWay_eff rfl rfl (fun K hK => ?_)
            have c6 := k6.cell 0
            have f6 := k6.frozen 0
            go_wp2_with fail
            refine hK.out _ _ (hS6.other (a := ⟨qb, 0, none⟩) hne _) ?_
            clear hK K
            repeat (first
              | (refine wpWay_take (v := ?_) rfl rfl ?_ ?_ ?_; rotate_left; rfl; (· intro w' hSw; (try dsimp only at hSw); go_simp <;> with_reducible rfl); simp only [Act.put, List.setIfInBounds_toArray, List.set_cons_zero, List.set_cons_succ])
              | (refine wpWay_skip rfl rfl ?_ ?_; rfl; simp only [Act.put, List.setIfInBounds_toArray, List.set_cons_zero, List.set_cons_succ]))
            refine wpWay_nil ?_
            go_wp2_with fail
            go_ret
            refine ⟨.slice p2 (LL.length + 1) cap2, by rw [HR.out]; rfl, ?_, ?_⟩
            · rw [HR.out, hLL]; exact hz.1
            · exact MM.trans hz.2
  · have hch : Cm.chk x = 2 := if_neg hm
    rw [hch]
    have HR := Lib.hid (show qPut l x = (l, 2) from if_neg hm)
    go_wp2
    go_ret
    exact ⟨v, by rw [HR.out]; rfl, by rw [HR.out]; exact q1, MM⟩
/-- A row of commands whose cells may be written, from its first on. -/
def Held (w : World) (base : Nat) (v : Value) (l : List Cm) : Prop :=
  (v = .slice none 0 0 ∧ l = []) ∨ ∃ g c cur, v = .slice (some ⟨g, 0, none⟩) l.length c ∧ base ≤ g ∧ Blk w g (.cells cur 30) ∧ l.length * 7 ≤ cur.size ∧ l.length ≤ 9223372036854775807 ∧ cur.toList.take (l.length * 7) = flat l
theorem flat_drop : ∀ (l : List Cm) (n : Nat), flat (l.drop n) = (flat l).drop (n * 7)
  | _, 0 => by simp
  | [], n + 1 => by simp [flat]
  | a :: l, n + 1 => by
    rw [List.drop_succ_cons, flat_drop l n]
    show _ = List.drop ((n + 1) * 7) (a.cells ++ flat l)
    rw [List.drop_append, show (n + 1) * 7 - a.cells.length = n * 7 by rw [Cm.cells_len]; omega, List.drop_eq_nil_of_le (show a.cells.length ≤ (n + 1) * 7 by rw [Cm.cells_len]; omega)]; rfl
theorem flat_take : ∀ (l : List Cm) (n : Nat), flat (l.take n) = (flat l).take (n * 7)
  | _, 0 => by simp
  | [], n + 1 => by simp [flat]
  | a :: l, n + 1 => by
    rw [List.take_succ_cons]
    show a.cells ++ flat (l.take n) = List.take ((n + 1) * 7) (a.cells ++ flat l)
    rw [flat_take l n, List.take_append, show (n + 1) * 7 - a.cells.length = n * 7 by rw [Cm.cells_len]; omega, List.take_of_length_le (show a.cells.length ≤ (n + 1) * 7 by rw [Cm.cells_len]; omega)]
theorem rd_drop {w : World} {g n cap : Nat} {cur : Array Value} (l : List Cm) (k : Blk w g (.cells cur 30)) (h : cur.toList.take (l.length * 7) = flat l) (hl : l.length ≤ 9223372036854775807) : RdT Cm.cells w (.slice (some ⟨g, n * 7, none⟩) (l.length - n) cap) (l.drop n) := by
  refine ⟨_, cap, by rw [List.length_drop], by rw [List.length_drop]; omega, fun j u hj => ⟨g, n * 7, rfl, ?_⟩, fun e => by cases e⟩
  rw [k.cell]
  have hj' : (flat (l.drop n))[j]? = some u := hj
  rw [flat_drop, List.getElem?_drop, ← h] at hj'
  rw [List.getElem?_take] at hj'
  split at hj'
  · rw [← hj', Array.getElem?_toList]
  · cases hj'
/-- How many Take takes. -/
def nTake (l : List Cm) (most : Int) : Nat := min most.toNat l.length
set_option maxRecDepth 100000 in
set_option maxHeartbeats 2000000 in
theorem qtake_any (base qb : Nat) (v : Value) (l : List Cm) (hl : l.length ≤ 10000) (most : Int) (w : World) (q : Que w base qb v l) :
    Calls Try.prog 10 #[.pointer (some ⟨qb, 0, none⟩), .int .i64 most] w fun e w' => ∃ out v', e = .returned out ∧ Held w' base out (l.take (nTake l most)) ∧ Que w' base qb v' (l.drop (nTake l most)) ∧ Moved w qb v w' v' ∧ (∀ b, v'.ownBlock = some b → w.heap.size ≤ b) ∧ (out.ownBlock = none ∨ out.ownBlock = v.ownBlock) := by
  have hn : max 0 (min most (l.length : Int)) = ((nTake l most : Nat) : Int) := by unfold nTake; omega
  have hnl : nTake l most ≤ l.length := by unfold nTake; omega
  generalize nTake l most = n at hn hnl ⊢
  have HQ := Lib.hid q
  rcases q.row with ⟨hlen7, ⟨rfl, h0⟩ | ⟨g, cap, cur, rfl, hgb, hblk, hncap, hcmax, hcs, htk⟩⟩
  · have hl0 : l = [] := List.eq_nil_of_length_eq_zero h0
    subst hl0
    have hn0 : n = 0 := by simpa using hnl
    subst hn0
    have HC := Lib.hid (clone_own (.slice none 0 0) [] (by simp) w (rdT_nil _ _))
    have c0 := q.blk.cell 0
    have hn' : max 0 (min most 0) = 0 := by omega
    clear q hn hlen7 h0
    by_cases h1 : most ≤ 0
    · have h2 : decide (most ≤ 0) = true := decide_eq_true h1
      go_enter Try.func10, Try.ntmps10
      go_wp2_with fail
      refine HC.out.mono ?_
      rintro e w1 ⟨p, c, rfl, ho, b1⟩
      have hz := HQ.out.store (l' := []) (v' := .slice p 0 c) ⟨gbelow b1, .inr (own_base ho)⟩ (own_lower ho (Nat.le_trans HQ.out.base (Nat.le_of_lt HQ.out.blk.lt)))
      have k1 := HQ.out.blk.later b1
      have c1 := k1.cell 0
      have f1 := k1.frozen 0
      clear c0
      go_wp2_with fail
      go_ret
      exact ⟨_, _, rfl, .inl ⟨rfl, rfl⟩, hz.1, hz.2, own_base ho, .inl rfl⟩
    · have h2 : decide (most ≤ 0) = false := decide_eq_false h1
      go_enter Try.func10, Try.ntmps10
      go_wp2_with fail
      refine HC.out.mono ?_
      rintro e w1 ⟨p, c, rfl, ho, b1⟩
      have hz := HQ.out.store (l' := []) (v' := .slice p 0 c) ⟨gbelow b1, .inr (own_base ho)⟩ (own_lower ho (Nat.le_trans HQ.out.base (Nat.le_of_lt HQ.out.blk.lt)))
      have k1 := HQ.out.blk.later b1
      have c1 := k1.cell 0
      have f1 := k1.frozen 0
      clear c0
      go_wp2_with fail
      go_ret
      exact ⟨_, _, rfl, .inl ⟨rfl, rfl⟩, hz.1, hz.2, own_base ho, .inl rfl⟩
  · have kG : Blk w g (.cells cur 30) := hblk
    have c0 := q.blk.cell 0
    have hne : g ≠ qb := fun e => q.apart (by rw [← e]; rfl)
    have HTK := Lib.hid htk
    have HCS := Lib.hid hcs
    have hle : base ≤ w.heap.size := Nat.le_trans hgb (Nat.le_of_lt kG.lt)
    have hcap3 : cap ≤ 9223372036854775807 := hcmax
    clear q hlen7 hblk htk hcs
    by_cases hcap : cap = n
    · have hln : n = l.length := by omega
      subst hln
      subst hcap
      by_cases hl0 : l = []
      · subst hl0
        simp only [List.length_nil] at hncap c0 hn
        by_cases h1 : most ≤ 0
        · have HC := Lib.hid (clone_own (.slice (some ⟨g, 0, none⟩) 0 0) ([] : List Cm) (by simp <;> omega) w ⟨some ⟨g, 0, none⟩, _, rfl, by simp, fun j u hj => by simp at hj, fun e => by cases e⟩)
          go_enter Try.func10, Try.ntmps10
          go_wp2_with fail
          refine HC.out.mono ?_
          rintro e w1 ⟨p, c, rfl, ho, b1⟩
          have hz := HQ.out.store (l' := ([] : List Cm)) (v' := .slice p ([] : List Cm).length c) ⟨gbelow b1, .inr (own_base ho)⟩ (own_lower ho hle)
          have k1 := HQ.out.blk.later b1
          have c1 := k1.cell 0
          have f1 := k1.frozen 0
          have kG1 := (kG.later b1).other (a := ⟨qb, 0, none⟩) hne (.slice p ([] : List Cm).length c)
          clear c0
          go_wp2_with fail
          go_ret
          have htl : (([] : List Cm).take 0).length = 0 := by rw [List.length_take]; omega
          have hdl : ([] : List Cm).drop 0 = ([] : List Cm) := by rfl
          refine ⟨_, _, rfl, .inr ⟨g, 0, cur, by rw [htl]; rfl, hgb, kG1, by rw [htl, HCS.out]; omega, by omega, ?_⟩, by rw [hdl]; exact hz.1, hz.2, own_base ho, .inr rfl⟩
          rw [htl, flat_take, ← HTK.out, List.take_take, Nat.min_eq_left (by omega)]
        · have HC := Lib.hid (clone_own (.slice (some ⟨g, 0, none⟩) 0 0) ([] : List Cm) (by simp <;> omega) w ⟨some ⟨g, 0, none⟩, _, rfl, by simp, fun j u hj => by simp at hj, fun e => by cases e⟩)
          go_enter Try.func10, Try.ntmps10
          go_wp2_with fail
          refine HC.out.mono ?_
          rintro e w1 ⟨p, c, rfl, ho, b1⟩
          have hz := HQ.out.store (l' := ([] : List Cm)) (v' := .slice p ([] : List Cm).length c) ⟨gbelow b1, .inr (own_base ho)⟩ (own_lower ho hle)
          have k1 := HQ.out.blk.later b1
          have c1 := k1.cell 0
          have f1 := k1.frozen 0
          have kG1 := (kG.later b1).other (a := ⟨qb, 0, none⟩) hne (.slice p ([] : List Cm).length c)
          clear c0
          go_wp2_with fail
          go_ret
          have htl : (([] : List Cm).take 0).length = 0 := by rw [List.length_take]; omega
          have hdl : ([] : List Cm).drop 0 = ([] : List Cm) := by rfl
          refine ⟨_, _, rfl, .inr ⟨g, 0, cur, by rw [htl]; rfl, hgb, kG1, by rw [htl, HCS.out]; omega, by omega, ?_⟩, by rw [hdl]; exact hz.1, hz.2, own_base ho, .inr rfl⟩
          rw [htl, flat_take, ← HTK.out, List.take_take, Nat.min_eq_left (by omega)]
      · have hpos : 0 < l.length := List.length_pos_iff.2 hl0
        clear hl0
        by_cases hB : (l.length : Int) < most
        · have h1 : ¬ most ≤ (l.length : Int) := by omega
          clear hn
          have HC := Lib.hid (clone_own (.slice (some ⟨g, 0, none⟩) 0 0) ([] : List Cm) (by simp <;> omega) w ⟨some ⟨g, 0, none⟩, _, rfl, by simp, fun j u hj => by simp at hj, fun e => by cases e⟩)
          go_enter Try.func10, Try.ntmps10
          go_wp2_with fail
          refine HC.out.mono ?_
          rintro e w1 ⟨p, c, rfl, ho, b1⟩
          have hz := HQ.out.store (l' := ([] : List Cm)) (v' := .slice p ([] : List Cm).length c) ⟨gbelow b1, .inr (own_base ho)⟩ (own_lower ho hle)
          have k1 := HQ.out.blk.later b1
          have c1 := k1.cell 0
          have f1 := k1.frozen 0
          have kG1 := (kG.later b1).other (a := ⟨qb, 0, none⟩) hne (.slice p ([] : List Cm).length c)
          clear c0
          go_wp2_with fail
          go_ret
          have htl : (l.take l.length).length = l.length := by rw [List.length_take]; omega
          have hdl : l.drop l.length = ([] : List Cm) := by rw [List.drop_length]
          refine ⟨_, _, rfl, .inr ⟨g, l.length, cur, by rw [htl]; rfl, hgb, kG1, by rw [htl, HCS.out]; omega, by omega, ?_⟩, by rw [hdl]; exact hz.1, hz.2, own_base ho, .inr rfl⟩
          rw [htl, flat_take, ← HTK.out, List.take_take, Nat.min_eq_left (by omega)]
        · have hm : most = (l.length : Int) := by omega
          subst hm
          clear hn
          have HC := Lib.hid (clone_own (.slice (some ⟨g, 0, none⟩) 0 0) ([] : List Cm) (by simp <;> omega) w ⟨some ⟨g, 0, none⟩, _, rfl, by simp, fun j u hj => by simp at hj, fun e => by cases e⟩)
          go_enter Try.func10, Try.ntmps10
          go_wp2_with fail
          refine HC.out.mono ?_
          rintro e w1 ⟨p, c, rfl, ho, b1⟩
          have hz := HQ.out.store (l' := ([] : List Cm)) (v' := .slice p ([] : List Cm).length c) ⟨gbelow b1, .inr (own_base ho)⟩ (own_lower ho hle)
          have k1 := HQ.out.blk.later b1
          have c1 := k1.cell 0
          have f1 := k1.frozen 0
          have kG1 := (kG.later b1).other (a := ⟨qb, 0, none⟩) hne (.slice p ([] : List Cm).length c)
          clear c0
          go_wp2_with fail
          go_ret
          have htl : (l.take l.length).length = l.length := by rw [List.length_take]; omega
          have hdl : l.drop l.length = ([] : List Cm) := by rw [List.drop_length]
          refine ⟨_, _, rfl, .inr ⟨g, l.length, cur, by rw [htl]; rfl, hgb, kG1, by rw [htl, HCS.out]; omega, by omega, ?_⟩, by rw [hdl]; exact hz.1, hz.2, own_base ho, .inr rfl⟩
          rw [htl, flat_take, ← HTK.out, List.take_take, Nat.min_eq_left (by omega)]
    · have hnc : n < cap := by omega
      have q1 : (n : Int) ≤ (l.length : Int) := by omega
      have q2 : (n : Int) ≤ (cap : Int) := by omega
      have q3 : n ≤ cap := by omega
      have q4 : (0 : Int) ≤ (n : Int) := by omega
      by_cases hl0 : l = []
      · subst hl0
        have hn0 : n = 0 := by simpa using hnl
        subst hn0
        simp only [List.length_nil] at hncap c0 hn
        by_cases h1 : most ≤ 0
        · have HC := Lib.hid (clone_own (.slice (some ⟨g, 0, none⟩) 0 cap) ([] : List Cm) (by simp <;> omega) w ⟨some ⟨g, 0, none⟩, _, rfl, by simp, fun j u hj => by simp at hj, fun e => by cases e⟩)
          go_enter Try.func10, Try.ntmps10
          go_wp2_with fail
          refine HC.out.mono ?_
          rintro e w1 ⟨p, c, rfl, ho, b1⟩
          have hz := HQ.out.store (l' := ([] : List Cm)) (v' := .slice p ([] : List Cm).length c) ⟨gbelow b1, .inr (own_base ho)⟩ (own_lower ho hle)
          have k1 := HQ.out.blk.later b1
          have c1 := k1.cell 0
          have f1 := k1.frozen 0
          have kG1 := (kG.later b1).other (a := ⟨qb, 0, none⟩) hne (.slice p ([] : List Cm).length c)
          clear c0
          go_wp2_with fail
          go_ret
          have htl : (([] : List Cm).take 0).length = 0 := by rw [List.length_take]; omega
          have hdl : ([] : List Cm).drop 0 = ([] : List Cm) := by rfl
          refine ⟨_, _, rfl, .inr ⟨g, 0, cur, by rw [htl]; rfl, hgb, kG1, by rw [htl, HCS.out]; omega, by omega, ?_⟩, by rw [hdl]; exact hz.1, hz.2, own_base ho, .inr rfl⟩
          rw [htl, flat_take, ← HTK.out, List.take_take, Nat.min_eq_left (by omega)]
        · have HC := Lib.hid (clone_own (.slice (some ⟨g, 0, none⟩) 0 cap) ([] : List Cm) (by simp <;> omega) w ⟨some ⟨g, 0, none⟩, _, rfl, by simp, fun j u hj => by simp at hj, fun e => by cases e⟩)
          go_enter Try.func10, Try.ntmps10
          go_wp2_with fail
          refine HC.out.mono ?_
          rintro e w1 ⟨p, c, rfl, ho, b1⟩
          have hz := HQ.out.store (l' := ([] : List Cm)) (v' := .slice p ([] : List Cm).length c) ⟨gbelow b1, .inr (own_base ho)⟩ (own_lower ho hle)
          have k1 := HQ.out.blk.later b1
          have c1 := k1.cell 0
          have f1 := k1.frozen 0
          have kG1 := (kG.later b1).other (a := ⟨qb, 0, none⟩) hne (.slice p ([] : List Cm).length c)
          clear c0
          go_wp2_with fail
          go_ret
          have htl : (([] : List Cm).take 0).length = 0 := by rw [List.length_take]; omega
          have hdl : ([] : List Cm).drop 0 = ([] : List Cm) := by rfl
          refine ⟨_, _, rfl, .inr ⟨g, 0, cur, by rw [htl]; rfl, hgb, kG1, by rw [htl, HCS.out]; omega, by omega, ?_⟩, by rw [hdl]; exact hz.1, hz.2, own_base ho, .inr rfl⟩
          rw [htl, flat_take, ← HTK.out, List.take_take, Nat.min_eq_left (by omega)]
      · have hpos : 0 < l.length := List.length_pos_iff.2 hl0
        clear hl0
        by_cases hA : most < 0
        · have hn0 : n = 0 := by omega
          subst hn0
          have h1 : most ≤ (l.length : Int) := by omega
          have h3 : most ≤ 0 := by omega
          have h4 : ¬ 0 ≤ most := by omega
          clear hn
          have HC := Lib.hid (clone_own (.slice (some ⟨g, 0 * 7, none⟩) (l.length - 0) cap) (l.drop 0) (by simp <;> omega) w (rd_drop l kG HTK.out (by omega)))
          simp only [Nat.zero_mul, Nat.sub_zero] at HC
          go_enter Try.func10, Try.ntmps10
          go_wp2_with fail
          refine HC.out.mono ?_
          rintro e w1 ⟨p, c, rfl, ho, b1⟩
          have hz := HQ.out.store (l' := (l.drop 0)) (v' := .slice p (l.drop 0).length c) ⟨gbelow b1, .inr (own_base ho)⟩ (own_lower ho hle)
          have k1 := HQ.out.blk.later b1
          have c1 := k1.cell 0
          have f1 := k1.frozen 0
          have kG1 := (kG.later b1).other (a := ⟨qb, 0, none⟩) hne (.slice p (l.drop 0).length c)
          clear c0
          go_wp2_with fail
          go_ret
          have htl : (l.take 0).length = 0 := by rw [List.length_take]; omega
          have hdl : l.drop 0 = (l.drop 0) := by rfl
          refine ⟨_, _, rfl, .inr ⟨g, 0, cur, by rw [htl]; rfl, hgb, kG1, by rw [htl, HCS.out]; omega, by omega, ?_⟩, by rw [hdl]; exact hz.1, hz.2, own_base ho, .inr rfl⟩
          rw [htl, flat_take, ← HTK.out, List.take_take, Nat.min_eq_left (by omega)]
        · by_cases hB : (l.length : Int) < most
          · have hn0 : n = l.length := by omega
            subst hn0
            have h1 : ¬ most ≤ (l.length : Int) := by omega
            clear hn
            have HC := Lib.hid (clone_own (.slice (some ⟨g, l.length * 7, none⟩) 0 (cap - l.length)) ([] : List Cm) (by simp <;> omega) w (by have := rd_drop (n := l.length) (cap := cap - l.length) l kG HTK.out (by omega); rwa [List.drop_length, Nat.sub_self] at this))
            go_enter Try.func10, Try.ntmps10
            go_wp2_with fail
            refine HC.out.mono ?_
            rintro e w1 ⟨p, c, rfl, ho, b1⟩
            have hz := HQ.out.store (l' := ([] : List Cm)) (v' := .slice p ([] : List Cm).length c) ⟨gbelow b1, .inr (own_base ho)⟩ (own_lower ho hle)
            have k1 := HQ.out.blk.later b1
            have c1 := k1.cell 0
            have f1 := k1.frozen 0
            have kG1 := (kG.later b1).other (a := ⟨qb, 0, none⟩) hne (.slice p ([] : List Cm).length c)
            clear c0
            go_wp2_with fail
            go_ret
            have htl : (l.take l.length).length = l.length := by rw [List.length_take]; omega
            have hdl : l.drop l.length = ([] : List Cm) := by rw [List.drop_length]
            refine ⟨_, _, rfl, .inr ⟨g, l.length, cur, by rw [htl]; rfl, hgb, kG1, by rw [htl, HCS.out]; omega, by omega, ?_⟩, by rw [hdl]; exact hz.1, hz.2, own_base ho, .inr rfl⟩
            rw [htl, flat_take, ← HTK.out, List.take_take, Nat.min_eq_left (by omega)]
          · have hm : most = (n : Int) := by omega
            subst hm
            have h1 : (n : Int) ≤ (l.length : Int) := by omega
            clear hn
            by_cases hn0 : n = 0
            · subst hn0
              have HC := Lib.hid (clone_own (.slice (some ⟨g, 0 * 7, none⟩) (l.length - 0) cap) (l.drop 0) (by simp <;> omega) w (rd_drop l kG HTK.out (by omega)))
              simp only [Nat.zero_mul, Nat.sub_zero] at HC
              go_enter Try.func10, Try.ntmps10
              go_wp2_with fail
              refine HC.out.mono ?_
              rintro e w1 ⟨p, c, rfl, ho, b1⟩
              have hz := HQ.out.store (l' := (l.drop 0)) (v' := .slice p (l.drop 0).length c) ⟨gbelow b1, .inr (own_base ho)⟩ (own_lower ho hle)
              have k1 := HQ.out.blk.later b1
              have c1 := k1.cell 0
              have f1 := k1.frozen 0
              have kG1 := (kG.later b1).other (a := ⟨qb, 0, none⟩) hne (.slice p (l.drop 0).length c)
              clear c0
              go_wp2_with fail
              go_ret
              have htl : (l.take 0).length = 0 := by rw [List.length_take]; omega
              have hdl : l.drop 0 = (l.drop 0) := by rfl
              refine ⟨_, _, rfl, .inr ⟨g, 0, cur, by rw [htl]; rfl, hgb, kG1, by rw [htl, HCS.out]; omega, by omega, ?_⟩, by rw [hdl]; exact hz.1, hz.2, own_base ho, .inr rfl⟩
              rw [htl, flat_take, ← HTK.out, List.take_take, Nat.min_eq_left (by omega)]
            · have hnp : 0 < n := by omega
              have HC := Lib.hid (clone_own (.slice (some ⟨g, n * 7, none⟩) (l.length - n) (cap - n)) (l.drop n) (by simp <;> omega) w (rd_drop l kG HTK.out (by omega)))
              go_enter Try.func10, Try.ntmps10
              go_wp2_with fail
              refine HC.out.mono ?_
              rintro e w1 ⟨p, c, rfl, ho, b1⟩
              have hz := HQ.out.store (l' := (l.drop n)) (v' := .slice p (l.drop n).length c) ⟨gbelow b1, .inr (own_base ho)⟩ (own_lower ho hle)
              have k1 := HQ.out.blk.later b1
              have c1 := k1.cell 0
              have f1 := k1.frozen 0
              have kG1 := (kG.later b1).other (a := ⟨qb, 0, none⟩) hne (.slice p (l.drop n).length c)
              simp only [List.length_drop] at hz kG1 ho
              clear c0
              go_wp2_with fail
              go_ret
              have htl : (l.take n).length = n := by rw [List.length_take]; omega
              have hdl : l.drop n = (l.drop n) := by rfl
              refine ⟨_, _, rfl, .inr ⟨g, n, cur, by rw [htl]; rfl, hgb, kG1, by rw [htl, HCS.out]; omega, by omega, ?_⟩, by rw [hdl]; exact hz.1, hz.2, own_base ho, .inr rfl⟩
              rw [htl, flat_take, ← HTK.out, List.take_take, Nat.min_eq_left (by omega)]
end Bat
end Go.Proofs.Ytcfcikpehekfbaa
