/-
  Small facts that all walks of this seat share: what a slice reads as, appending one element, what abides a walk over a function. No statement of its own.
-/
import Derived.RangeFuncNested
import Derived.RangeFuncBound
import Derived.RangeFuncCalls
import Derived.RangeFuncLeaves
import Derived.Shelf.Abstract
import Derived.Shelf.RegionOpen
import Derived.OwnWalkIn
import Derived.TacticsInMore
import Derived.LoopNIn
import Derived.LoopIn
import Derived.Maps.AppendAt
import Derived.Laws.AppendOwnNone
import Derived.WalkKit
import Derived.WalkSpells
import Derived.WalkLawsBesides
import Derived.Outline
import Derived.OpenShut
import Derived.Lib.Hide
import Derived.Test.YthhgcfklaakndaaRows
namespace Go.Proofs.Ythhgcfklaakndaa
open Go.RowKit Go.Shelf

theorem getD_at (l : List Nat) (i : Nat) (h : i < l.length) : l.getD i 0 = l[i] := by simp [List.getD, h]
theorem take_snoc {α : Type} (l : List α) (k : Nat) (h : k < l.length) : l.take (k + 1) = l.take k ++ [l[k]] := List.take_succ_eq_append_getElem h

/-- What cells a slice's elements are: n elements, their cells one behind the other. -/
def RdV (w : World) (v : Value) (n : Nat) (xs : List Value) : Prop :=
  ∃ p cap, v = .slice p n cap ∧ n ≤ 9223372036854775807 ∧ (∀ j u, xs[j]? = some u → ∃ b off, p = some ⟨b, off, none⟩ ∧ w.cell? ⟨b, off + j, none⟩ = some u) ∧ (p = none → cap = 0 ∧ n = 0)
theorem RdV.below {w w' : World} {v : Value} {n : Nat} {xs : List Value} {B : Nat} (h : RdV w v n xs) (hb : Below B w w') (hB : w.heap.size ≤ B) : RdV w' v n xs := by
  obtain ⟨p, cap, rfl, hn, hc, h0⟩ := h
  refine ⟨p, cap, rfl, hn, fun j u hj => ?_, h0⟩
  obtain ⟨b, off, rfl, hcell⟩ := hc j u hj
  exact ⟨b, off, rfl, (hb.cell (p := ⟨b, off + j, none⟩) (Nat.lt_of_lt_of_le (World.block_lt_of_cell? w _ hcell) hB)).trans hcell⟩
theorem RdV.owns {w : World} {base : Nat} {e : TypeId} {size : Nat} {v : Value} {n : Nat} {xs : List Value} (h : w.ownsRow base e size v n xs) : RdV w v n xs := by
  rcases h.2 with ⟨rfl, rfl⟩ | ⟨g, cap, cur, rfl, _, hg, hn, hm, _, htake⟩
  · have : xs = [] := List.eq_nil_of_length_eq_zero (by simpa using h.1)
    subst this
    exact ⟨none, 0, rfl, by omega, fun j u hj => by simp at hj, fun _ => ⟨rfl, rfl⟩⟩
  · refine ⟨_, cap, rfl, by simp only [maxLen] at hm; omega, fun j u hj => ⟨g, 0, rfl, ?_⟩, fun h => by cases h⟩
    have := h.cells (g := g) rfl j u hj
    rwa [show (⟨g, 0, none⟩ : Addr).add j = ⟨g, 0 + j, none⟩ by unfold Addr.add; split <;> simp_all] at this

/-- Bytes as values. -/
def u8s (l : List Nat) : List Value := l.map fun (x : Nat) => Value.int .u8 x
theorem u8s_append (a b : List Nat) : u8s (a ++ b) = u8s a ++ u8s b := by simp [u8s]
theorem u8s_length (l : List Nat) : (u8s l).length = l.length := by simp [u8s]
/-- A slice reads as a list of bytes. -/
def RdB (w : World) (v : Value) (l : List Nat) : Prop :=
  ∃ p cap, v = .slice p l.length cap ∧ (∀ x ∈ l, x < 256) ∧ l.length ≤ 9223372036854775807 ∧ (∀ i, i < l.length → ∃ b off, p = some ⟨b, off, none⟩ ∧ w.cell? ⟨b, off + i, none⟩ = some (.int .u8 (l.getD i 0 : Nat))) ∧ (p = none → cap = 0 ∧ l.length = 0)
theorem RdB.of {w : World} {v : Value} {l : List Nat} (h : RdV w v l.length (u8s l)) (hl : ∀ x ∈ l, x < 256) : RdB w v l := by
  obtain ⟨p, cap, rfl, hn, hc, h0⟩ := h
  refine ⟨p, cap, rfl, hl, hn, fun i hi => hc i _ ?_, h0⟩
  simp [u8s, List.getD, hi]
theorem RdB.to {w : World} {v : Value} {l : List Nat} (h : RdB w v l) : RdV w v l.length (u8s l) := by
  obtain ⟨p, cap, rfl, hl, hn, hc, h0⟩ := h
  refine ⟨p, cap, rfl, hn, fun j u hj => ?_, h0⟩
  simp [u8s] at hj
  obtain ⟨x, hx, rfl⟩ := hj
  obtain ⟨hlt, hx⟩ := List.getElem?_eq_some_iff.1 hx
  have := hc j hlt
  rw [getD_at l j hlt, hx] at this
  exact this
theorem RdB.below {w w' : World} {v : Value} {l : List Nat} {B : Nat} (h : RdB w v l) (hb : Below B w w') (hB : w.heap.size ≤ B) : RdB w' v l := .of (h.to.below hb hB) (by obtain ⟨_, _, _, hl, _⟩ := h; exact hl)
theorem RdB.owns {w : World} {base : Nat} {e : TypeId} {v : Value} {n : Nat} {l : List Nat} (h : w.ownsRow base e 1 v n (u8s l)) (hl : ∀ x ∈ l, x < 256) : RdB w v l := by
  have hn : n = l.length := by have := h.1; rw [u8s_length] at this; omega
  subst hn
  exact .of (.owns h) hl
theorem rdB_nil (w : World) : RdB w (.slice none 0 0) [] := ⟨none, 0, rfl, by simp, by simp, fun i hi => by simp at hi, fun _ => ⟨rfl, rfl⟩⟩
/-- A slice over an array that was laid just now. -/
theorem rdB_new (w : World) (l : List Nat) (e : TypeId) (cap : Nat) (hl : ∀ x ∈ l, x < 256) (hn : l.length ≤ 9223372036854775807) :
    RdB (w.alloc (.cells (u8s l).toArray e)) (.slice (some ⟨w.heap.size, 0, none⟩) l.length cap) l := by
  refine ⟨_, cap, rfl, hl, hn, fun i hi => ⟨_, _, rfl, ?_⟩, fun h => by cases h⟩
  rw [cell_of_row _ _ _ _ _ _ (heap_alloc_new w _)]
  simp [u8s, List.getD, hi]

/-- What stands in a block of cells abides whatever a walk over a function lays or turns. -/
theorem own_block {β : Type} (b : β → Nat) (o : β → Obj) (ho : ∀ s, (o s).isCells = true) : Own (fun s W => W.heap[b s]? = some (o s)) := fun s X Y row hs hg hr => by
  refine (hg.block _ (Array.getElem?_eq_some_iff.1 hs).1 (fun e => ?_)).trans hs
  obtain ⟨o', h', hc⟩ := hr _ e.symm
  rw [hs] at h'; cases h'; rw [ho s] at hc; cases hc
def K0 : World → World → Prop := fun _ _ => True

theorem grownBy_trans_alloc {w w' : World} {o : Obj} {row : Option Nat} (h : (w.alloc o).grownBy w' row) : w.grownBy w' row :=
  ⟨h.os, h.tape, h.output, by have := h.size; rw [World.size_alloc] at this; omega, fun k hk hr => (h.block k (by rw [World.size_alloc]; omega) hr).trans (heap_alloc_old w o k hk)⟩
/-- 'append(xs, x)' on a slice of the call's own. -/
theorem app1 {P : Program} {ops : Array Oper} {rest : List Oper} {o : Oper} {a : Act} {Q : Exit → Act → World → Prop} (hgd : o.guard = none) (s x : Operand) (t : TypeId)
    (ho : o.op = .call { callee := .builtin .append, args := #[s, x], argTypes := #[t, t] })
    (base : Nat) (e : TypeId) (z : Value) (bytes : Nat) (hinfo : (P.info? e).map (fun i => (i.zero, i.size, i.bytes)) = some (some z, 1, bytes)) (ht : P.underlying t = some (.slice e)) (hzs : z.cells.size = 1)
    (w : World) (u : Value) (te : TypeId) (hu : u.oneCell' = true)
    (v : Value) (n : Nat) (xs : List Value) (hown : w.ownsRow base e 1 v n xs) (hs : a.eval s = v) (b : Nat) (hb : b = w.heap.size) (hx : a.eval x = .slice (some ⟨b, 0, none⟩) 1 1)
    (h63 : n + 1 ≤ 9223372036854775807) (hbytes : (n + 1) * bytes ≤ 140737488355328) (hbase : base ≤ w.heap.size)
    (h : ∀ v' w', w'.ownsRow base e 1 v' (n + 1) (xs ++ [u]) → w.grownBy w' v.ownBlock → wpList P ops Q rest (a.put o.dst v') w') : wpList P ops Q (o :: rest) a (w.alloc (.cells #[u] te)) := by
  obtain ⟨i, hi, hz, hz1, hz2⟩ := info_parts hinfo
  subst hb
  refine wpList_append_own _ hgd s x t ho base e i z 1 bytes ht hi hz hz1 hz2 hzs (by decide) v n xs hs (hown.alloc _) ⟨w.heap.size, 0, none⟩ 1 1 [u] hx rfl (cell_one_new _ _ _) (by simpa using hu) (by simp only [maxLen]; omega) hbytes (by rw [World.size_alloc]; omega) ?_
  exact fun v' w' h1 h2 _ => h v' w' h1 (grownBy_trans_alloc h2)
theorem app1In {F : Fence} {m : Nat} {P : Program} {ops : Array Oper} {rest : List Oper} {o : Oper} {a : Act} {Q : Exit → Act → World → Prop} (hgd : o.guard = none) (s x : Operand) (t : TypeId)
    (ho : o.op = .call { callee := .builtin .append, args := #[s, x], argTypes := #[t, t] })
    (base : Nat) (e : TypeId) (z : Value) (bytes : Nat) (hinfo : (P.info? e).map (fun i => (i.zero, i.size, i.bytes)) = some (some z, 1, bytes)) (ht : P.underlying t = some (.slice e)) (hzs : z.cells.size = 1)
    (w : World) (u : Value) (te : TypeId) (hu : u.oneCell' = true)
    (v : Value) (n : Nat) (xs : List Value) (hown : w.ownsRow base e 1 v n xs) (hs : a.eval s = v) (b : Nat) (hb : b = w.heap.size) (hx : a.eval x = .slice (some ⟨b, 0, none⟩) 1 1)
    (h63 : n + 1 ≤ 9223372036854775807) (hbytes : (n + 1) * bytes ≤ 140737488355328) (hbase : base ≤ w.heap.size)
    (h : ∀ v' w', w'.ownsRow base e 1 v' (n + 1) (xs ++ [u]) → w.grownBy w' v.ownBlock → wpListIn F m P ops Q rest (a.put o.dst v') w') : wpListIn F m P ops Q (o :: rest) a (w.alloc (.cells #[u] te)) := by
  obtain ⟨i, hi, hz, hz1, hz2⟩ := info_parts hinfo
  subst hb
  refine wpListIn_append_own _ hgd s x t ho base e i z 1 bytes ht hi hz hz1 hz2 hzs (by decide) v n xs hs (hown.alloc _) ⟨w.heap.size, 0, none⟩ 1 1 [u] hx rfl (cell_one_new _ _ _) (by simpa using hu) (by simp only [maxLen]; omega) hbytes (by rw [World.size_alloc]; omega) ?_
  exact fun v' w' h1 h2 _ => h v' w' h1 (grownBy_trans_alloc h2)
/-- 'append(xs, ys...)' on a slice of the call's own. -/
theorem appN {P : Program} {ops : Array Oper} {rest : List Oper} {o : Oper} {a : Act} {Q : Exit → Act → World → Prop} (hgd : o.guard = none) (s x : Operand) (t : TypeId)
    (ho : o.op = .call { callee := .builtin .append, args := #[s, x], argTypes := #[t, t] })
    (base : Nat) (e : TypeId) (z : Value) (size bytes : Nat) (hinfo : (P.info? e).map (fun i => (i.zero, i.size, i.bytes)) = some (some z, size, bytes)) (ht : P.underlying t = some (.slice e)) (hzs : z.cells.size = size) (hsz : 0 < size)
    (w : World) (v : Value) (n : Nat) (xs : List Value) (hown : w.ownsRow base e size v n xs) (hs : a.eval s = v) (vx : Value) (m : Nat) (news : List Value) (hrd : RdV w vx m news) (hl : news.length = m * size) (h1 : ∀ u ∈ news, u.oneCell' = true) (hx : a.eval x = vx)
    (h63 : n + m ≤ 9223372036854775807) (hbytes : (n + m) * bytes ≤ 140737488355328) (hbase : base ≤ w.heap.size)
    (h : ∀ v' w', w'.ownsRow base e size v' (n + m) (xs ++ news) → w.grownBy w' v.ownBlock → wpList P ops Q rest (a.put o.dst v') w') : wpList P ops Q (o :: rest) a w := by
  obtain ⟨i, hi, hz, hz1, hz2⟩ := info_parts hinfo
  obtain ⟨p, cap, rfl, hn, hc, h0⟩ := hrd
  cases p with
  | none =>
    obtain ⟨rfl, rfl⟩ := h0 rfl
    have hnil : news = [] := List.eq_nil_of_length_eq_zero (by simpa using hl)
    subst hnil
    refine wpList_append_own_none hgd s x t ho base e i size ht hi v n xs hs hown hx ?_
    exact h v w (by simpa using hown) ⟨rfl, rfl, rfl, Nat.le_refl _, fun _ _ _ => rfl⟩
  | some ad =>
    refine wpList_append_own _ hgd s x t ho base e i z size bytes ht hi hz hz1 hz2 hzs hsz v n xs hs hown ad m cap news hx hl (fun j u hj => ?_) h1 (by simp only [maxLen]; omega) hbytes hbase ?_
    · obtain ⟨b, off, e1, hcell⟩ := hc j u hj
      cases e1
      rw [show (⟨b, off, none⟩ : Addr).add j = ⟨b, off + j, none⟩ by unfold Addr.add; split <;> simp_all]
      exact hcell
    · exact fun v' w' h1 h2 _ => h v' w' h1 h2
theorem u8s_one (l : List Nat) : ∀ u ∈ u8s l, u.oneCell' = true := by
  intro u hu; simp [u8s] at hu; obtain ⟨x, _, rfl⟩ := hu; rfl
/-- A function value against nil. -/
theorem run_eql_func_nil {P : Program} (w : World) (t : TypeId) (ps rs : Array TypeId) (va : Bool) (f : Fn) (a c : Array Value) (h : P.underlying t = some (.func ps rs va)) :
    (binOp .eql t (.func f a c) .nilFunc).run P w = .ok (.bool false) w := by
  have h2 : ∀ d : Nat, (Op.equalIn (d + 1) t (.func f a c) .nilFunc).run P w = .ok false w := fun d => by
    simp [Op.equalIn, run_underlying h]
  simp only [binOp]
  simp [Op.equal, Op.maxDepth, h2 9999]
theorem below_draws (B : Nat) (w : World) (n : Nat) : Below B w (w.drewN n) := ⟨rfl, rfl, rfl, Nat.le_refl _, fun _ _ => rfl⟩
/-- What lay reads as it lay: for the walk. -/
theorem bcell {W w1 : World} (hb : Below W.heap.size W w1) : (∀ b o, b < W.heap.size → w1.cell? ⟨b, o, none⟩ = W.cell? ⟨b, o, none⟩) ∧ (∀ b o, b < W.heap.size → w1.frozen? ⟨b, o, none⟩ = W.frozen? ⟨b, o, none⟩) :=
  ⟨fun b o h => hb.cell (p := ⟨b, o, none⟩) h, fun b o h => hb.frozen (p := ⟨b, o, none⟩) h⟩
theorem below1 (w : World) (o1 : Obj) : Below w.heap.size w (w.alloc o1) := (Below.refl _ _).alloc (Nat.le_refl _) o1
theorem below2 (w : World) (o1 o2 : Obj) : Below w.heap.size w ((w.alloc o1).alloc o2) := (below1 w o1).alloc (by simp) o2
theorem below3 (w : World) (o1 o2 o3 : Obj) : Below w.heap.size w (((w.alloc o1).alloc o2).alloc o3) := (below2 w o1 o2).alloc (by simp; omega) o3
theorem below4 (w : World) (o1 o2 o3 o4 : Obj) : Below w.heap.size w ((((w.alloc o1).alloc o2).alloc o3).alloc o4) := (below3 w o1 o2 o3).alloc (by simp; omega) o4
theorem Below.later {n : Nat} {W a b : World} (h : Below n W a) (hb : Below a.heap.size a b) (hn : n ≤ a.heap.size) : Below n W b := h.trans (hb.mono hn)
theorem Below.later' {W a b : World} (h : Below W.heap.size W a) (hb : Below a.heap.size a b) : Below W.heap.size W b := h.trans (hb.mono h.size)
theorem below_grown {B : Nat} {a w w' : World} {base : Nat} {e : TypeId} {size n : Nat} {v : Value} {xs : List Value} (h : Below B a w) (hown : w.ownsRow base e size v n xs) (hg : w.grownBy w' v.ownBlock) (hB : B ≤ w.heap.size) (hb : B ≤ base) : Below B a w' :=
  h.grown hg hB (fun k hk => Nat.le_trans hb (hown.lt k hk).1)
end Go.Proofs.Ythhgcfklaakndaa
