/-
  What stands in a block, handed on: new blocks, calls that keep what lay, stores.
-/
import Derived.Test.YthhgcfklaakndaaBase
namespace Go.Proofs.Ythhgcfklaakndaa
open Go.RowKit

def Blk (w : World) (b : Nat) (o : Obj) : Prop := w.heap[b]? = some o
theorem Blk.lt {w : World} {b : Nat} {o : Obj} (h : Blk w b o) : b < w.heap.size := (Array.getElem?_eq_some_iff.1 h).1
theorem Blk.new (w : World) (o : Obj) : Blk (w.alloc o) w.heap.size o := heap_alloc_new w o
theorem Blk.newAt {w : World} {b : Nat} (o : Obj) (hb : b = w.heap.size) : Blk (w.alloc o) b o := by subst hb; exact Blk.new w o
theorem Blk.alloc {w : World} {b : Nat} {o : Obj} (h : Blk w b o) (o' : Obj) : Blk (w.alloc o') b o := (heap_alloc_old w o' b h.lt).trans h
theorem Blk.below {B : Nat} {w w' : World} {b : Nat} {o : Obj} (h : Blk w b o) (hb : Below B w w') (hB : b < B) : Blk w' b o := (hb.block b hB).trans h
theorem Blk.later {w w' : World} {b : Nat} {o : Obj} (h : Blk w b o) (hb : Below w.heap.size w w') : Blk w' b o := h.below hb h.lt
theorem Blk.draws {w : World} {b : Nat} {o : Obj} (h : Blk w b o) (n : Nat) : Blk (w.drewN n) b o := h
theorem Blk.drew {w : World} {b : Nat} {o : Obj} (h : Blk w b o) : Blk w.drew b o := h
theorem Blk.other {w : World} {b : Nat} {o : Obj} (h : Blk w b o) {a : Addr} (hne : b ≠ a.block) (v : Value) : Blk (w.setCell a v) b o := (Below.heap_setCell w a v b hne).trans h
theorem Blk.grown {w w' : World} {b : Nat} {o : Obj} {row : Option Nat} (h : Blk w b o) (hg : w.grownBy w' row) (hne : some b ≠ row) : Blk w' b o := (hg.block b h.lt hne).trans h
theorem Blk.set {w : World} {b : Nat} {cs : Array Value} {t : TypeId} {fr : Nat × Nat} (h : Blk w b (.cells cs t fr)) (j : Nat) (v : Value) : Blk (w.setCell ⟨b, j, none⟩ v) b (.cells (cs.setIfInBounds j v) t fr) := by
  obtain ⟨hlt, hk⟩ := Array.getElem?_eq_some_iff.1 h
  show (w.heap.modify b _)[b]? = _
  rw [Array.getElem?_eq_getElem (by rw [Array.size_modify]; exact hlt), Array.getElem_modify_self, hk]
  rfl
theorem Blk.cell {w : World} {b : Nat} {cs : Array Value} {t : TypeId} {fr : Nat × Nat} (h : Blk w b (.cells cs t fr)) (j : Nat) : w.cell? ⟨b, j, none⟩ = cs[j]? := by simp [World.cell?, show w.heap[b]? = _ from h]
theorem Blk.frozen {w : World} {b : Nat} {cs : Array Value} {t : TypeId} (h : Blk w b (.cells cs t (0, 0))) (j : Nat) : w.frozen? ⟨b, j, none⟩ = false := by simp [World.frozen?, show w.heap[b]? = _ from h]
/-- For a region that draws its order: what lay reads as it lay in every later world. -/
theorem Blk.held {W : World} {b : Nat} {cs : Array Value} {t : TypeId} {fr : Nat × Nat} (h : Blk W b (.cells cs t fr)) (w' : World) (j : Nat) (hb : Below W.heap.size W w') : w'.cell? ⟨b, j, none⟩ = cs[j]? := (h.later hb).cell j
end Go.Proofs.Ythhgcfklaakndaa
