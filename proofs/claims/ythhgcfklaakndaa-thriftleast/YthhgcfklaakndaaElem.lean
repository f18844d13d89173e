/-
  Slices of structs, in general: elements that are rows of cells, read by their number; opening an argument; appending one to a slice of the call's own. Over any program.
-/
import Derived.Test.YthhgcfklaakndaaFlat
import Derived.Test.YthhgcfklaakndaaGrew
namespace Go.Proofs.Ythhgcfklaakndaa
open Go.RowKit Go.WideShapes

theorem Fit.split : ∀ {a b : List Leaf} {xs : List Value}, Fit (a ++ b) xs → ∃ y z, xs = y ++ z ∧ Fit a y ∧ Fit b z
  | [], _, xs, h => ⟨[], xs, rfl, trivial, h⟩
  | _ :: _, _, [], h => h.elim
  | _ :: _, _, x :: _, h => by
    obtain ⟨y, z, rfl, h1, h2⟩ := Fit.split h.2
    exact ⟨x :: y, z, rfl, ⟨h.1, h1⟩, h2⟩
theorem fit_list {α : Type} {ks : List Leaf} (enc : α → List Value) (ok : α → Prop) (dec : ∀ xs, Fit ks xs → ∃ x, xs = enc x ∧ ok x) :
    ∀ (n : Nat) (xs : List Value), Fit (List.replicate n ks).flatten xs → ∃ l : List α, xs = l.flatMap enc ∧ l.length = n ∧ ∀ x ∈ l, ok x
  | 0, [], _ => ⟨[], rfl, rfl, by simp⟩
  | 0, _ :: _, h => h.elim
  | n + 1, xs, h => by
    rw [List.replicate_succ, List.flatten_cons] at h
    obtain ⟨y, z, rfl, h1, h2⟩ := Fit.split h
    obtain ⟨x, rfl, hx⟩ := dec y h1
    obtain ⟨l, rfl, rfl, hl⟩ := fit_list enc ok dec n z h2
    refine ⟨x :: l, by simp, rfl, fun u hu => ?_⟩
    rcases List.mem_cons.1 hu with e | e
    · subst e; exact hx
    · exact hl u e
theorem rows_length {α : Type} (enc : α → List Value) (sz : Nat) (hsz : ∀ x, (enc x).length = sz) (l : List α) : (l.flatMap enc).length = l.length * sz := by
  induction l with
  | nil => simp
  | cons a l ih => rw [List.flatMap_cons, List.length_append, ih, hsz, List.length_cons, Nat.succ_mul]; omega
theorem rows_get {α : Type} (enc : α → List Value) (sz : Nat) (hsz : ∀ x, (enc x).length = sz) (l : List α) (i j : Nat) (hi : i < l.length) (hj : j < sz) : (l.flatMap enc)[i * sz + j]? = (enc l[i])[j]? := by
  induction l generalizing i with
  | nil => simp at hi
  | cons a l ih =>
    rw [List.flatMap_cons]
    cases i with
    | zero => rw [List.getElem?_append_left (by rw [hsz]; omega)]; simp
    | succ i =>
      rw [List.getElem?_append_right (by rw [hsz, Nat.succ_mul]; omega)]
      have : (i + 1) * sz + j - (enc a).length = i * sz + j := by rw [hsz, Nat.succ_mul]; omega
      rw [this, ih i (by simpa using hi)]; simp
/-- A slice reads as these elements, each a row of cells. -/
def RdT {α : Type} (enc : α → List Value) (w : World) (v : Value) (l : List α) : Prop := RdV w v l.length (l.flatMap enc)
theorem RdT.below {α : Type} {enc : α → List Value} {w w' : World} {v : Value} {l : List α} {B : Nat} (h : RdT enc w v l) (hb : Below B w w') (hB : w.heap.size ≤ B) : RdT enc w' v l := RdV.below h hb hB
theorem RdT.later {α : Type} {enc : α → List Value} {w w' : World} {v : Value} {l : List α} (h : RdT enc w v l) (hb : Below w.heap.size w w') : RdT enc w' v l := h.below hb (Nat.le_refl _)
theorem RdT.at {α : Type} {enc : α → List Value} {w : World} {p : Option Addr} {n cap : Nat} {l : List α} (h : RdT enc w (.slice p n cap) l) (sz : Nat) (h0 : 0 < sz) (hsz : ∀ x, (enc x).length = sz) (i : Nat) (hi : i < l.length) :
    ∃ b off, p = some ⟨b, off, none⟩ ∧ ∀ j, j < sz → w.cell? ⟨b, off + i * sz + j, none⟩ = (enc l[i])[j]? := by
  obtain ⟨p', cap', e, _, hc, _⟩ := h
  cases e
  have key : ∀ j, j < sz → ∃ b off, p = some ⟨b, off, none⟩ ∧ w.cell? ⟨b, off + (i * sz + j), none⟩ = (enc l[i])[j]? := fun j hj => by
    obtain ⟨b, off, e, h1⟩ := hc (i * sz + j) ((enc l[i])[j]'(by rw [hsz]; exact hj)) (by rw [rows_get enc sz hsz l i j hi hj]; simp)
    exact ⟨b, off, e, by rw [h1]; simp⟩
  obtain ⟨b, off, e, _⟩ := key 0 h0
  subst e
  refine ⟨b, off, rfl, fun j hj => ?_⟩
  obtain ⟨b', off', e', h1⟩ := key j hj
  cases e'
  rw [Nat.add_assoc]; exact h1
theorem RdT.len {α : Type} {enc : α → List Value} {w : World} {v : Value} {l : List α} (h : RdT enc w v l) : ∃ p cap, v = .slice p l.length cap ∧ l.length ≤ 9223372036854775807 := by
  obtain ⟨p, cap, e, hn, _⟩ := h
  exact ⟨p, cap, e, hn⟩
theorem RdT.owns {α : Type} {enc : α → List Value} {w : World} {base : Nat} {e : TypeId} {size : Nat} {v : Value} {l : List α} (h : w.ownsRow base e size v l.length (l.flatMap enc)) : RdT enc w v l := RdV.owns h
theorem rdT_nil {α : Type} (enc : α → List Value) (w : World) : RdT enc w (.slice none 0 0) [] := ⟨none, 0, rfl, by simp, fun j u hj => by simp at hj, fun _ => ⟨rfl, rfl⟩⟩
/-- An argument: a slice of a flat type. -/
theorem open_rows {H : Type} {e' : TypeId × Value → H} {P : Program} {w : World} {held : Bool} {t e : TypeId} {v : Value} {x : DataW H} {ps : List MemPlace} {r : Reach} {base : Nat} (d : Nat) {ks : List Leaf} {α : Type} (enc : α → List Value) (ok : α → Prop)
    (dec : ∀ xs, Fit ks xs → ∃ x, xs = enc x ∧ ok x)
    (hu : P.underlying t = some (.slice e)) (hk : flat P d e = some ks) (hc : P.cellsOf e = ks.length) (hok : Value.okWide P w r base t v) (ht : DataW.Trod e' P w 0 (fun _ => true) held t v x ps) :
    ∃ l : List α, RdT enc w v l ∧ ∀ x ∈ l, ok x := by
  obtain ⟨n, xs, hr, hf⟩ := flat_slice d hu hk hc hok ht
  obtain ⟨l, rfl, rfl, hl⟩ := fit_list enc ok dec n xs hf
  exact ⟨l, hr, hl⟩
theorem rdV_block (w : World) (cs : Array Value) (te : TypeId) (n cap : Nat) (hn : n ≤ 9223372036854775807) : RdV (w.alloc (.cells cs te)) (.slice (some ⟨w.heap.size, 0, none⟩) n cap) n cs.toList :=
  ⟨_, cap, rfl, hn, fun j u hj => ⟨w.heap.size, 0, rfl, by rw [(Blk.new w (.cells cs te)).cell]; simpa using hj⟩, fun h => by cases h⟩
/-- 'append(xs, x)' on a slice of the call's own, x a struct. -/
theorem appSt {P : Program} {ops : Array Oper} {rest : List Oper} {o : Oper} {a : Act} {Q : Exit → Act → World → Prop} (hgd : o.guard = none) (s x : Operand) (t : TypeId)
    (ho : o.op = .call { callee := .builtin .append, args := #[s, x], argTypes := #[t, t] })
    (base : Nat) (e : TypeId) (z : Value) (size bytes : Nat) (hinfo : (P.info? e).map (fun i => (i.zero, i.size, i.bytes)) = some (some z, size, bytes)) (ht : P.underlying t = some (.slice e)) (hzs : z.cells.size = size) (hsz : 0 < size)
    (w : World) (cs : Array Value) (te : TypeId) (hcs : cs.toList.length = size) (h1 : ∀ u ∈ cs.toList, u.oneCell' = true)
    (v : Value) (n : Nat) (xs : List Value) (hown : w.ownsRow base e size v n xs) (hs : a.eval s = v) (b : Nat) (hb : b = w.heap.size) (hx : a.eval x = .slice (some ⟨b, 0, none⟩) 1 1)
    (h63 : n + 1 ≤ 9223372036854775807) (hbytes : (n + 1) * bytes ≤ 140737488355328) (hbase : base ≤ w.heap.size)
    (h : ∀ v' w', w'.ownsRow base e size v' (n + 1) (xs ++ cs.toList) → Grew w v w' v' → wpList P ops Q rest (a.put o.dst v') w') : wpList P ops Q (o :: rest) a (w.alloc (.cells cs te)) := by
  subst hb
  refine appNg hgd s x t ho base e z size bytes hinfo ht hzs hsz (w.alloc (.cells cs te)) v n xs (ownsRow_below hown (below1 w _)) hs (.slice (some ⟨w.heap.size, 0, none⟩) 1 1) 1 cs.toList (rdV_block w cs te 1 1 (by omega)) (by rw [hcs]; omega) h1 hx h63 hbytes (by rw [World.size_alloc]; omega) ?_
  exact fun v' w' g1 g2 => h v' w' g1 ((Grew.alloc w v _).trans g2)
end Go.Proofs.Ythhgcfklaakndaa
