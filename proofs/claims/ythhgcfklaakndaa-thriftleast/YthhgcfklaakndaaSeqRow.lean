/-
  A slice of the consumer's own in a range over a function. Over any program.
-/
import Derived.Maps.OwnIn
import Derived.Test.YthhgcfklaakndaaSeq
import Derived.Test.YthhgcfklaakndaaElem
namespace Go.Proofs.Ythhgcfklaakndaa
open Go.RowKit
theorem ownsRow_sits {Z : Nat} {fp : Nat → Prop} {W W' : World} {base : Nat} {e : TypeId} {size : Nat} {v : Value} {n : Nat} {xs : List Value} (h : W.ownsRow base e size v n xs) (hs : Sits Z fp W W') (hf : ∀ b, v.ownBlock = some b → fp b) : W'.ownsRow base e size v n xs := by
  refine ⟨h.1, ?_⟩
  rcases h.2 with h2 | ⟨g, cap, cur, rfl, hb, hg, h3⟩
  · exact .inl h2
  · exact .inr ⟨g, cap, cur, rfl, hb, (hs.block g (Array.getElem?_eq_some_iff.1 hg).1 (.inr (hf g rfl))).trans hg, h3⟩
/-- 'append(xs, x)' in a fence. -/
theorem app1gIn {F : Fence} {m : Nat} {P : Program} {ops : Array Oper} {rest : List Oper} {o : Oper} {a : Act} {Q : Exit → Act → World → Prop} (hgd : o.guard = none) (s x : Operand) (t : TypeId)
    (ho : o.op = .call { callee := .builtin .append, args := #[s, x], argTypes := #[t, t] })
    (base : Nat) (e : TypeId) (z : Value) (bytes : Nat) (hinfo : (P.info? e).map (fun i => (i.zero, i.size, i.bytes)) = some (some z, 1, bytes)) (ht : P.underlying t = some (.slice e)) (hzs : z.cells.size = 1)
    (w : World) (u : Value) (te : TypeId) (hu : u.oneCell' = true)
    (v : Value) (n : Nat) (xs : List Value) (hown : w.ownsRow base e 1 v n xs) (hs : a.eval s = v) (b : Nat) (hb : b = w.heap.size) (hx : a.eval x = .slice (some ⟨b, 0, none⟩) 1 1)
    (h63 : n + 1 ≤ 9223372036854775807) (hbytes : (n + 1) * bytes ≤ 140737488355328) (hbase : base ≤ w.heap.size)
    (h : ∀ v' w', w'.ownsRow base e 1 v' (n + 1) (xs ++ [u]) → Grew w v w' v' → wpListIn F m P ops Q rest (a.put o.dst v') w') : wpListIn F m P ops Q (o :: rest) a (w.alloc (.cells #[u] te)) := by
  obtain ⟨i, hi, hz, hz1, hz2⟩ := info_parts hinfo
  subst hb
  refine wpListIn_append_own_at _ hgd s x t ho base e i z 1 bytes ht hi hz hz1 hz2 hzs (by decide) v n xs hs (hown.alloc _) ⟨w.heap.size, 0, none⟩ 1 1 [u] hx rfl (cell_one_new _ _ _) (by simpa using hu) (by simp only [maxLen]; omega) hbytes (by rw [World.size_alloc]; omega) ?_
  refine fun v' w' h1 h2 _ h4 => h v' w' h1 ⟨grownBy_trans_alloc h2, ?_⟩
  rcases h4 with h4 | h4
  · exact .inl h4
  · refine .inr fun b hb => ?_
    rw [h4] at hb; cases hb; rw [World.size_alloc]; omega
theorem Grew.moves {keep fp : Nat → Prop} {w w' : World} {v v' : Value} (g : Grew w v w' v') (hf : ∀ b, fp b → b < w.heap.size) (hv : ∀ b, v.ownBlock = some b → fp b) (hw : ∀ b, v'.ownBlock = some b → b < w'.heap.size) : Moves keep fp w (fun b => v'.ownBlock = some b ∨ fp b) w' := by
  refine (Moves.of_grown g.1 hf (fun b e _ => hv b e)).more (fun b hb => ?_)
  rcases hb with h | h
  · rcases g.2 with g2 | g2
    · exact .inl (hv b (by rw [← g2]; exact h))
    · exact .inr ⟨g2 b h, hw b h⟩
  · exact .inl h
end Go.Proofs.Ythhgcfklaakndaa
