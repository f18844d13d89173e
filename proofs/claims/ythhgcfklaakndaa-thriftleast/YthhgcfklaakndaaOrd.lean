/-
  A region that draws its order, walked in ONE order of the prover's own: what only reads (in every world that meets S) may be taken first; what turns the world comes up alone. Over any program.
-/
import Derived.Deep.RegionHeld3
import Derived.Test.YthhgcfklaakndaaBlk
namespace Go.Proofs.Ythhgcfklaakndaa
open Go.RowKit
def nth : List Oper → Nat → Option Oper
  | [], _ => none
  | o :: _, 0 => some o
  | _ :: l, i + 1 => nth l i
theorem nth_eq : ∀ (l : List Oper) (i : Nat), nth l i = l.toArray[i]?
  | [], i => by simp [nth]
  | o :: l, 0 => by simp [nth]
  | o :: l, i + 1 => by rw [nth, nth_eq l i]; simp
theorem Oper.wp_both {P : Program} {o : Oper} {a : Act} {w : World} {K K' : Act → World → Prop} {Q Q' : Exit → Act → World → Prop} (hK : ∀ a w, K a w → K' a w) (hQ : ∀ c a w, Q (.panic c) a w → Q' (.panic c) a w) (hL : LetsOut Q → LetsOut Q')
    (h : o.wp P a w K Q) : o.wp P a w K' Q' := by
  unfold Oper.wp at *
  generalize (execOp a.eval o).run P w = r at *
  cases r with
  | ok n w' =>
    cases n <;> simp only [Oper.upon] at h ⊢
    case value u => exact hK _ _ h
    case skip => exact hK _ _ h
    case defer d => exact hK _ _ h
    case enter f args =>
      refine Calls.mono h fun e w'' he => ?_
      cases e with
      | returned u => exact hK _ _ he
      | panicked c => exact hQ _ _ _ he
      | outgrown => exact hL he
    case row row args => exact Rows.mono h fun u w'' he => hK _ _ he
  | halt x w' =>
    cases x <;> simp only [Oper.upon] at h ⊢
    case panic u => exact hQ _ _ _ h
theorem wpAnyH_sub {P : Program} {md : Region.Mode} {ops : Array Oper} {Q : Exit → Act → World → Prop} {S S' : World → Prop} (h : ∀ w, S' w → S w) :
    ∀ (fuel : Nat) (listed : Array Bool) (a : Act) (w : World), wpAnyH P md ops Q S' fuel listed a w → wpAnyH P md ops Q S fuel listed a w
  | 0, _, _, _, g => g
  | fuel + 1, _, _, _, g => ⟨g.1, fun i hi => wpOp_mono (fun a' w' g' => ⟨h _ g'.1, wpAnyH_sub h fuel _ a' w' g'.2⟩) (g.2 i hi)⟩
/-- The order fits the region: what is in 'eff' comes up alone, the others may be taken first. -/
def ordOk (ops : Array Oper) (eff : List Nat) : List Nat → Array Bool → Bool
  | [], listed => Region.ready .any ops listed == []
  | i :: r, listed => (match eff.contains i with
      | true => Region.ready .any ops listed == [i]
      | false => Region.free .any ops listed i && (Region.ready .any ops listed).contains i) && ordOk ops eff r (listed.setIfInBounds i true)
def wpOrd (P : Program) (ops : List Oper) (Q : Exit → Act → World → Prop) (S : World → Prop) (eff : List Nat) : List Nat → Act → World → Prop
  | [], a, w => Q .normal a w
  | i :: r, a, w => match eff.contains i with
    | true => wpOp P ops.toArray Q i (fun a' w' => ∃ S' : World → Prop, (∀ w, S' w → S w) ∧ S' w' ∧ wpOrd P ops Q S' eff r a' w') a w
    | false => ∃ o v, nth ops i = some o ∧ YieldsIf P ops.toArray S o v a ∧ wpOrd P ops Q S eff r (a.put o.dst v) w
section
variable {P : Program} {ops : List Oper} {Q : Exit → Act → World → Prop} {S : World → Prop} {eff : List Nat}
theorem wpOrd_any (hsel : Region.noSelect ops.toArray = true) (hQ : ∀ c d v a w, Q (.panic c) (Act.put a d v) w → Q (.panic c) a w) :
    ∀ (ord : List Nat) (S : World → Prop) (fuel : Nat) (listed : Array Bool) (a : Act) (w : World), ord.length ≤ fuel → ordOk ops.toArray eff ord listed = true → S w → wpOrd P ops Q S eff ord a w → wpAnyH P .any ops.toArray Q S fuel listed a w
  | [], _, fuel, listed, a, w, _, hok, _, h => by
    simp only [ordOk, beq_iff_eq] at hok
    exact wpAnyH_done hok h fuel
  | i :: r, _, 0, _, _, _, hl, _, _, _ => by simp at hl
  | i :: r, S, fuel + 1, listed, a, w, hl, hok, hS, h => by
    have hl' : r.length ≤ fuel := by simpa using hl
    rw [ordOk, Bool.and_eq_true] at hok
    obtain ⟨h1, h2⟩ := hok
    rw [wpOrd] at h
    split at h
    · rename_i he
      rw [he] at h1
      simp only [beq_iff_eq] at h1
      refine wpAnyH_all h1 (by simp) (fun j hj => ?_)
      obtain rfl : j = i := by simpa using hj
      exact wpOp_mono (fun a' w' ⟨S', g0, g1, g2⟩ => ⟨g0 _ g1, wpAnyH_sub g0 _ _ _ _ (wpOrd_any hsel hQ r S' fuel _ a' w' hl' h2 g1 g2)⟩) h
    · rename_i he
      rw [he] at h1
      simp only [Bool.and_eq_true] at h1
      obtain ⟨o, v, ho, hy, hw⟩ := h
      rw [nth_eq] at ho
      exact wpAnyH_take ho hsel h1.1 h1.2 (fun c a w => hQ c o.dst v a w) hy hS (wpOrd_any hsel hQ r S fuel _ _ w hl' h2 hS hw)
/-- The beginning. -/
theorem wp_region_ord {id : Nat} {a : Act} {w : World} (S : World → Prop) (ord eff : List Nat) (hm : P.follows .mixedOrders = true)
    (hck : (Region.noSelect ops.toArray && decide (ord.length ≤ ops.length) && ordOk ops.toArray eff ord (Array.replicate ops.toArray.size false)) = true)
    (hQ : ∀ c d v a w, Q (.panic c) (Act.put a d v) w → Q (.panic c) a w) (hS : S w.drew) (h : wpOrd P ops Q S eff ord a w.drew) : (Code.region id ops.toArray true).wp P Q a w := by
  simp only [Bool.and_eq_true, decide_eq_true_eq] at hck
  exact wp_region_held_drew (S := S) hm hS (fun _ => wpOrd_any hck.1.1 hQ ord S _ _ a w.drew (by simpa using hck.1.2) hck.2 hS h)
theorem wpOrd_nil {a : Act} {w : World} (h : Q .normal a w) : wpOrd P ops Q S eff [] a w := h
/-- What only reads. -/
theorem wpOrd_take {i : Nat} {r : List Nat} {o : Oper} {v : Value} {a : Act} {w : World} (ho : nth ops i = some o) (he : eff.contains i = false) (hw : Region.wanted o (yielded ops.toArray a.tmps) = true)
    (hy : ∀ w, S w → (execOp a.eval o).run P w = .ok (.value v) w) (h : wpOrd P ops Q S eff r (a.put o.dst v) w) : wpOrd P ops Q S eff (i :: r) a w := by
  rw [wpOrd, he]; exact ⟨o, v, ho, .inl ⟨hw, hy⟩, h⟩
/-- What is guarded, and its guard says no. -/
theorem wpOrd_skip {i : Nat} {r : List Nat} {o : Oper} {a : Act} {w : World} (ho : nth ops i = some o) (he : eff.contains i = false) (hw : Region.wanted o (yielded ops.toArray a.tmps) = false)
    (h : wpOrd P ops Q S eff r (a.put o.dst undef) w) : wpOrd P ops Q S eff (i :: r) a w := by
  rw [wpOrd, he]; exact ⟨o, undef, ho, .inr ⟨hw, rfl⟩, h⟩
theorem wpOp_list {i : Nat} {o : Oper} {a : Act} {w : World} {K' : Act → World → Prop} (ho : nth ops i = some o)
    (h1 : wpList P ops.toArray (Exit.then K' Q) [o] a w) : wpOp P ops.toArray Q i K' a w := by
  unfold wpOp
  rw [nth_eq] at ho
  simp only [ho]
  unfold wpList at h1
  split
  · rename_i hw
    rw [if_pos hw] at h1
    exact h1.imp (Oper.wp_both (fun a w h => h) (fun c a w h => h) (fun ⟨a, w, h⟩ => ⟨a, w, h⟩)) (fun ⟨g1, ⟨a, w, g2⟩⟩ => ⟨g1, ⟨a, w, g2⟩⟩)
  · rename_i hw
    rw [if_neg hw] at h1
    exact h1
/-- What turns the world: walked as a list of one operation; behind it S, or what is more than S, is shown anew. -/
theorem wpOrd_effS {i : Nat} {r : List Nat} {o : Oper} {a : Act} {w : World} (ho : nth ops i = some o) (he : eff.contains i = true)
    (h : ∀ K : Act → World → Prop, Shut (∀ (S' : World → Prop) a w, (∀ w, S' w → S w) → S' w → wpOrd P ops Q S' eff r a w → K a w) → wpList P ops.toArray (Exit.then K Q) [o] a w) : wpOrd P ops Q S eff (i :: r) a w := by
  rw [wpOrd, he]
  exact wpOp_list ho (h _ (fun S' a w g0 g1 g2 => ⟨S', g0, g1, g2⟩))
theorem wpOrd_eff {i : Nat} {r : List Nat} {o : Oper} {a : Act} {w : World} (ho : nth ops i = some o) (he : eff.contains i = true)
    (h : ∀ K : Act → World → Prop, Shut (∀ a w, S w → wpOrd P ops Q S eff r a w → K a w) → wpList P ops.toArray (Exit.then K Q) [o] a w) : wpOrd P ops Q S eff (i :: r) a w :=
  wpOrd_effS ho he fun K hK => h K (fun a w g1 g2 => hK S a w (fun _ g => g) g1 g2)
end
/-- A guarded operation whose guard says yes, as one without a guard. -/
theorem wpList_unguard {P : Program} {ops : Array Oper} {Q : Exit → Act → World → Prop} {d : Option Tmp} {op : Op} {t : TypeId} {pos : String} {after : Array Edge} {g : Option (Nat × Bool)} {rest : List Oper} {a : Act} {w : World}
    (hw : Region.wanted ⟨d, op, t, pos, after, g⟩ (yielded ops a.tmps) = true) (h : wpList P ops Q (⟨d, op, t, pos, after, none⟩ :: rest) a w) : wpList P ops Q (⟨d, op, t, pos, after, g⟩ :: rest) a w := by
  unfold wpList at h ⊢
  rw [if_pos hw]
  rw [if_pos (by rfl)] at h
  exact h
theorem undrew {B : Nat} {w w' : World} (h : Below B w.drew w') : Below B w w' := ⟨h.os, h.tape, h.output, h.size, h.block⟩
attribute [irreducible] wpOrd
/-- An order with a fork: two that turn the world may both come next. -/
inductive Way where
  | nil
  | go (i : Nat) (r : Way)
  | two (i j : Nat) (r t : Way)
def Way.len : Way → Nat
  | .nil => 0
  | .go _ r => r.len + 1
  | .two _ _ r t => max r.len t.len + 1
def wayOk (ops : Array Oper) (eff : List Nat) : Way → Array Bool → Bool
  | .nil, listed => Region.ready .any ops listed == []
  | .go i r, listed => (match eff.contains i with
      | true => Region.ready .any ops listed == [i]
      | false => Region.free .any ops listed i && (Region.ready .any ops listed).contains i) && wayOk ops eff r (listed.setIfInBounds i true)
  | .two i j r t, listed => Region.ready .any ops listed == [i, j] && wayOk ops eff r (listed.setIfInBounds i true) && wayOk ops eff t (listed.setIfInBounds j true)
def wpWay (P : Program) (ops : List Oper) (Q : Exit → Act → World → Prop) (S : World → Prop) (eff : List Nat) : Way → Act → World → Prop
  | .nil, a, w => Q .normal a w
  | .go i r, a, w => match eff.contains i with
    | true => wpOp P ops.toArray Q i (fun a' w' => ∃ S' : World → Prop, (∀ w, S' w → S w) ∧ S' w' ∧ wpWay P ops Q S' eff r a' w') a w
    | false => ∃ o v, nth ops i = some o ∧ YieldsIf P ops.toArray S o v a ∧ wpWay P ops Q S eff r (a.put o.dst v) w
  | .two i j r t, a, w => wpOp P ops.toArray Q i (fun a' w' => ∃ S' : World → Prop, (∀ w, S' w → S w) ∧ S' w' ∧ wpWay P ops Q S' eff r a' w') a w ∧ wpOp P ops.toArray Q j (fun a' w' => ∃ S' : World → Prop, (∀ w, S' w → S w) ∧ S' w' ∧ wpWay P ops Q S' eff t a' w') a w
section
variable {P : Program} {ops : List Oper} {Q : Exit → Act → World → Prop} {S : World → Prop} {eff : List Nat}
theorem wpWay_any (hsel : Region.noSelect ops.toArray = true) (hQ : ∀ c d v a w, Q (.panic c) (Act.put a d v) w → Q (.panic c) a w) :
    ∀ (ord : Way) (S : World → Prop) (fuel : Nat) (listed : Array Bool) (a : Act) (w : World), ord.len ≤ fuel → wayOk ops.toArray eff ord listed = true → S w → wpWay P ops Q S eff ord a w → wpAnyH P .any ops.toArray Q S fuel listed a w
  | .nil, _, fuel, listed, a, w, _, hok, _, h => by
    simp only [wayOk, beq_iff_eq] at hok
    exact wpAnyH_done hok h fuel
  | .go i r, _, 0, _, _, _, hl, _, _, _ => by simp [Way.len] at hl
  | .two i j r t, _, 0, _, _, _, hl, _, _, _ => by simp [Way.len] at hl
  | .go i r, S, fuel + 1, listed, a, w, hl, hok, hS, h => by
    have hl' : r.len ≤ fuel := by simpa [Way.len] using hl
    rw [wayOk, Bool.and_eq_true] at hok
    obtain ⟨h1, h2⟩ := hok
    rw [wpWay] at h
    split at h
    · rename_i he
      rw [he] at h1
      simp only [beq_iff_eq] at h1
      refine wpAnyH_all h1 (by simp) (fun j hj => ?_)
      obtain rfl : j = i := by simpa using hj
      exact wpOp_mono (fun a' w' ⟨S', g0, g1, g2⟩ => ⟨g0 _ g1, wpAnyH_sub g0 _ _ _ _ (wpWay_any hsel hQ r S' fuel _ a' w' hl' h2 g1 g2)⟩) h
    · rename_i he
      rw [he] at h1
      simp only [Bool.and_eq_true] at h1
      obtain ⟨o, v, ho, hy, hw⟩ := h
      rw [nth_eq] at ho
      exact wpAnyH_take ho hsel h1.1 h1.2 (fun c a w => hQ c o.dst v a w) hy hS (wpWay_any hsel hQ r S fuel _ _ w hl' h2 hS hw)
  | .two i j r t, S, fuel + 1, listed, a, w, hl, hok, hS, h => by
    have hl1 : r.len ≤ fuel := by simp only [Way.len] at hl; omega
    have hl2 : t.len ≤ fuel := by simp only [Way.len] at hl; omega
    rw [wayOk, Bool.and_eq_true, Bool.and_eq_true] at hok
    obtain ⟨⟨h1, h2⟩, h3⟩ := hok
    simp only [beq_iff_eq] at h1
    rw [wpWay] at h
    refine wpAnyH_all h1 (by simp) (fun k hk => ?_)
    simp only [List.mem_cons, List.not_mem_nil, or_false] at hk
    rcases hk with rfl | rfl
    · exact wpOp_mono (fun a' w' ⟨S', g0, g1, g2⟩ => ⟨g0 _ g1, wpAnyH_sub g0 _ _ _ _ (wpWay_any hsel hQ r S' fuel _ a' w' hl1 h2 g1 g2)⟩) h.1
    · exact wpOp_mono (fun a' w' ⟨S', g0, g1, g2⟩ => ⟨g0 _ g1, wpAnyH_sub g0 _ _ _ _ (wpWay_any hsel hQ t S' fuel _ a' w' hl2 h3 g1 g2)⟩) h.2
/-- The beginning. -/
theorem wp_region_way {id : Nat} {a : Act} {w : World} (S : World → Prop) (ord : Way) (eff : List Nat) (hm : P.follows .mixedOrders = true)
    (hck : (Region.noSelect ops.toArray && decide (ord.len ≤ ops.length) && wayOk ops.toArray eff ord (Array.replicate ops.toArray.size false)) = true)
    (hQ : ∀ c d v a w, Q (.panic c) (Act.put a d v) w → Q (.panic c) a w) (hS : S w.drew) (h : wpWay P ops Q S eff ord a w.drew) : (Code.region id ops.toArray true).wp P Q a w := by
  simp only [Bool.and_eq_true, decide_eq_true_eq] at hck
  exact wp_region_held_drew (S := S) hm hS (fun _ => wpWay_any hck.1.1 hQ ord S _ _ a w.drew (by simpa using hck.1.2) hck.2 hS h)
theorem wpWay_nil {a : Act} {w : World} (h : Q .normal a w) : wpWay P ops Q S eff .nil a w := h
theorem wpWay_take {i : Nat} {r : Way} {o : Oper} {v : Value} {a : Act} {w : World} (ho : nth ops i = some o) (he : eff.contains i = false) (hw : Region.wanted o (yielded ops.toArray a.tmps) = true)
    (hy : ∀ w, S w → (execOp a.eval o).run P w = .ok (.value v) w) (h : wpWay P ops Q S eff r (a.put o.dst v) w) : wpWay P ops Q S eff (.go i r) a w := by
  rw [wpWay, he]; exact ⟨o, v, ho, .inl ⟨hw, hy⟩, h⟩
theorem wpWay_skip {i : Nat} {r : Way} {o : Oper} {a : Act} {w : World} (ho : nth ops i = some o) (he : eff.contains i = false) (hw : Region.wanted o (yielded ops.toArray a.tmps) = false)
    (h : wpWay P ops Q S eff r (a.put o.dst undef) w) : wpWay P ops Q S eff (.go i r) a w := by
  rw [wpWay, he]; exact ⟨o, undef, ho, .inr ⟨hw, rfl⟩, h⟩
theorem wpWay_effS {i : Nat} {r : Way} {o : Oper} {a : Act} {w : World} (ho : nth ops i = some o) (he : eff.contains i = true)
    (h : ∀ K : Act → World → Prop, Shut (∀ (S' : World → Prop) a w, (∀ w, S' w → S w) → S' w → wpWay P ops Q S' eff r a w → K a w) → wpList P ops.toArray (Exit.then K Q) [o] a w) : wpWay P ops Q S eff (.go i r) a w := by
  rw [wpWay, he]
  exact wpOp_list ho (h _ (fun S' a w g0 g1 g2 => ⟨S', g0, g1, g2⟩))
theorem wpWay_eff {i : Nat} {r : Way} {o : Oper} {a : Act} {w : World} (ho : nth ops i = some o) (he : eff.contains i = true)
    (h : ∀ K : Act → World → Prop, Shut (∀ a w, S w → wpWay P ops Q S eff r a w → K a w) → wpList P ops.toArray (Exit.then K Q) [o] a w) : wpWay P ops Q S eff (.go i r) a w :=
  wpWay_effS ho he fun K hK => h K (fun a w g1 g2 => hK S a w (fun _ g => g) g1 g2)
theorem wpWay_twoS {i j : Nat} {r t : Way} {o o' : Oper} {a : Act} {w : World} (ho : nth ops i = some o) (ho' : nth ops j = some o')
    (h : ∀ K : Act → World → Prop, Shut (∀ (S' : World → Prop) a w, (∀ w, S' w → S w) → S' w → wpWay P ops Q S' eff r a w → K a w) → wpList P ops.toArray (Exit.then K Q) [o] a w)
    (h' : ∀ K : Act → World → Prop, Shut (∀ (S' : World → Prop) a w, (∀ w, S' w → S w) → S' w → wpWay P ops Q S' eff t a w → K a w) → wpList P ops.toArray (Exit.then K Q) [o'] a w) : wpWay P ops Q S eff (.two i j r t) a w := by
  rw [wpWay]
  exact ⟨wpOp_list ho (h _ (fun S' a w g0 g1 g2 => ⟨S', g0, g1, g2⟩)), wpOp_list ho' (h' _ (fun S' a w g0 g1 g2 => ⟨S', g0, g1, g2⟩))⟩
theorem wpWay_two {i j : Nat} {r t : Way} {o o' : Oper} {a : Act} {w : World} (ho : nth ops i = some o) (ho' : nth ops j = some o')
    (h : ∀ K : Act → World → Prop, Shut (∀ a w, S w → wpWay P ops Q S eff r a w → K a w) → wpList P ops.toArray (Exit.then K Q) [o] a w)
    (h' : ∀ K : Act → World → Prop, Shut (∀ a w, S w → wpWay P ops Q S eff t a w → K a w) → wpList P ops.toArray (Exit.then K Q) [o'] a w) : wpWay P ops Q S eff (.two i j r t) a w :=
  wpWay_twoS ho ho' (fun K hK => h K (fun a w g1 g2 => hK S a w (fun _ g => g) g1 g2)) (fun K hK => h' K (fun a w g1 g2 => hK S a w (fun _ g => g) g1 g2))
end
attribute [irreducible] wpWay
end Go.Proofs.Ythhgcfklaakndaa
