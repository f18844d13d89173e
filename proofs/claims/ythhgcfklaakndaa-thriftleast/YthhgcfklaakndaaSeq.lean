/-
  A range over a function, where the iterator may itself range over another one: the contract of an iterator that tells one list; the law for who ranges over it, in no round and in a round. Over any program.
-/
import Derived.RangeFuncNested
import Derived.RangeFuncBound
import Derived.RangeFuncCalls
import Derived.RangeFuncLeaves
import Derived.Test.YthhgcfklaakndaaBlk
namespace Go.Proofs.Ythhgcfklaakndaa
open Go.RowKit

/-- From W, the blocks of fp being the consumer's own, to W': of what is to be kept nothing has turned but what is fp's. -/
structure Moves (keep fp : Nat → Prop) (W : World) (fp' : Nat → Prop) (W' : World) : Prop where
  os : W'.os = W.os
  tape : W'.tape = W.tape
  output : W'.output = W.output
  size : W.heap.size ≤ W'.heap.size
  block : ∀ b, b < W.heap.size → keep b → ¬ fp b → W'.heap[b]? = W.heap[b]?
  own : ∀ b, fp' b → b < W'.heap.size ∧ (fp b ∨ W.heap.size ≤ b)
theorem Moves.refl (keep : Nat → Prop) {fp : Nat → Prop} {W : World} (h : ∀ b, fp b → b < W.heap.size) : Moves keep fp W fp W := ⟨rfl, rfl, rfl, Nat.le_refl _, fun _ _ _ _ => rfl, fun b hb => ⟨h b hb, .inl hb⟩⟩
theorem Moves.trans {keep f0 f1 f2 : Nat → Prop} {W0 W1 W2 : World} (h : Moves keep f0 W0 f1 W1) (g : Moves keep f1 W1 f2 W2) : Moves keep f0 W0 f2 W2 :=
  ⟨g.os.trans h.os, g.tape.trans h.tape, g.output.trans h.output, Nat.le_trans h.size g.size,
    fun b hb hk hf => (g.block b (Nat.lt_of_lt_of_le hb h.size) hk (fun h1 => by
      rcases (h.own b h1).2 with h2 | h2
      · exact hf h2
      · omega)).trans (h.block b hb hk hf),
    fun b hb => ⟨(g.own b hb).1, by
      rcases (g.own b hb).2 with h1 | h1
      · exact (h.own b h1).2
      · exact .inr (Nat.le_trans h.size h1)⟩⟩
theorem Moves.mono {k k' f0 f1 : Nat → Prop} {W0 W1 : World} (h : Moves k f0 W0 f1 W1) (hk : ∀ b, k' b → k b) : Moves k' f0 W0 f1 W1 := ⟨h.os, h.tape, h.output, h.size, fun b hb h1 hf => h.block b hb (hk b h1) hf, h.own⟩
/-- What keeps all that lay. -/
theorem Moves.of_below {keep fp : Nat → Prop} {W W' : World} (h : Below W.heap.size W W') (hf : ∀ b, fp b → b < W.heap.size) : Moves keep fp W fp W' := ⟨h.os, h.tape, h.output, h.size, fun b hb _ _ => h.block b hb, fun b hb => ⟨Nat.lt_of_lt_of_le (hf b hb) h.size, .inl hb⟩⟩
/-- What turns one block that need not be kept. -/
theorem Moves.of_grown {keep fp : Nat → Prop} {W W' : World} {r : Option Nat} (h : W.grownBy W' r) (hf : ∀ b, fp b → b < W.heap.size) (hr : ∀ b, r = some b → keep b → fp b) : Moves keep fp W fp W' :=
  ⟨h.os, h.tape, h.output, h.size, fun b hb hk hn => h.block b hb (fun e => hn (hr b e.symm hk)), fun b hb => ⟨Nat.lt_of_lt_of_le (hf b hb) h.size, .inl hb⟩⟩
theorem Moves.set {keep fp : Nat → Prop} {W : World} (p : Addr) (v : Value) (hf : ∀ b, fp b → b < W.heap.size) (hp : keep p.block → fp p.block) : Moves keep fp W fp (W.setCell p v) :=
  Moves.of_grown (r := some p.block) ⟨rfl, rfl, rfl, by simp, fun k hk hk2 => Below.heap_setCell _ _ _ _ (fun e => hk2 (by rw [e]))⟩ hf (fun b e hk => by
    have e' : p.block = b := Option.some.inj e
    subst e'; exact hp hk)
/-- More blocks of the consumer's own: new ones. -/
theorem Moves.more {keep f0 f1 f2 : Nat → Prop} {W0 W1 : World} (h : Moves keep f0 W0 f1 W1) (hm : ∀ b, f2 b → f1 b ∨ W0.heap.size ≤ b ∧ b < W1.heap.size) : Moves keep f0 W0 f2 W1 :=
  ⟨h.os, h.tape, h.output, h.size, h.block, fun b hb => by
    rcases hm b hb with h1 | h1
    · exact h.own b h1
    · exact ⟨h1.2, .inr h1.1⟩⟩

/-- From W to W': what lies below Z, and what is fp's, lies as it lay. -/
structure Sits (Z : Nat) (fp : Nat → Prop) (W W' : World) : Prop where
  os : W'.os = W.os
  tape : W'.tape = W.tape
  output : W'.output = W.output
  size : W.heap.size ≤ W'.heap.size
  block : ∀ b, b < W.heap.size → b < Z ∨ fp b → W'.heap[b]? = W.heap[b]?
theorem Sits.refl (Z : Nat) (fp : Nat → Prop) (W : World) : Sits Z fp W W := ⟨rfl, rfl, rfl, Nat.le_refl _, fun _ _ _ => rfl⟩
theorem Sits.of_below {Z : Nat} {fp : Nat → Prop} {W W' : World} (h : Below W.heap.size W W') : Sits Z fp W W' := ⟨h.os, h.tape, h.output, h.size, fun b hb _ => h.block b hb⟩
theorem Sits.of_grown {Z : Nat} {fp : Nat → Prop} {W W' : World} {l : Nat} (h : W.grownBy W' (some l)) (hl : Z ≤ l) (hf : ¬ fp l) : Sits Z fp W W' :=
  ⟨h.os, h.tape, h.output, h.size, fun b hb hk => h.block b hb (fun e => by
    cases e
    rcases hk with h1 | h1
    · omega
    · exact hf h1)⟩
theorem Sits.blk {Z : Nat} {fp : Nat → Prop} {W W' : World} (h : Sits Z fp W W') {b : Nat} {o : Obj} (hb : Blk W b o) (hk : b < Z ∨ fp b) : Blk W' b o := (h.block b hb.lt hk).trans hb
theorem Sits.below {Z B : Nat} {fp : Nat → Prop} {A W W' : World} (h : Sits Z fp W W') (hb : Below B A W) (hB : B ≤ Z) (hA : B ≤ A.heap.size) : Below B A W' :=
  ⟨h.os.trans hb.os, h.tape.trans hb.tape, h.output.trans hb.output, Nat.le_trans hb.size h.size, fun k hk => (h.block k (Nat.lt_of_lt_of_le (Nat.lt_of_lt_of_le hk hA) hb.size) (.inl (Nat.lt_of_lt_of_le hk hB))).trans (hb.block k hk)⟩
def Abide {α : Type} (Z : Nat) (J : List α → (Nat → Prop) → World → Prop) : Prop := ∀ s fp W W', J s fp W → Sits Z fp W W' → J s fp W'
theorem Abide.mono {α : Type} {Z Z' : Nat} {J : List α → (Nat → Prop) → World → Prop} (h : Abide Z J) (hz : Z ≤ Z') : Abide Z' J := fun s fp W W' hj hs => h s fp W W' hj ⟨hs.os, hs.tape, hs.output, hs.size, fun b hb hk => hs.block b hb (hk.imp (fun h => Nat.lt_of_lt_of_le h hz) id)⟩

/-- THE CONTRACT: whatever the consumer's rounds are, as long as they keep what the iterator reads (dat) and what lies beyond where it began: it tells the list L. -/
def Seq {α : Type} (F : Fence) (n : Nat) (P : Program) (g : Nat) (lb : Array Value) (encs : α → Array Value) (dat : Nat → Prop) (L : List α) (w0 : World) : Prop :=
  ∀ (l : Nat) (J Jx : List α → (Nat → Prop) → World → Prop) (W : World), w0.heap.size ≤ W.heap.size → (∀ b, dat b → W.heap[b]? = w0.heap[b]?) → Abide W.heap.size J → Abide W.heap.size Jx →
    (∀ pre x post fp W1, L = pre ++ x :: post → J pre fp W1 → (∀ b, fp b → W.heap.size ≤ b ∧ b < W1.heap.size) → W.heap.size ≤ W1.heap.size →
      YieldAt F (n - 1) P l (encs x) W1 fun e W' => ∃ fp', Moves (fun b => dat b ∨ W.heap.size ≤ b) fp W1 fp' W' ∧
        ((e = .returned (.bool true) ∧ J (pre ++ [x]) fp' W') ∨ (e = .returned (.bool false) ∧ Jx (pre ++ [x]) fp' W'))) →
    J [] (fun _ => False) W →
    CallsIn F n P g (#[.func (.yield l) #[] #[]] ++ lb) W fun e W' => (∃ v, e = .returned v) ∧
      ∃ fp, (∀ b, fp b → W.heap.size ≤ b ∧ b < W'.heap.size) ∧ (J L fp W' ∨ ∃ pre, pre <+: L ∧ Jx pre fp W')
/-- How the body of a round may be left. -/
def postR {α : Type} (keep : Nat → Prop) (I : List α → (Nat → Prop) → World → Prop) (Ix : Code → List α → (Nat → Prop) → World → Prop) (xs : List α) (fp : Nat → Prop) (W : World) : Exit → Act → World → Prop
  | .normal, _, W' => ∃ fp', Moves keep fp W fp' W' ∧ I xs fp' W'
  | .ret, _, W' => ∃ fp', Moves keep fp W fp' W' ∧ Ix .ret xs fp' W'
  | .exit id, _, W' => ∃ fp', Moves keep fp W fp' W' ∧ Ix (.exit id) xs fp' W'
  | .goto t, _, W' => ∃ fp', Moves keep fp W fp' W' ∧ Ix (.goto t) xs fp' W'
  | .panic _, _, _ => False
  | .outgrown, _, _ => False

section
variable {F : Fence} {n : Nat} {P : Program} {α : Type}
theorem putObj_heap_at {W : World} {l : Nat} {o : Obj} (h : l < W.heap.size) : (W.putObj l o).heap[l]? = some o := World.putObj_heap_same h
theorem putObj_heap_off {W : World} {l b : Nat} {o : Obj} (h : b ≠ l) : (W.putObj l o).heap[b]? = W.heap[b]? := World.putObj_heap_other h
theorem below_at {W W' : World} {b : Nat} {o : Obj} (h : Below W.heap.size W W') (hb : W.heap[b]? = some o) : W'.heap[b]? = some o := (h.block b (Array.getElem?_eq_some_iff.1 hb).1).trans hb

/-- All rounds of a loop whose record lies at l, from the world W1 on. -/
theorem range_core {ps : Array Tmp} {assign body : Code} {gf : Nat} {lb : Array Value} {encs : α → Array Value} {dat : Nat → Prop} {L : List α} {w W1 : World} {l : Nat} {r : Loop}
    (hseq : Seq F (n - 1) P gf lb encs dat L w) (hd : ∀ b, dat b → b < w.heap.size) (hwl : w.heap.size ≤ l) (hW1 : Below w.heap.size w W1) (hl1 : W1.heap[l]? = some (.loop r)) (hfn : F.fn r.fn)
    (hst : r.state = .ready) (hpe : r.pending = none) (hpa : r.params = ps) (has : r.assign = assign) (hbo : r.body = body) (hps : ∀ x, (encs x).size = ps.size)
    (I : List α → (Nat → Prop) → World → Prop) (Ix : Code → List α → (Nat → Prop) → World → Prop) (hI : Abide w.heap.size I) (hIx : ∀ c, Abide w.heap.size (Ix c)) (h0 : I [] (fun _ => False) w)
    (hround : ∀ (pre : List α) (x : α) (post : List α) (fp : Nat → Prop) (W : World), L = pre ++ x :: post → W1.heap.size ≤ W.heap.size → I pre fp W → (∀ b, fp b → l < b ∧ b < W.heap.size) →
      assign.wpIn (F.inRound l) (n - 1 - 1) P (Exit.then (fun a' W' => Below W.heap.size W W' ∧ ∀ W2, W'.grownBy W2 (some l) → (∃ r, W2.heap[l]? = some (.loop r)) → I pre fp W2 →
        body.wpIn (F.inRound l) (n - 1 - 1) P (postR (fun b => dat b ∨ w.heap.size ≤ b) I Ix (pre ++ [x]) fp W2) a' W2) (fun _ _ _ => False))
        { tmps := (ps.zip (encs x)).foldl (fun t (p, v) => t.setIfInBounds p v) r.tmps, defers := [] } W) :
    CallsIn F (n - 1) P gf (#[.func (.yield l) #[] #[]] ++ lb) W1 fun e W' => (∃ v, e = .returned v) ∧ ∃ fp, (∀ b, fp b → l < b ∧ b < W'.heap.size) ∧
      (∀ b, w.heap.size ≤ b → b < W1.heap.size → b ≠ l → W'.heap[b]? = W1.heap[b]?) ∧
      ((I L fp W' ∧ W'.heap[l]? = some (.loop r)) ∨ ∃ pre c, pre <+: L ∧ Ix c pre fp W' ∧ W'.heap[l]? = some (.loop { r with state := .done, pending := some c })) := by
  subst hpa has hbo
  have hll : l < W1.heap.size := (Array.getElem?_eq_some_iff.1 hl1).1
  have hab : ∀ {fp : Nat → Prop} {A B : World}, Sits W1.heap.size fp A B → Sits w.heap.size fp A B := fun h => ⟨h.os, h.tape, h.output, h.size, fun b hb hk => h.block b hb (hk.imp (fun h2 => Nat.lt_of_lt_of_le h2 hW1.size) id)⟩
  obtain ⟨side, hside⟩ : ∃ side : World → Prop, side = fun W => W1.heap.size ≤ W.heap.size ∧ ∀ b, w.heap.size ≤ b → b < W1.heap.size → b ≠ l → W.heap[b]? = W1.heap[b]? := ⟨_, rfl⟩
  have hsab : ∀ {fp : Nat → Prop} {A B : World}, side A → Sits W1.heap.size fp A B → side B := by
    rw [hside]
    intro fp A B h hs
    exact ⟨Nat.le_trans h.1 hs.size, fun b h1 h2 h3 => (hs.block b (Nat.lt_of_lt_of_le h2 h.1) (.inl h2)).trans (h.2 b h1 h2 h3)⟩
  have hlab : ∀ {fp : Nat → Prop} {A B : World} {r' : Loop}, side A → A.heap[l]? = some (.loop r') → Sits W1.heap.size fp A B → B.heap[l]? = some (.loop r') := by
    rw [hside]
    intro fp A B r' h hl hs
    exact (hs.block l (Nat.lt_of_lt_of_le hll h.1) (.inl hll)).trans hl
  refine (hseq l (fun pre fp W => I pre fp W ∧ W.heap[l]? = some (.loop r) ∧ side W) (fun pre fp W => ∃ c, Ix c pre fp W ∧ W.heap[l]? = some (.loop { r with state := .done, pending := some c }) ∧ side W) W1 hW1.size (fun b hb => hW1.block b (hd b hb))
    (fun s fp A B h hs => ⟨hI s fp A B h.1 (hab hs), hlab h.2.2 h.2.1 hs, hsab h.2.2 hs⟩)
    (fun s fp A B h hs => by
      obtain ⟨c, h1, h2, h3⟩ := h
      exact ⟨c, hIx c s fp A B h1 (hab hs), hlab h3 h2 hs, hsab h3 hs⟩) ?_
    ⟨hI _ _ _ _ h0 ⟨hW1.os, hW1.tape, hW1.output, hW1.size, fun b hb _ => hW1.block b hb⟩, hl1, by rw [hside]; exact ⟨Nat.le_refl _, fun _ _ _ _ => rfl⟩⟩).mono ?_
  · rintro pre x post fp W hL ⟨hi, hl, hs⟩ hfp hsz
    have hfl : ∀ b, fp b → l < b ∧ b < W.heap.size := fun b hb => ⟨by have := (hfp b hb).1; omega, (hfp b hb).2⟩
    have hlW : l < W.heap.size := by omega
    have hy := run_yield (P := P) (args := encs x) hl (hps x)
    refine ⟨r.fn, _, r.assign, r.body, hy, roundIn_of_wpIn hfn ?_⟩
    refine Code.wpIn_mono (fun e a' W' he => ?_) (hround pre x post fp W hL hsz hi hfl)
    cases e with
    | normal =>
      obtain ⟨hB, hgo⟩ := he
      have hl' : W'.heap[l]? = some (.loop r) := below_at hB hl
      refine ⟨_, run_beginRound hl' hst, ?_⟩
      have hlt' : l < W'.heap.size := Nat.lt_of_lt_of_le hlW hB.size
      have hg := grownBy_putObj' W' l (.loop { r with state := .busy })
      have hl2 : (W'.putObj l (.loop { r with state := .busy })).heap[l]? = some (.loop { r with state := .busy }) := putObj_heap_at hlt'
      have hnl : ¬ fp l := fun h => by have := (hfl l h).1; omega
      have hs1 : Sits w.heap.size fp W W' := Sits.of_below hB
      have hs2 : Sits w.heap.size fp W' (W'.putObj l (.loop { r with state := .busy })) := Sits.of_grown hg hwl hnl
      have hi2 := hI _ _ _ _ (hI _ _ _ _ hi hs1) hs2
      have hM1 : Moves (fun b => dat b ∨ W1.heap.size ≤ b) fp W fp W' := Moves.of_below hB (fun b hb => (hfl b hb).2)
      have hM2 : Moves (fun b => dat b ∨ W1.heap.size ≤ b) fp W' fp (W'.putObj l (.loop { r with state := .busy })) := Moves.of_grown hg (fun b hb => Nat.lt_of_lt_of_le (hfl b hb).2 hB.size) (fun b e hk => by
        cases e
        rcases hk with h1 | h1
        · have := hd _ h1; omega
        · omega)
      have hside2 : side (W'.putObj l (.loop { r with state := .busy })) := by
        rw [hside] at hs ⊢
        refine ⟨Nat.le_trans hs.1 (Nat.le_trans hB.size hg.size), fun b h1 h2 h3 => ?_⟩
        rw [putObj_heap_off h3, hB.block b (by omega)]
        exact hs.2 b h1 h2 h3
      refine Code.wpIn_mono (fun e a3 W3 he3 => ?_) (hgo _ hg ⟨_, hl2⟩ hi2)
      -- the round is over
      have fin : ∀ (jump : Option Code) (fp' : Nat → Prop), Moves (fun b => dat b ∨ w.heap.size ≤ b) fp (W'.putObj l (.loop { r with state := .busy })) fp' W3 →
          (Instr.endRound l jump).run P W3 = .ok (.bool jump.isNone) (W3.putObj l (.loop { r with state := if jump.isNone then .ready else .done, pending := jump })) ∧
          (W3.putObj l (.loop { r with state := if jump.isNone then .ready else .done, pending := jump })).heap[l]? = some (.loop { r with state := if jump.isNone then .ready else .done, pending := jump }) ∧
          side (W3.putObj l (.loop { r with state := if jump.isNone then .ready else .done, pending := jump })) ∧
          Sits w.heap.size fp' W3 (W3.putObj l (.loop { r with state := if jump.isNone then .ready else .done, pending := jump })) ∧
          Moves (fun b => dat b ∨ W1.heap.size ≤ b) fp W fp' (W3.putObj l (.loop { r with state := if jump.isNone then .ready else .done, pending := jump })) := by
        intro jump fp' hM
        have hl3 : W3.heap[l]? = some (.loop { r with state := .busy }) := (hM.block l (Nat.lt_of_lt_of_le hlt' hg.size) (.inr hwl) hnl).trans hl2
        have hlt3 := (Array.getElem?_eq_some_iff.1 hl3).1
        have hnl' : ¬ fp' l := fun h => by
          rcases (hM.own l h).2 with h1 | h1
          · exact hnl h1
          · have := Nat.lt_of_lt_of_le hlt' hg.size; omega
        have hg3 := grownBy_putObj' W3 l (.loop { r with state := if jump.isNone then .ready else .done, pending := jump })
        have hend := run_endRound (P := P) jump hl3
        refine ⟨hend, putObj_heap_at hlt3, ?_, Sits.of_grown hg3 hwl hnl', ?_⟩
        · rw [hside] at hside2 ⊢
          refine ⟨Nat.le_trans hside2.1 (Nat.le_trans hM.size hg3.size), fun b h1 h2 h3 => ?_⟩
          rw [putObj_heap_off h3, hM.block b (Nat.lt_of_lt_of_le h2 hside2.1) (.inr h1) (fun h => by have := (hfp b h).1; omega)]
          exact hside2.2 b h1 h2 h3
        · refine ((hM1.trans hM2).trans (hM.mono (fun b hb => hb.imp id (fun h => Nat.le_trans hW1.size h)))).trans (Moves.of_grown hg3 (fun b hb => (hM.own b hb).1) (fun b e hk => ?_))
          cases e
          rcases hk with h1 | h1
          · have := hd _ h1; omega
          · omega
      cases e with
      | normal =>
        obtain ⟨fp', hM, hi3⟩ := he3
        obtain ⟨hr, hl4, hs4, hS4, hM4⟩ := fin none fp' hM
        refine ⟨_, _, hr, fp', hM4, .inl ⟨rfl, hI _ _ _ _ hi3 hS4, ?_, hs4⟩⟩
        rw [hl4]
        have : ({ r with state := if (none : Option Code).isNone = true then LoopState.ready else LoopState.done, pending := none } : Loop) = r := by
          obtain ⟨s, p, f, t, q, a, b, d⟩ := r
          dsimp only at hst hpe
          subst hst; subst hpe; rfl
        rw [this]
      | ret =>
        obtain ⟨fp', hM, hi3⟩ := he3
        obtain ⟨hr, hl4, hs4, hS4, hM4⟩ := fin (some .ret) fp' hM
        exact ⟨_, _, hr, fp', hM4, .inr ⟨rfl, .ret, hIx _ _ _ _ _ hi3 hS4, hl4, hs4⟩⟩
      | exit id =>
        obtain ⟨fp', hM, hi3⟩ := he3
        obtain ⟨hr, hl4, hs4, hS4, hM4⟩ := fin (some (.exit id)) fp' hM
        exact ⟨_, _, hr, fp', hM4, .inr ⟨rfl, .exit id, hIx _ _ _ _ _ hi3 hS4, hl4, hs4⟩⟩
      | goto t =>
        obtain ⟨fp', hM, hi3⟩ := he3
        obtain ⟨hr, hl4, hs4, hS4, hM4⟩ := fin (some (.goto t)) fp' hM
        exact ⟨_, _, hr, fp', hM4, .inr ⟨rfl, .goto t, hIx _ _ _ _ _ hi3 hS4, hl4, hs4⟩⟩
      | panic ch => exact he3.elim
      | outgrown => exact he3.elim
    | ret => exact he
    | exit id => exact he
    | goto t => exact he
    | panic ch => exact he
    | outgrown => exact he
  · rintro e W' ⟨hv, fp, hfp, h⟩
    refine ⟨hv, fp, fun b hb => ⟨by have := (hfp b hb).1; omega, (hfp b hb).2⟩, ?_⟩
    rcases h with ⟨hi, hl, hs⟩ | ⟨pre, hp, c, hi, hl, hs⟩
    · rw [hside] at hs; exact ⟨hs.2, .inl ⟨hi, hl⟩⟩
    · rw [hside] at hs; exact ⟨hs.2, .inr ⟨pre, c, hp, hi, hl⟩⟩

/-- THE LAW, in no round. -/
theorem wpIn_range {g : Operand} {ps : Array Tmp} {assign body : Code} {Q : Exit → Act → World → Prop} {a : Act} {w : World}
    (hro : F.round = none) (h1 : 1 ≤ n) {gf : Nat} {lb : Array Value} (hg : a.eval g = .func (.func gf) #[] lb) (hFg : F.fn gf) (eg : ∀ args w, (callFunc gf args).run P w = .ok (.enter gf args) w)
    {encs : α → Array Value} {dat : Nat → Prop} {L : List α} (hseq : Seq F (n - 1) P gf lb encs dat L w) (hd : ∀ b, dat b → b < w.heap.size) (hps : ∀ x, (encs x).size = ps.size)
    (I : List α → (Nat → Prop) → World → Prop) (Ix : Code → List α → (Nat → Prop) → World → Prop) (hI : Abide w.heap.size I) (hIx : ∀ c, Abide w.heap.size (Ix c)) (h0 : I [] (fun _ => False) w)
    (hround : ∀ (l : Nat) (pre : List α) (x : α) (post : List α) (fp : Nat → Prop) (W : World), L = pre ++ x :: post → w.heap.size ≤ l → l < W.heap.size → I pre fp W → (∀ b, fp b → l < b ∧ b < W.heap.size) →
      assign.wpIn (F.inRound l) (n - 1 - 1) P (Exit.then (fun a' W' => Below W.heap.size W W' ∧ ∀ W2, W'.grownBy W2 (some l) → (∃ r, W2.heap[l]? = some (.loop r)) → I pre fp W2 →
        body.wpIn (F.inRound l) (n - 1 - 1) P (postR (fun b => dat b ∨ w.heap.size ≤ b) I Ix (pre ++ [x]) fp W2) a' W2) (fun _ _ _ => False))
        { tmps := (ps.zip (encs x)).foldl (fun t (p, v) => t.setIfInBounds p v) a.tmps, defers := [] } W)
    (hdone : ∀ (D : Nat) (fp : Nat → Prop) (W : World), w.heap.size ≤ D → D < W.heap.size → (∀ b, fp b → D < b ∧ b < W.heap.size) → I L fp W → W.heap[D]? = some (.deferred (some [])) → Q .normal { a with defers := { target := .collected D, args := #[] } :: a.defers } W)
    (hstop : ∀ (D : Nat) (c : Code) (pre : List α) (fp : Nat → Prop) (W : World), w.heap.size ≤ D → D < W.heap.size → (∀ b, fp b → D < b ∧ b < W.heap.size) → pre <+: L → Ix c pre fp W → W.heap[D]? = some (.deferred (some [])) → c.wpIn F n P Q { a with defers := { target := .collected D, args := #[] } :: a.defers } W) :
    (Code.rangeFunc g ps assign body).wpIn F n P Q a w := by
  refine wpIn_rangeFunc ?_
  intro fn hfn
  rw [hro]
  obtain ⟨r, hr⟩ : ∃ r : Loop, r = { state := .ready, pending := none, fn, tmps := a.tmps, params := ps, assign, body, defers := w.heap.size } := ⟨_, rfl⟩
  obtain ⟨W1, hW1⟩ : ∃ W1, (w.alloc (.deferred (some []))).alloc (.loop r) = W1 := ⟨_, rfl⟩
  have hL1 : W1.heap[w.heap.size + 1]? = some (.loop r) := by
    rw [← hW1]; have := World.alloc_heap_new (w.alloc (.deferred (some []))) (.loop r); rwa [World.size_alloc] at this
  have hK1 : W1.heap[w.heap.size]? = some (.deferred (some [])) := by
    rw [← hW1]; exact (Below.heap_alloc _ _ _ (by simp)).trans (World.alloc_heap_new w _)
  have hb1 : Below w.heap.size w W1 := by rw [← hW1]; exact below2 w _ _
  have hlt1 : w.heap.size + 1 < W1.heap.size := (Array.getElem?_eq_some_iff.1 hL1).1
  refine ⟨w.heap.size + 1, [{ target := .collected w.heap.size, args := #[] }], W1, { target := .fn (.func gf) lb, args := #[.func (.yield (w.heap.size + 1)) #[] #[]] }, W1, gf,
    #[.func (.yield (w.heap.size + 1)) #[] #[]] ++ lb, W1, ?_, ?_, ?_, ?_, fun _ => h1, ?_⟩
  · rw [← hW1, hr]; exact run_enterLoop_outer _ _ _ _ _
  · simp only [resolve, hg]
    simp [go_sem]
  · intro f' hf'; simp [Target.leads] at hf'; subst hf'; exact hFg
  · simp [invoke, go_sem, eg]
  · refine (range_core hseq hd (by omega) hb1 hL1 (by rw [hr]; exact hfn) (by rw [hr]) (by rw [hr]) (by rw [hr]) (by rw [hr]) (by rw [hr]) hps I Ix hI hIx h0
      (fun pre x post fp W hL hsz hi hfp => by rw [hr]; exact hround _ pre x post fp W hL (by omega) (by omega) hi hfp)).mono ?_
    rintro e W2 ⟨⟨v, rfl⟩, fp, hfp, hs, h⟩
    have hfpl : ∀ b, fp b → w.heap.size < b ∧ b < W2.heap.size := fun b hb => ⟨by have := (hfp b hb).1; omega, (hfp b hb).2⟩
    have hnl : ¬ fp (w.heap.size + 1) := fun h => by have := (hfp _ h).1; omega
    have hD : W2.heap[w.heap.size]? = some (.deferred (some [])) := (hs w.heap.size (Nat.le_refl _) (by omega) (by omega)).trans hK1
    have hDlt := (Array.getElem?_eq_some_iff.1 hD).1
    rcases h with ⟨hi, hl⟩ | ⟨pre, c, hp, hi, hl⟩
    · have hg := grownBy_putObj' W2 (w.heap.size + 1) (.loop { r with state := .exhausted })
      have hrun : (Instr.endLoop (w.heap.size + 1)).run P W2 = .ok none (W2.putObj (w.heap.size + 1) (.loop { r with state := .exhausted })) := by
        have h := run_endLoop (P := P) hl (by rw [hr]; simp)
        rw [h]
        rw [hr]
      exact ⟨none, _, hrun, hdone _ fp _ (Nat.le_refl _) (Nat.lt_of_lt_of_le hDlt hg.size) (fun b hb => ⟨(hfpl b hb).1, Nat.lt_of_lt_of_le (hfpl b hb).2 hg.size⟩) (hI _ _ _ _ hi (Sits.of_grown hg (by omega) hnl)) ((putObj_heap_off (by omega)).trans hD)⟩
    · have hg := grownBy_putObj' W2 (w.heap.size + 1) (.loop { r with state := .exhausted, pending := some c })
      exact ⟨some c, _, run_endLoop (P := P) hl (by simp), hstop _ c pre fp _ (Nat.le_refl _) (Nat.lt_of_lt_of_le hDlt hg.size) (fun b hb => ⟨(hfpl b hb).1, Nat.lt_of_lt_of_le (hfpl b hb).2 hg.size⟩) hp (hIx _ _ _ _ _ hi (Sits.of_grown hg (by omega) hnl)) ((putObj_heap_off (by omega)).trans hD)⟩

/-- THE LAW, in a round of loop l₀. -/
theorem wpIn_rangeN {g : Operand} {ps : Array Tmp} {assign body : Code} {Q : Exit → Act → World → Prop} {a : Act} {w : World}
    {l₀ : Nat} {r₀ : Loop} (hro : F.round = some l₀) (hl₀ : w.heap[l₀]? = some (.loop r₀)) (h1 : 1 ≤ n) {gf : Nat} {lb : Array Value} (hg : a.eval g = .func (.func gf) #[] lb) (hFg : F.fn gf) (eg : ∀ args w, (callFunc gf args).run P w = .ok (.enter gf args) w)
    {encs : α → Array Value} {dat : Nat → Prop} {L : List α} (hseq : Seq F (n - 1) P gf lb encs dat L w) (hd : ∀ b, dat b → b < w.heap.size) (hps : ∀ x, (encs x).size = ps.size)
    (I : List α → (Nat → Prop) → World → Prop) (Ix : Code → List α → (Nat → Prop) → World → Prop) (hI : Abide w.heap.size I) (hIx : ∀ c, Abide w.heap.size (Ix c)) (h0 : I [] (fun _ => False) w)
    (hround : ∀ (l : Nat) (pre : List α) (x : α) (post : List α) (fp : Nat → Prop) (W : World), L = pre ++ x :: post → w.heap.size ≤ l → l < W.heap.size → I pre fp W → (∀ b, fp b → l < b ∧ b < W.heap.size) →
      assign.wpIn (F.inRound l) (n - 1 - 1) P (Exit.then (fun a' W' => Below W.heap.size W W' ∧ ∀ W2, W'.grownBy W2 (some l) → (∃ r, W2.heap[l]? = some (.loop r)) → I pre fp W2 →
        body.wpIn (F.inRound l) (n - 1 - 1) P (postR (fun b => dat b ∨ w.heap.size ≤ b) I Ix (pre ++ [x]) fp W2) a' W2) (fun _ _ _ => False))
        { tmps := (ps.zip (encs x)).foldl (fun t (p, v) => t.setIfInBounds p v) a.tmps, defers := [] } W)
    (hdone : ∀ (fp : Nat → Prop) (W : World), w.heap.size ≤ W.heap.size → (∀ b, fp b → w.heap.size ≤ b ∧ b < W.heap.size) → I L fp W → Q .normal a W)
    (hstop : ∀ (c : Code) (pre : List α) (fp : Nat → Prop) (W : World), w.heap.size ≤ W.heap.size → (∀ b, fp b → w.heap.size ≤ b ∧ b < W.heap.size) → pre <+: L → Ix c pre fp W → c.wpIn F n P Q a W) :
    (Code.rangeFunc g ps assign body).wpIn F n P Q a w := by
  refine wpIn_rangeFunc ?_
  intro fn hfn
  rw [hro]
  obtain ⟨r, hr⟩ : ∃ r : Loop, r = { state := .ready, pending := none, fn, tmps := a.tmps, params := ps, assign, body, defers := r₀.defers } := ⟨_, rfl⟩
  obtain ⟨W1, hW1⟩ : ∃ W1, w.alloc (.loop r) = W1 := ⟨_, rfl⟩
  have hL1 : W1.heap[w.heap.size]? = some (.loop r) := by rw [← hW1]; exact World.alloc_heap_new w _
  have hb1 : Below w.heap.size w W1 := by rw [← hW1]; exact below1 w _
  have hlt1 : w.heap.size < W1.heap.size := (Array.getElem?_eq_some_iff.1 hL1).1
  refine ⟨w.heap.size, [], W1, { target := .fn (.func gf) lb, args := #[.func (.yield w.heap.size) #[] #[]] }, W1, gf,
    #[.func (.yield w.heap.size) #[] #[]] ++ lb, W1, ?_, ?_, ?_, ?_, fun _ => h1, ?_⟩
  · rw [← hW1, hr]; exact run_enterLoop_inner hl₀ _ _ _ _ _
  · simp only [resolve, hg]
    simp [go_sem]
  · intro f' hf'; simp [Target.leads] at hf'; subst hf'; exact hFg
  · simp [invoke, go_sem, eg]
  · refine (range_core hseq hd (Nat.le_refl _) hb1 hL1 (by rw [hr]; exact hfn) (by rw [hr]) (by rw [hr]) (by rw [hr]) (by rw [hr]) (by rw [hr]) hps I Ix hI hIx h0
      (fun pre x post fp W hL hsz hi hfp => by rw [hr]; exact hround _ pre x post fp W hL (Nat.le_refl _) (by omega) hi hfp)).mono ?_
    rintro e W2 ⟨⟨v, rfl⟩, fp, hfp, hs, h⟩
    have hfpl : ∀ b, fp b → w.heap.size ≤ b ∧ b < W2.heap.size := fun b hb => ⟨by have := (hfp b hb).1; omega, (hfp b hb).2⟩
    have hnl : ¬ fp w.heap.size := fun h => by have := (hfp _ h).1; omega
    rcases h with ⟨hi, hl⟩ | ⟨pre, c, hp, hi, hl⟩
    · have hlt := (Array.getElem?_eq_some_iff.1 hl).1
      have hg := grownBy_putObj' W2 w.heap.size (.loop { r with state := .exhausted })
      have hrun : (Instr.endLoop w.heap.size).run P W2 = .ok none (W2.putObj w.heap.size (.loop { r with state := .exhausted })) := by
        have h := run_endLoop (P := P) hl (by rw [hr]; simp)
        rw [h]
        rw [hr]
      exact ⟨none, _, hrun, hdone fp _ (Nat.le_trans (Nat.le_of_lt hlt) hg.size) (fun b hb => ⟨(hfpl b hb).1, Nat.lt_of_lt_of_le (hfpl b hb).2 hg.size⟩) (hI _ _ _ _ hi (Sits.of_grown hg (Nat.le_refl _) hnl))⟩
    · have hlt := (Array.getElem?_eq_some_iff.1 hl).1
      have hg := grownBy_putObj' W2 w.heap.size (.loop { r with state := .exhausted, pending := some c })
      exact ⟨some c, _, run_endLoop (P := P) hl (by simp), hstop c pre fp _ (Nat.le_trans (Nat.le_of_lt hlt) hg.size) (fun b hb => ⟨(hfpl b hb).1, Nat.lt_of_lt_of_le (hfpl b hb).2 hg.size⟩) hp (hIx _ _ _ _ _ hi (Sits.of_grown hg (Nat.le_refl _) hnl))⟩
end
end Go.Proofs.Ythhgcfklaakndaa
