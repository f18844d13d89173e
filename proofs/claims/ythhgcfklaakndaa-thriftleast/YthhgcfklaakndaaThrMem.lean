/-
  The package thrift's memory: New, Row, Heard; the library's IndexFunc, DeleteFunc and Clone at rows of bytes.
-/
import Derived.Test.YthhgcfklaakndaaThrSeq
import Derived.Test.YthhgcfklaakndaaApart
import Derived.Test.YthhgcfklaakndaaOrd
import Derived.Lib.SliceRun
import Derived.Deep.DeepCutAuto
namespace Go.Proofs.Ythhgcfklaakndaa
open Go.RowKit Go.WideShapes
namespace Thr
open Mem R8
structure Moved (w : World) (qb : Nat) (v : Value) (w' : World) (v' : Value) : Prop where
  os : w'.os = w.os
  tape : w'.tape = w.tape
  output : w'.output = w.output
  size : w.heap.size ≤ w'.heap.size
  block : ∀ k, k < w.heap.size → k ≠ qb → some k ≠ v.ownBlock → w'.heap[k]? = w.heap[k]?
  own : v'.ownBlock = v.ownBlock ∨ ∀ b, v'.ownBlock = some b → w.heap.size ≤ b
theorem Moved.of_below {w w' : World} (qb : Nat) (v : Value) (h : Below w.heap.size w w') : Moved w qb v w' v := ⟨h.os, h.tape, h.output, h.size, fun k hk _ _ => h.block k hk, .inl rfl⟩
theorem Moved.of_grew {w w' : World} {v v' : Value} (qb : Nat) (h : Grew w v w' v') : Moved w qb v w' v' := ⟨h.1.os, h.1.tape, h.1.output, h.1.size, fun k hk _ h2 => h.1.block k hk h2, h.2⟩
theorem Moved.trans {w w1 w2 : World} {qb : Nat} {v v1 v2 : Value} (h : Moved w qb v w1 v1) (g : Moved w1 qb v1 w2 v2) : Moved w qb v w2 v2 := by
  refine ⟨g.os.trans h.os, g.tape.trans h.tape, g.output.trans h.output, Nat.le_trans h.size g.size, fun k hk h1 h2 => ?_, ?_⟩
  · refine (g.block k (Nat.lt_of_lt_of_le hk h.size) h1 ?_).trans (h.block k hk h1 h2)
    rcases h.own with e | e
    · rw [e]; exact h2
    · intro e2; have := e k e2.symm; omega
  · rcases g.own with e | e
    · rw [e]; exact h.own
    · exact .inr fun b hb => Nat.le_trans h.size (e b hb)
theorem Moved.set {w w1 : World} {qb : Nat} {v v1 : Value} (h : Moved w qb v w1 v1) (j : Nat) (u : Value) : Moved w qb v (w1.setCell ⟨qb, j, none⟩ u) v1 :=
  ⟨h.os, h.tape, h.output, by simpa using h.size, fun k hk h1 h2 => (Below.heap_setCell _ _ _ _ h1).trans (h.block k hk h1 h2), h.own⟩
theorem Moved.fresh {w w1 : World} {qb : Nat} {v v1 : Value} (h : Moved w qb v w1 v1) (u : Value) (hu : ∀ b, u.ownBlock = some b → w.heap.size ≤ b) : Moved w qb v w1 u := ⟨h.os, h.tape, h.output, h.size, h.block, .inr hu⟩
theorem Moved.below {B : Nat} {a w w' : World} {qb : Nat} {v v' : Value} (h : Moved w qb v w' v') (hb : Below B a w) (hB : B ≤ w.heap.size) (hq : B ≤ qb) (hv : ∀ b, v.ownBlock = some b → B ≤ b) : Below B a w' :=
  hb.trans ⟨h.os, h.tape, h.output, Nat.le_trans (Nat.le_refl _) h.size, fun k hk => h.block k (Nat.lt_of_lt_of_le hk hB) (by omega) (fun e => by have := hv k e.symm; omega)⟩
theorem rd_kept {w w' : World} {u : Value} {l : List Nat} (h : RdB w u l) (hk : ∀ b, u.ownBlock = some b → b < w.heap.size → w'.heap[b]? = w.heap[b]?) : RdB w' u l := by
  obtain ⟨p, cap, rfl, hb, hn, hc, h0⟩ := h
  refine ⟨p, cap, rfl, hb, hn, fun j hj => ?_, h0⟩
  obtain ⟨b, off, rfl, hcell⟩ := hc j hj
  refine ⟨b, off, rfl, ?_⟩
  have := hk b rfl (World.block_lt_of_cell? w _ hcell)
  rw [← hcell]
  simp [World.cell?, this]
theorem Moved.rd {w w' : World} {qb : Nat} {v v' u : Value} {l : List Nat} (h : Moved w qb v w' v') (hr : RdB w u l) (h1 : some qb ≠ u.ownBlock) (h2 : Apart u v) : RdB w' u l :=
  rd_kept hr fun b hb hlt => h.block b hlt (fun e => h1 (by rw [hb, e])) (fun e => by rcases h2 with g | g; (rw [g] at hb; cases hb); exact g (hb.trans e))
/-- A memory's block, and its row. -/
structure Mm (w : World) (base mb me : Nat) (v : Value) (l : List Nat) : Prop where
  blk : Blk w mb (.cells #[.int .u8 (me : Int), v] 41)
  row : w.ownsRow base 5 1 v l.length (u8s l)
  apart : some mb ≠ v.ownBlock
  base : base ≤ mb
  small : ∀ x ∈ l, x < 7
theorem own_base {w : World} {base : Nat} {e : TypeId} {size : Nat} {v : Value} {n : Nat} {xs : List Value} (h : w.ownsRow base e size v n xs) : ∀ b, v.ownBlock = some b → base ≤ b := by
  intro b hb
  rcases h.2 with ⟨rfl, _⟩ | ⟨g, cap, cur, rfl, hg, _⟩
  · cases hb
  · cases hb; exact hg
theorem ownsRow_low {w : World} {base base' : Nat} {e : TypeId} {size : Nat} {v : Value} {n : Nat} {xs : List Value} (h : w.ownsRow base e size v n xs) (hb : base' ≤ base) : w.ownsRow base' e size v n xs := by
  refine ⟨h.1, ?_⟩
  rcases h.2 with h2 | ⟨g, cap, cur, rfl, hg, h3⟩
  · exact .inl h2
  · exact .inr ⟨g, cap, cur, rfl, Nat.le_trans hb hg, h3⟩
theorem Mm.below {w w' : World} {base mb self : Nat} {v : Value} {l : List Nat} (q : Mm w base mb self v l) (hb : Below w.heap.size w w') : Mm w' base mb self v l := ⟨q.blk.later hb, ownsRow_below q.row hb, q.apart, q.base, q.small⟩
theorem new_any (self : Nat) (hs : self < 7) (w : World) : Calls Try.prog 7 #[.int .u8 self] w fun e w' => e = .returned (.tuple #[.pointer (some ⟨w.heap.size, 0, none⟩), .int .i64 0]) ∧ Mm w' w.heap.size w.heap.size self (.slice none 0 0) [] ∧ Below w.heap.size w w' := by
  have t1 : decide ((7 : Int) ≤ (self : Int)) = false := decide_eq_false (by omega)
  have t2 : decide (7 ≤ self) = false := decide_eq_false (by omega)
  go_enter Try.func7, Try.ntmps7
  go_wp2
  refine bodyPost_ret (v := .tuple #[.pointer (some ⟨w.heap.size, 0, none⟩), .int .i64 0]) (by simp [results, Try.results7, go_sem]) rfl ?_
  exact ⟨rfl, ⟨Blk.new w _, World.ownsRow_nil _ _ _ _, (fun h => by cases h), Nat.le_refl _, by simp⟩, below1 w _⟩
theorem new_bad (self : Nat) (hs : 7 ≤ self) (w : World) : Calls Try.prog 7 #[.int .u8 self] w fun e w' => e = .returned (.tuple #[.pointer none, .int .i64 2]) ∧ w = w' := by
  have t1 : decide ((7 : Int) ≤ (self : Int)) = true := decide_eq_true (by omega)
  have t2 : decide (7 ≤ self) = true := decide_eq_true (by omega)
  go_enter Try.func7, Try.ntmps7
  go_wp2
  refine bodyPost_ret (v := .tuple #[.pointer none, .int .i64 2]) (by simp [results, Try.results7, go_sem]) rfl ?_
  exact ⟨rfl, rfl⟩
theorem infoU : (Try.prog.info? 5).map (fun i => (i.zero, i.size, i.bytes)) = some (some (.int .u8 0), 1, 1) := by kernel_rfl
theorem clone_any (v : Value) (l : List Nat) (hl : l.length ≤ 1000000) (w : World) (hv : RdB w v l) :
    Calls Try.prog 25 #[v] w fun e w' => ∃ v', e = .returned v' ∧ w'.ownsRow w.heap.size 5 1 v' l.length (u8s l) ∧ Below w.heap.size w w' := by
  have hV := hv.to
  obtain ⟨p, cap, rfl, _, _, _, h0⟩ := hv
  cases p with
  | none =>
    obtain ⟨h1, h2⟩ := h0 rfl
    have hln : l = [] := List.eq_nil_of_length_eq_zero h2
    subst hln h1
    have he := fun w => Lib.run_eql_slice_nil w 22 5 none 0 0 0 0 Try.underlying22
    clear h0 h2 hV
    simp only [List.length_nil]
    go_enter Try.func25, Try.ntmps25
    go_wp2
    go_ret
    exact ⟨_, rfl, ⟨rfl, .inl ⟨rfl, rfl⟩⟩, Below.refl _ _⟩
  | some a =>
    have he := fun w => Lib.run_eql_slice_nil w 22 5 (some a) l.length cap 0 0 Try.underlying22
    have HV := Lib.hid (hV.below (below1 w (.cells #[] 5)) (Nat.le_refl _))
    have ho : (w.alloc (.cells #[] 5)).ownsRow w.heap.size 5 1 (.slice (some ⟨w.heap.size, 0, none⟩) 0 0) 0 [] := ⟨rfl, .inr ⟨_, 0, #[], rfl, Nat.le_refl _, Blk.new _ _, Nat.le_refl _, by decide, rfl, rfl⟩⟩
    clear h0 hV
    go_enter Try.func25, Try.ntmps25
    go_wp2_with (at_builtin; go_loud (refine appNg rfl _ _ 22 rfl w.heap.size 5 (.int .u8 0) 1 1 infoU Try.underlying22 rfl (by decide) _ _ 0 [] ho rfl _ l.length (u8s l) HV.out (by rw [u8s_length, Nat.mul_one]) (u8s_one l) rfl (by omega) (by omega) (by simp) ?_; intro v' w1 ho1 gr1))
    go_ret
    rw [Nat.zero_add, List.nil_append] at ho1
    exact ⟨_, rfl, ho1, gr1.below (below1 w _) (by simp) (fun c hc => by cases hc; exact Nat.le_refl _)⟩
theorem row_any (base mb self : Nat) (v : Value) (l : List Nat) (hl : l.length ≤ 100000) (w : World) (q : Mm w base mb self v l) :
    Calls Try.prog 18 #[.pointer (some ⟨mb, 0, none⟩)] w fun e w' => ∃ v', e = .returned v' ∧ w'.ownsRow w.heap.size 5 1 v' l.length (u8s l) ∧ Below w.heap.size w w' := by
  have c0 := q.blk.cell 1
  have HC := Lib.hid (clone_any v l (by omega) w (RdB.owns q.row (fun x hx => by have := q.small x hx; omega)))
  obtain ⟨p, cap, rfl, _⟩ := RdV.owns q.row
  clear q
  go_enter Try.func18, Try.ntmps18
  go_wp2_with fail
  refine HC.out.mono ?_
  rintro e w1 ⟨v', rfl, ho, b1⟩
  obtain ⟨p', c', rfl, _⟩ := RdV.owns ho
  go_wp2
  go_ret
  exact ⟨_, rfl, ho, b1⟩
theorem row_nil (w : World) : Calls Try.prog 18 #[.pointer none] w fun e w' => e = .returned (.slice none 0 0) ∧ w = w' := by
  go_enter Try.func18, Try.ntmps18
  go_wp2
  go_ret
  exact ⟨rfl, rfl⟩
theorem beq_nat (a b : Nat) : ((a : Int) == (b : Int)) = decide (a = b) := by
  by_cases h : a = b
  · rw [decide_eq_true h, beq_iff_eq]; omega
  · rw [decide_eq_false h, beq_eq_false_iff_ne]; omega
theorem is_any (x node nb : Nat) (w : World) (hc : w.cell? ⟨nb, 0, none⟩ = some (.int .u8 node)) :
    Calls Try.prog 24 #[.int .u8 x, .pointer (some ⟨nb, 0, none⟩)] w fun e w' => e = .returned (.bool (decide (x = node))) ∧ w = w' := by
  have h2 := Lib.hid (beq_nat x node)
  go_enter Try.func24, Try.ntmps24
  go_wp2
  go_ret
  exact ⟨by rw [← h2.out]; rfl, rfl⟩
/-- Where a predicate holds first; below 0: nowhere. -/
def idx (p : Nat → Bool) (l : List Nat) : Int := if l.findIdx p < l.length then (l.findIdx p : Int) else -1
theorem idx_hit (p : Nat → Bool) (l : List Nat) (k : Nat) (h : k < l.length) (hp : p l[k] = true) (hn : ∀ j (hj : j < k), p (l[j]'(by omega)) = false) : idx p l = k := by
  have e : l.findIdx p = k := (List.findIdx_eq h).2 ⟨hp, hn⟩
  unfold idx
  rw [e, if_pos h]
theorem idx_none (p : Nat → Bool) (l : List Nat) (hn : ∀ j (hj : j < l.length), p l[j] = false) : idx p l = -1 := by
  have e : l.findIdx p = l.length := List.findIdx_eq_length.2 (fun x hx => by obtain ⟨j, hj, rfl⟩ := List.getElem_of_mem hx; exact hn j hj)
  unfold idx
  rw [e, if_neg (by omega)]
theorem idx_cases (p : Nat → Bool) (l : List Nat) : (idx p l = -1 ∧ l.filter (fun x => !p x) = l) ∨ ∃ i, ∃ h : i < l.length, idx p l = i ∧ p l[i] = true ∧ ∀ j (_ : j < i) (h : j < l.length), p l[j] = false := by
  by_cases h : l.findIdx p < l.length
  · refine .inr ⟨l.findIdx p, h, by unfold idx; rw [if_pos h], List.findIdx_getElem, fun j hj h2 => ?_⟩
    have := List.not_of_lt_findIdx hj
    simpa using this
  · refine .inl ⟨by unfold idx; rw [if_neg h], List.filter_eq_self.2 (fun x hx => ?_)⟩
    have := List.findIdx_eq_length.1 (Nat.le_antisymm List.findIdx_le_length (Nat.le_of_not_lt h)) x hx
    simp [this]
def kept (p : Nat → Bool) (l : List Nat) (j : Nat) : List Nat := (l.take j).filter (fun x => !p x)
theorem kept_step (p : Nat → Bool) (l : List Nat) (j : Nat) (h : j < l.length) : kept p l (j + 1) = kept p l j ++ if p l[j] = true then [] else [l[j]] := by
  unfold kept
  rw [List.take_succ_eq_append_getElem h, List.filter_append]
  cases hp : p l[j] <;> simp [hp]
theorem kept_end (p : Nat → Bool) (l : List Nat) : kept p l l.length = l.filter (fun x => !p x) := by unfold kept; rw [List.take_length]
theorem kept_start (p : Nat → Bool) (l : List Nat) (i : Nat) (h : i < l.length) (hp : p l[i] = true) (hn : ∀ j (_ : j < i) (h : j < l.length), p l[j] = false) : kept p l (i + 1) = l.take i := by
  rw [kept_step p l i h, if_pos hp, List.append_nil]
  unfold kept
  rw [List.filter_eq_self]
  intro x hx
  obtain ⟨j, hj, rfl⟩ := List.getElem_of_mem hx
  rw [List.length_take] at hj
  rw [List.getElem_take, hn j (by omega) (by omega)]; rfl
set_option maxRecDepth 100000 in
set_option maxHeartbeats 1000000 in
theorem idx_any (node nb : Nat) (v : Value) (l : List Nat) (w : World) (hv : RdB w v l) (hc : w.cell? ⟨nb, 0, none⟩ = some (.int .u8 node)) :
    Calls Try.prog 32 #[v, (.func (.func 24) #[] #[.pointer (some ⟨nb, 0, none⟩)])] w fun e w' => e = .returned (.int .i64 (idx (fun x => decide (x = node)) l)) ∧ w = w' := by
  have HV := Lib.hid hv
  have HC := Lib.hid hc
  obtain ⟨p, cap, rfl, hb, hlen, _⟩ := hv
  clear hc
  obtain ⟨P, hP⟩ : ∃ P : Nat → Bool, (fun x => decide (x = node)) = P := ⟨_, rfl⟩
  have HPR := Lib.hid (fun x => congrFun hP x)
  rw [hP]
  have HI := Lib.hid (idx_hit P l)
  have HN := Lib.hid (idx_none P l)
  clear hP
  go_enter Try.func32, Try.ntmps32
  go_wp2_with fail
  go_loop [8] (fun i => ∃ k : Nat, k ≤ l.length ∧ i = .int .i64 k ∧ (∀ j (_ : j < k) (h : j < l.length), P l[j] = false)) (fun i => l.length - (intOf i).toNat)
  case atStart => exact ⟨0, Nat.zero_le _, rfl, by simp⟩
  case round =>
    obtain ⟨k, hk, rfl, hpre⟩ := hrel
    have HPRE := Lib.hid hpre
    clear hpre
    by_cases hlt : k < l.length
    · have hd : decide ((k : Int) < (l.length : Int)) = true := decide_eq_true (by omega)
      have hd' : decide (k < l.length) = true := decide_eq_true hlt
      obtain ⟨p', cap', e0, _, _, hcell, _⟩ := HV.out
      cases e0
      obtain ⟨lb, off, rfl, g⟩ := hcell k hlt
      rw [getD_at l k hlt] at g
      have HXE := Lib.hid (HI.out k hlt)
      have HKX : ∀ x, l[k] = x → RowKit.Hid (P l[k] = P x) := fun x h => Lib.hid (by rw [h])
      have hx2 := hb _ (List.getElem_mem hlt)
      obtain ⟨x, hx⟩ : ∃ x, l[k] = x := ⟨_, rfl⟩
      have HKE := HKX x hx
      have HPX := Lib.hid (HPR.out x)
      rw [hx] at g hx2
      clear HKX hx hcell
      go_wp2_with fail
      refine (is_any x node nb _ HC.out).mono ?_
      rintro e w1 ⟨rfl, rfl⟩
      have hpx := HPX.out
      rw [hpx]
      cases hpx2 : P x
      · have HNX := Lib.hid hpx2
        clear hpx2 hpx
        go_wp2_with fail
        go_round
        case rel => exact ⟨k + 1, by omega, by go_num, fun j hj h => by
            rcases Nat.lt_succ_iff_lt_or_eq.1 hj with h2 | h2
            · exact HPRE.out j h2 h
            · subst h2; rw [HKE.out]; exact HNX.out⟩
        case measure => simp [intOf]; omega
      · have HYX := Lib.hid (HXE.out (by rw [HKE.out]; exact hpx2) (fun j hj => HPRE.out j hj _))
        clear hpx2 hpx
        go_wp2_with fail
        go_ret
        exact ⟨by rw [HYX.out]; rfl, rfl⟩
    · have hd : decide ((k : Int) < (l.length : Int)) = false := decide_eq_false (by omega)
      have hd' : decide (k < l.length) = false := decide_eq_false hlt
      have HZ := Lib.hid (HN.out (fun j hj => HPRE.out j (by omega) hj))
      go_wp2_with fail
      go_ret
      exact ⟨by rw [HZ.out]; rfl, rfl⟩
theorem gtrans {w w1 w2 : World} {r : Option Nat} (h : w.grownBy w1 r) (g : w1.grownBy w2 r) : w.grownBy w2 r :=
  ⟨g.os.trans h.os, g.tape.trans h.tape, g.output.trans h.output, Nat.le_trans h.size g.size, fun k hk hne => (g.block k (Nat.lt_of_lt_of_le hk h.size) hne).trans (h.block k hk hne)⟩
theorem gset (w : World) (b j : Nat) (v : Value) : w.grownBy (w.setCell ⟨b, j, none⟩ v) (some b) := ⟨rfl, rfl, rfl, by simp, fun k _ hne => Below.heap_setCell _ _ _ _ (fun e => hne (by rw [e]))⟩
theorem sets_blk {g t : Nat} : ∀ (vs : List Value) (o : Nat) (w : World) (cur : Array Value), Blk w g (.cells cur t) → ∃ cur2, Blk (w.setCells g o vs) g (.cells cur2 t) ∧ cur2.size = cur.size ∧ ∀ k < o, cur2[k]? = cur[k]?
  | [], _, _, cur, h => ⟨cur, h, rfl, fun _ _ => rfl⟩
  | v :: vs, o, w, cur, h => by
    obtain ⟨cur2, h1, h2, h3⟩ := sets_blk vs (o + 1) _ _ (h.set o v)
    refine ⟨cur2, h1, by rw [h2]; simp, fun k hk => ?_⟩
    rw [h3 k (by omega), Array.getElem?_setIfInBounds_ne (by omega)]
theorem sets_grown (g : Nat) : ∀ (vs : List Value) (o : Nat) (w : World), w.grownBy (w.setCells g o vs) (some g)
  | [], _, _ => ⟨rfl, rfl, rfl, Nat.le_refl _, fun _ _ _ => rfl⟩
  | v :: vs, o, w => gtrans (gset w g o v) (sets_grown g vs (o + 1) _)
theorem take_u8s (cur : Array Value) (K : List Nat) (hs : K.length ≤ cur.size) (h : ∀ t (ht : t < K.length), cur[t]? = some (.int .u8 (K[t] : Nat))) : cur.toList.take K.length = u8s K := by
  refine List.ext_getElem? (fun j => ?_)
  by_cases hj : j < K.length
  · rw [List.getElem?_take_of_lt hj, Array.getElem?_toList, h j hj]
    simp [u8s, hj]
  · rw [List.getElem?_eq_none (by simp; omega), List.getElem?_eq_none (by rw [u8s_length]; omega)]
theorem u8s_at (cur : Array Value) (l : List Nat) (h : cur.toList.take l.length = u8s l) (t : Nat) (ht : t < l.length) : cur[t]? = some (.int .u8 (l[t] : Nat)) := by
  have : (u8s l)[t]? = some (.int .u8 (l[t] : Nat)) := by simp [u8s, ht]
  rw [← this, ← h, List.getElem?_take_of_lt ht, Array.getElem?_toList]
theorem zeroU (w : World) : (zeroValue 5).run Try.prog w = .ok (.int .u8 0) w := by kernel_rfl
def zs (n : Nat) : List Value := (Builtin.zeroCells (Value.int .u8 0).cells n).toList
theorem zs_len (n : Nat) : (zs n).length = n := by unfold zs Builtin.zeroCells; simp [Value.cells]
theorem zs_one (n : Nat) : ∀ u ∈ zs n, u.oneCell' = true := by
  intro u hu
  unfold zs Builtin.zeroCells at hu
  simp only [Array.toList_map, List.mem_map] at hu
  obtain ⟨i, _, rfl⟩ := hu
  have hlt : i % (Value.int IntKind.u8 0).cells.size < 1 := Nat.mod_lt _ (by decide)
  generalize i % (Value.int IntKind.u8 0).cells.size = j at hlt
  have : j = 0 := by omega
  subst this; rfl
theorem run_clear1 (w : World) (g o n c : Nat) (hn : 0 < n) (hc : ∀ j, j < n → (w.cell? ⟨g, o + j, none⟩).isSome = true) (hf : ∀ j, j < n → w.frozen? ⟨g, o + j, none⟩ = false) (ty : TypeId) :
    (Builtin.clear_ #[22] ty #[.slice (some ⟨g, o, none⟩) n c]).run Try.prog w = .ok (.tuple #[]) (w.setCells g o (zs n)) := by
  have hst := run_storeCells_cells (P := Try.prog) g o (zs n) 0 w (by rw [zs_len]; simpa using hc) (by rw [zs_len]; simpa using hf) (zs_one n)
  simp only [Nat.add_zero] at hst
  obtain ⟨m, rfl⟩ : ∃ m, n = m + 1 := ⟨n - 1, by omega⟩
  unfold zs at hst ⊢
  simp [Builtin.clear_, run_underlying Try.underlying22, zeroU, hst]
set_option maxRecDepth 100000 in
set_option maxHeartbeats 4000000 in
theorem del_any (node nb base : Nat) (v : Value) (l : List Nat) (hl : l.length ≤ 100000) (hlb : ∀ x ∈ l, x < 256) (w : World) (ho : w.ownsRow base 5 1 v l.length (u8s l)) (hc : ∀ w', w.grownBy w' v.ownBlock → w'.cell? ⟨nb, 0, none⟩ = some (.int .u8 node)) :
    Calls Try.prog 23 #[v, (.func (.func 24) #[] #[.pointer (some ⟨nb, 0, none⟩)])] w fun e w' => ∃ v', e = .returned v' ∧ w'.ownsRow base 5 1 v' (l.filter (fun x => !(fun x => decide (x = node)) x)).length (u8s (l.filter (fun x => !(fun x => decide (x = node)) x))) ∧ Grew w v w' v' := by
  have HI := Lib.hid (idx_any node nb v l w (RdB.owns ho hlb) (hc w ⟨rfl, rfl, rfl, Nat.le_refl _, fun _ _ _ => rfl⟩))
  have HC := Lib.hid hc
  clear hc
  obtain ⟨P, hP⟩ : ∃ P : Nat → Bool, (fun x => decide (x = node)) = P := ⟨_, rfl⟩
  have HPR := Lib.hid (fun x => congrFun hP x)
  rw [hP] at HI ⊢
  clear hP
  rcases idx_cases P l with ⟨h1, h2⟩ | ⟨i, hi, h1, hpi, hpre⟩
  · rw [h1] at HI
    rw [h2]
    have HO := Lib.hid ho
    obtain ⟨p, cap, rfl, _⟩ := RdV.owns ho
    clear ho h1 h2
    go_enter Try.func23, Try.ntmps23
    go_wp2_with fail
    refine HI.out.mono ?_
    rintro e w1 ⟨rfl, rfl⟩
    go_wp2_with fail
    go_ret
    exact ⟨_, rfl, HO.out, Grew.refl _ _⟩
  · rcases ho with ⟨hlen, ⟨rfl, h0⟩ | ⟨g, cap, cur, rfl, hgb, hblk, hncap, hcmax, hcs, htk⟩⟩
    · omega
    · rw [Nat.mul_one] at htk hcs
      have HF := Lib.hid (kept_start P l i hi hpi hpre)
      have HST := Lib.hid (kept_step P l)
      have HEND := Lib.hid (kept_end P l)
      have HFA := Lib.hid (u8s_at cur l htk)
      have kG : Blk w g (.cells cur 5) := hblk
      have hgl := kG.lt
      rw [h1] at HI
      have e1 : ((i : Int) == -1) = false := by rw [beq_eq_false_iff_ne]; omega
      clear hpi hpre htk hlen hblk h1
      go_enter Try.func23, Try.ntmps23
      go_wp2_with fail
      refine HI.out.mono ?_
      rintro e w1 ⟨rfl, rfl⟩
      clear HI
      go_wp2_with fail
      go_loopw [5, 6] (fun ia ij wr => ∃ (j a : Nat) (cu : Array Value), i < j ∧ j ≤ l.length ∧ ij = .int .i64 j ∧ ia = .int .i64 a ∧ a = (kept P l j).length ∧ a < j ∧ Blk wr g (.cells cu 5) ∧ cu.size = cap ∧ (∀ t (ht : t < (kept P l j).length), cu[t]? = some (.int .u8 ((kept P l j)[t] : Nat))) ∧ (∀ t (_ : j ≤ t) (ht : t < l.length), cu[t]? = some (.int .u8 (l[t] : Nat))) ∧ w.grownBy wr (some g)) (fun _ ij _ => l.length - (intOf ij).toNat)
      case atStart =>
        refine ⟨i + 1, i, cur, by omega, by omega, by go_num, rfl, by rw [HF.out, List.length_take]; omega, by omega, kG, hcs, ?_, fun t _ ht => HFA.out t ht, ⟨rfl, rfl, rfl, Nat.le_refl _, fun _ _ _ => rfl⟩⟩
        intro t ht
        have ht' := ht
        rw [HF.out, List.length_take] at ht'
        rw [HFA.out t (by omega)]
        have : ∀ (L : List Nat) (h : L = l.take i) (ht : t < L.length), l[t]'(by omega) = L[t] := by
          intro L h ht; subst h; rw [List.getElem_take]
        rw [this _ HF.out ht]
      case round =>
        obtain ⟨j, a, cu, hij, hj, rfl, rfl, ha, haj, kC, hcus, hA, hBt, G⟩ := hrel
        clear kG HFA
        have HA := Lib.hid hA
        have HAE := Lib.hid ha
        clear ha
        have HBT := Lib.hid hBt
        clear hA hBt
        by_cases hlt : j < l.length
        · have hd : decide ((j : Int) < (l.length : Int)) = true := decide_eq_true (by omega)
          have hd' : decide (j < l.length) = true := decide_eq_true hlt
          have g0 := (kC.cell j).trans (HBT.out j (Nat.le_refl _) hlt)
          have HS := Lib.hid (HST.out j hlt)
          have hxb := hlb _ (List.getElem_mem hlt)
          obtain ⟨x, hx⟩ : ∃ x, l[j] = x := ⟨_, rfl⟩
          rw [hx] at g0 HS hxb
          clear hx
          have HPX := Lib.hid (HPR.out x)
          go_wp2_with fail
          refine (is_any x node nb _ (HC.out _ G)).mono ?_
          rintro e w2 ⟨rfl, rfl⟩
          have hpx := HPX.out
          rw [hpx]
          cases hpx2 : P x
          · rw [if_neg (by rw [hpx2]; simp)] at HS
            clear hpx2 hpx HPX
            have hsz : a < cu.size := by omega
            have c0 := (kC.cell a).trans (Array.getElem?_eq_getElem hsz)
            have f0 := kC.frozen a
            have hal : decide ((a : Int) < (l.length : Int)) = true := decide_eq_true (by omega)
            have hal' : decide (a < l.length) = true := decide_eq_true (by omega)
            have hal2 : (a : Int) < (l.length : Int) := by omega
            have hal3 : a < l.length := by omega
            go_wp2_with fail
            go_roundw
            case rel =>
              refine ⟨j + 1, a + 1, cu.setIfInBounds a (.int .u8 (x : Int)), by omega, by omega, by go_num, by go_num, ?_, by omega, kC.set a _, by simp; exact hcus, ?_, ?_, gtrans G (gset _ g a _)⟩
              · rw [HS.out, List.length_append, ← HAE.out]; rfl
              · intro t ht
                have ht2 := ht
                rw [HS.out, List.length_append, List.length_singleton, ← HAE.out] at ht2
                have key : ∀ (L : List Nat) (hL : L = kept P l j ++ [x]) (ht : t < L.length), (cu.setIfInBounds a (.int .u8 (x : Int)))[t]? = some (.int .u8 (L[t] : Nat)) := by
                  intro L hL ht
                  subst hL
                  have hae := HAE.out
                  by_cases hta : t = a
                  · subst hta
                    rw [Array.getElem?_setIfInBounds_self_of_lt hsz, List.getElem_append_right (by omega)]
                    simp
                  · rw [Array.getElem?_setIfInBounds_ne (by omega), HA.out t (by omega), List.getElem_append_left (by omega)]
                exact key _ HS.out ht
              · intro t h1 h2
                rw [Array.getElem?_setIfInBounds_ne (by omega)]
                exact HBT.out t (by omega) h2
            case measure => simp [intOf]; omega
          · rw [if_pos hpx2, List.append_nil] at HS
            clear hpx2 hpx HPX
            go_wp2_with fail
            go_roundw
            case rel =>
              refine ⟨j + 1, a, cu, by omega, by omega, by go_num, rfl, by rw [HS.out]; exact HAE.out, by omega, kC, hcus, ?_, fun t h1 h2 => HBT.out t (by omega) h2, G⟩
              have key : ∀ (L : List Nat) (hL : L = kept P l j) (t : Nat) (ht : t < L.length), cu[t]? = some (.int .u8 (L[t] : Nat)) := by
                intro L hL; subst hL; exact HA.out
              exact key _ HS.out
            case measure => simp [intOf]; omega
        · have hd : decide ((j : Int) < (l.length : Int)) = false := decide_eq_false (by omega)
          have hd' : decide (j < l.length) = false := decide_eq_false hlt
          have hjl : j = l.length := by omega
          have hK : kept P l j = l.filter (fun x => !P x) := by rw [hjl]; exact HEND.out
          have HB2 : ∀ (L : List Nat) (hL : L = kept P l j) (t : Nat) (ht : t < L.length), cu[t]? = some (.int .u8 (L[t] : Nat)) := by
            intro L hL; subst hL; exact HA.out
          have HB2 := Lib.hid (HB2 _ hK.symm)
          have hae := HAE.out
          rw [hK] at hae
          have HAE2 := Lib.hid hae
          have hcl := fun ty => run_clear1 wr g a (l.length - a) (cap - a) (by omega) (fun t ht => by rw [kC.cell, Array.getElem?_eq_getElem (show a + t < cu.size by omega)]; rfl) (fun t ht => kC.frozen _) ty
          obtain ⟨cu2, k2, s2, e2⟩ := sets_blk (zs (l.length - a)) a wr cu kC
          have G3 := gtrans G (sets_grown g (zs (l.length - a)) a wr)
          have q1 : (a : Int) ≤ (l.length : Int) := by omega
          have q2 : a ≤ l.length := by omega
          have q3 : a ≤ cap := by omega
          clear hK hae hlt HA HAE HBT
          go_wp2_with fail
          go_ret
          refine ⟨_, rfl, ⟨by rw [u8s_length, Nat.mul_one], .inr ⟨g, cap, cu2, by rw [← HAE2.out]; rfl, hgb, k2, by rw [← HAE2.out]; omega, hcmax, by rw [s2, hcus, Nat.mul_one], ?_⟩⟩, ⟨G3, .inl rfl⟩⟩
          rw [Nat.mul_one]
          exact take_u8s cu2 _ (by rw [← HAE2.out, s2, hcus]; omega) (fun t ht => by rw [e2 _ (by have := HAE2.out; omega)]; exact HB2.out t ht)
/-- The row behind it. -/
def hd (self : Nat) (l : List Nat) (node : Nat) : List Nat := if 7 ≤ node ∨ node = self then l else node :: l.filter (fun x => !decide (x = node))
theorem hd_len (self : Nat) (l : List Nat) (node : Nat) : (hd self l node).length ≤ l.length + 1 := by
  unfold hd; split
  · omega
  · have := List.length_filter_le (fun x => !decide (x = node)) l; simp; omega
theorem hd_small (self : Nat) (l : List Nat) (node : Nat) (h : ∀ x ∈ l, x < 7) : ∀ x ∈ hd self l node, x < 7 := by
  unfold hd; split
  · exact h
  · intro x hx
    rcases List.mem_cons.1 hx with e | e
    · omega
    · exact h x (List.mem_filter.1 e).1
theorem heard_nil (node : Nat) (w : World) : Calls Try.prog 11 #[.pointer none, .int .u8 node] w fun e w' => e = .returned (.tuple #[]) ∧ Below w.heap.size w w' := by
  have k0 : Blk (w.alloc (.cells #[.int .u8 (node : Int)] 5)) w.heap.size (.cells #[.int .u8 (node : Int)] 5) := Blk.new w _
  go_enter Try.func11, Try.ntmps11
  go_wp2_with fail
  have hF := fun (w' : World) (hb : Below (w.alloc (.cells #[.int .u8 (node : Int)] 5)).heap.size (w.alloc (.cells #[.int .u8 (node : Int)] 5)) w') => k0.held w' 0 hb
  generalize hW : w.alloc (.cells #[.int .u8 (node : Int)] 5) = W at *
  refine wp_region_ord (fun w' => Below W.heap.size W w') (0 :: 1 :: 2 :: 3 :: 4 :: 5 :: 6 :: 7 :: 8 :: 9 :: 10 :: 11 :: 12 :: 13 :: []) [] (by kernel_rfl) (by kernel_rfl) (by intro c d v a w h; cases d <;> exact h) (Below.drew (Below.refl _ _)) ?_
  repeat (first
    | (refine wpOrd_take (v := ?_) rfl rfl ?_ ?_ ?_; rotate_left; rfl; (· intro w' hSw; (try dsimp only at hSw); go_simp <;> with_reducible rfl); simp only [Act.put, List.setIfInBounds_toArray, List.set_cons_zero, List.set_cons_succ])
    | (refine wpOrd_skip rfl rfl ?_ ?_; rfl; simp only [Act.put, List.setIfInBounds_toArray, List.set_cons_zero, List.set_cons_succ]))
  refine wpOrd_nil ?_
  go_wp2_with fail
  refine bodyPost_ret (results_none rfl _ _ _) rfl ?_
  exact ⟨rfl, by rw [← hW]; exact Below.drew (below1 w _)⟩
theorem heard_any (base mb self : Nat) (v : Value) (l : List Nat) (hl : l.length ≤ 10000) (node : Nat) (hn : node < 256) (w : World) (q : Mm w base mb self v l) :
    Calls Try.prog 11 #[.pointer (some ⟨mb, 0, none⟩), .int .u8 node] w fun e w' => e = .returned (.tuple #[]) ∧ ∃ v', Mm w' base mb self v' (hd self l node) ∧ Moved w mb v w' v' := by
  have zm := q.blk.lt
  have zr : ∀ b, v.ownBlock = some b → b < w.heap.size := fun b hb => (q.row.lt b hb).2
  have k0 : Blk (w.alloc (.cells #[.int .u8 (node : Int)] 5)) w.heap.size (.cells #[.int .u8 (node : Int)] 5) := Blk.new w _
  have q1 := q.below (below1 w (.cells #[.int .u8 (node : Int)] 5))
  have M1 := Moved.of_below mb v (below1 w (.cells #[.int .u8 (node : Int)] 5))
  have hF := fun (w' : World) (hb : Below (w.alloc (.cells #[.int .u8 (node : Int)] 5)).heap.size (w.alloc (.cells #[.int .u8 (node : Int)] 5)) w') => k0.held w' 0 hb
  have hF2 := fun (w' : World) (hb : Below (w.alloc (.cells #[.int .u8 (node : Int)] 5)).heap.size (w.alloc (.cells #[.int .u8 (node : Int)] 5)) w') => q1.blk.held w' 0 hb
  have hWs : (w.alloc (.cells #[.int .u8 (node : Int)] 5)).heap.size = w.heap.size + 1 := by simp
  go_enter Try.func11, Try.ntmps11
  go_wp2_with fail
  obtain ⟨W, hW⟩ : ∃ W, w.alloc (.cells #[.int .u8 (node : Int)] 5) = W := ⟨_, rfl⟩
  rw [hW] at k0 q1 M1 hF hF2 hWs ⊢
  clear hW
  have qd := q1.below (Below.drew (Below.refl _ _))
  have Md := M1.trans (Moved.of_below mb v (show Below W.heap.size W W.drew from Below.drew (Below.refl _ _)))
  have kd := k0.drew
  have zW : w.heap.size < W.drew.heap.size := kd.lt
  clear hWs
  by_cases h7 : 7 ≤ node
  · have HR := Lib.hid (show hd self l node = l by unfold hd; rw [if_pos (.inl h7)])
    have t1 : decide ((7 : Int) ≤ (node : Int)) = true := decide_eq_true (by omega)
    have t2 : decide (7 ≤ node) = true := decide_eq_true h7
    refine wp_region_ord (fun w' => Below W.heap.size W w') (0 :: 1 :: 2 :: 3 :: 4 :: 5 :: 6 :: 7 :: 8 :: 9 :: 10 :: 11 :: 12 :: 13 :: []) [] (by kernel_rfl) (by kernel_rfl) (by intro c d v a w h; cases d <;> exact h) (Below.drew (Below.refl _ _)) ?_
    repeat (first
      | (refine wpOrd_take (v := ?_) rfl rfl ?_ ?_ ?_; rotate_left; rfl; (· intro w' hSw; (try dsimp only at hSw); go_simp <;> with_reducible rfl); simp only [Act.put, List.setIfInBounds_toArray, List.set_cons_zero, List.set_cons_succ])
      | (refine wpOrd_skip rfl rfl ?_ ?_; rfl; simp only [Act.put, List.setIfInBounds_toArray, List.set_cons_zero, List.set_cons_succ]))
    refine wpOrd_nil ?_
    go_wp2_with fail
    refine bodyPost_ret (results_none rfl _ _ _) rfl ?_
    exact ⟨rfl, v, by rw [HR.out]; exact qd, Md⟩
  · by_cases hs : node = self
    · have HR := Lib.hid (show hd self l node = l by unfold hd; rw [if_pos (.inr hs)])
      have t1 : decide ((7 : Int) ≤ (node : Int)) = false := decide_eq_false (by omega)
      have t2 : decide (7 ≤ node) = false := decide_eq_false h7
      have t3 : ((node : Int) == (self : Int)) = true := by simp [hs]
      clear hs h7
      refine wp_region_ord (fun w' => Below W.heap.size W w') (0 :: 1 :: 2 :: 3 :: 4 :: 5 :: 6 :: 7 :: 8 :: 9 :: 10 :: 11 :: 12 :: 13 :: []) [] (by kernel_rfl) (by kernel_rfl) (by intro c d v a w h; cases d <;> exact h) (Below.drew (Below.refl _ _)) ?_
      repeat (first
        | (refine wpOrd_take (v := ?_) rfl rfl ?_ ?_ ?_; rotate_left; rfl; (· intro w' hSw; (try dsimp only at hSw); go_simp <;> with_reducible rfl); simp only [Act.put, List.setIfInBounds_toArray, List.set_cons_zero, List.set_cons_succ])
        | (refine wpOrd_skip rfl rfl ?_ ?_; rfl; simp only [Act.put, List.setIfInBounds_toArray, List.set_cons_zero, List.set_cons_succ]))
      refine wpOrd_nil ?_
      go_wp2_with fail
      refine bodyPost_ret (results_none rfl _ _ _) rfl ?_
      exact ⟨rfl, v, by rw [HR.out]; exact qd, Md⟩
    · have HR := Lib.hid (show hd self l node = node :: l.filter (fun x => !(fun x => decide (x = node)) x) by unfold hd; rw [if_neg (by omega)])
      have t1 : decide ((7 : Int) ≤ (node : Int)) = false := decide_eq_false (by omega)
      have t2 : decide (7 ≤ node) = false := decide_eq_false h7
      have t3 : ((node : Int) == (self : Int)) = false := by simp; omega
      have HN7 := Lib.hid (show node < 7 by omega)
      clear hs h7
      refine wp_region_ord (fun w' => Below W.heap.size W w') (0 :: 1 :: 2 :: 3 :: 4 :: 5 :: 6 :: 7 :: 8 :: 9 :: 10 :: 11 :: 12 :: 13 :: []) [] (by kernel_rfl) (by kernel_rfl) (by intro c d v a w h; cases d <;> exact h) (Below.drew (Below.refl _ _)) ?_
      repeat (first
        | (refine wpOrd_take (v := ?_) rfl rfl ?_ ?_ ?_; rotate_left; rfl; (· intro w' hSw; (try dsimp only at hSw); go_simp <;> with_reducible rfl); simp only [Act.put, List.setIfInBounds_toArray, List.set_cons_zero, List.set_cons_succ])
        | (refine wpOrd_skip rfl rfl ?_ ?_; rfl; simp only [Act.put, List.setIfInBounds_toArray, List.set_cons_zero, List.set_cons_succ]))
      refine wpOrd_nil ?_
      have c1 := qd.blk.cell 1
      clear hF hF2 t1 t2 t3 k0 q1 M1
      generalize W.drew = X at *
      go_wp2_with fail
      refine (del_any node w.heap.size base v l (by omega) (fun x hx => by have := qd.small x hx; omega) X qd.row (fun w' g => by rw [(kd.grown g (fun e => by have := zr _ e.symm; omega)).cell]; rfl)).mono ?_
      rintro e w1 ⟨v1, rfl, ho1, g1⟩
      have M1 := Md.trans (Moved.of_grew mb g1)
      have k1 := kd.grown g1.1 (fun e => by have := zr _ e.symm; omega)
      have b1 := qd.blk.grown g1.1 qd.apart
      have hbase := qd.base
      have hsm := qd.small
      obtain ⟨l1, hl1⟩ : ∃ l1, l.filter (fun x => !(fun x => decide (x = node)) x) = l1 := ⟨_, rfl⟩
      have hl1l : l1.length ≤ l.length := by rw [← hl1]; exact List.length_filter_le _ _
      have hsm1 : ∀ x ∈ l1, x < 7 := by rw [← hl1]; exact fun x hx => hsm x (List.mem_filter.1 hx).1
      rw [hl1] at ho1 HR
      obtain ⟨p1, cap1, hv1, _⟩ := RdV.owns ho1
      subst hv1
      have rd1 := RdV.owns ho1
      have z1 : X.heap.size ≤ w1.heap.size := g1.size
      clear c1 hl1 Md qd kd hsm
      have c0 := k1.cell 0
      have hoB : (w1.alloc (.cells #[.int .u8 (node : Int)] 5)).ownsRow w.heap.size 5 1 (.slice (some ⟨w1.heap.size, 0, none⟩) 1 1) 1 (u8s [node]) := ⟨rfl, .inr ⟨_, 1, #[.int .u8 (node : Int)], rfl, by omega, Blk.new _ _, Nat.le_refl _, by decide, rfl, rfl⟩⟩
      have rdA := RdV.below rd1 (below1 w1 (.cells #[.int .u8 (node : Int)] 5)) (Nat.le_refl _)
      have bA := b1.alloc (.cells #[.int .u8 (node : Int)] 5)
      have MA := M1.trans (Moved.of_below mb _ (below1 w1 (.cells #[.int .u8 (node : Int)] 5)))
      have hAs : (w1.alloc (.cells #[.int .u8 (node : Int)] 5)).heap.size = w1.heap.size + 1 := by simp
      have hmz := b1.lt
      have zz := M1.size
      go_wp2_with (at_builtin; go_loud (refine appNg rfl _ _ 22 rfl w.heap.size 5 (.int .u8 0) 1 1 infoU Try.underlying22 rfl (by decide) (w1.alloc (.cells #[.int .u8 (node : Int)] 5)) _ 1 (u8s [node]) hoB rfl _ l1.length (u8s l1) rdA (by rw [u8s_length, Nat.mul_one]) (u8s_one l1) rfl (by omega) (by omega) (by omega) ?_; intro v4 w4 ho4 g4; have b4 := bA.grown g4.1 (fun (e : some mb = some w1.heap.size) => by have := Option.some.inj e; omega); have c4 := b4.cell 1; have f4 := b4.frozen 1; obtain ⟨p4, cap4, hv4, _⟩ := RdV.owns ho4; subst hv4))
      have hfr : ∀ b, (Value.slice p4 (1 + l1.length) cap4).ownBlock = some b → w1.heap.size ≤ b := fun b hb => by
        rcases g4.2 with e | e
        · rw [e] at hb; cases hb; exact Nat.le_refl _
        · have := e b hb; omega
      have hap : some mb ≠ (Value.slice p4 (1 + l1.length) cap4).ownBlock := fun e => by have := hfr mb e.symm; omega
      have ho5 := ownsRow_blkset ho4 (a := ⟨mb, 1, none⟩) hap (.slice p4 (1 + l1.length) cap4)
      have M4 : Moved w mb v w4 (.slice p4 (1 + l1.length) cap4) := ⟨g4.1.os.trans MA.os, g4.1.tape.trans MA.tape, g4.1.output.trans MA.output, Nat.le_trans MA.size g4.1.size, fun k hk h1 h2 => (g4.1.block k (Nat.lt_of_lt_of_le hk MA.size) (fun (e : some k = some w1.heap.size) => by have := Option.some.inj e; have := zz; omega)).trans (MA.block k hk h1 h2), .inr fun b hb => by have := hfr b hb; omega⟩
      go_end0
      refine ⟨rfl, _, ⟨b4.set 1 _, ?_, hap, hbase, ?_⟩, M4.set 1 _⟩
      · rw [HR.out]
        have e1 : (node :: l1).length = 1 + l1.length := by simp; omega
        have e2 : u8s (node :: l1) = u8s [node] ++ u8s l1 := by rw [← u8s_append]; rfl
        rw [e1, e2]
        exact ownsRow_low ho5 (by omega)
      · rw [HR.out]
        intro x hx
        rcases List.mem_cons.1 hx with e | e
        · have := HN7.out; omega
        · exact hsm1 x e
end Thr
end Go.Proofs.Ythhgcfklaakndaa
