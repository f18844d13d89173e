/-
  How arguments read: a value of a type without pointers is a row of numbers, bools and texts; a slice of such a type is such rows one behind the other. Over any program.
-/
import Derived.Deep.Slices
import Derived.Test.YthhgcfklaakndaaBase
namespace Go.Proofs.Ythhgcfklaakndaa
open Go.RowKit Go.WideShapes

inductive Leaf where
  | int (k : IntKind)
  | bool
  | str
def Leaf.is : Leaf → Value → Prop
  | .int k, v => ∃ n, v = .int k n ∧ (Lit.int k n).wf = true
  | .bool, v => ∃ b, v = .bool b
  | .str, v => ∃ s, v = .string s ∧ s.size ≤ maxLen
def Fit : List Leaf → List Value → Prop
  | [], [] => True
  | k :: ks, v :: vs => k.is v ∧ Fit ks vs
  | _, _ => False
theorem Fit.length : ∀ {ks : List Leaf} {cs : List Value}, Fit ks cs → cs.length = ks.length
  | [], [], _ => rfl
  | [], _ :: _, h => h.elim
  | _ :: _, [], h => h.elim
  | _ :: _, _ :: _, h => by simp [Fit.length h.2]
theorem Fit.append : ∀ {a b : List Leaf} {x y : List Value}, Fit a x → Fit b y → Fit (a ++ b) (x ++ y)
  | [], _, [], _, _, h => h
  | [], _, _ :: _, _, h, _ => h.elim
  | _ :: _, _, [], _, h, _ => h.elim
  | _ :: _, _, _ :: _, _, h, g => ⟨h.1, Fit.append h.2 g⟩

def flatFields (P : Program) (go : TypeId → Option (List Leaf)) (total : Nat) : Nat → List Field → Option (List Leaf)
  | off, [] => if off = total then some [] else none
  | off, f :: r => (go f.type).bind fun ks => if f.offset = off ∧ P.cellsOf f.type = ks.length then (flatFields P go total (off + ks.length) r).map (ks ++ ·) else none
def flat (P : Program) : Nat → TypeId → Option (List Leaf)
  | 0, _ => none
  | d + 1, t => match P.underlying t with
    | some .bool => some [.bool]
    | some (.int k) => some [.int k]
    | some .string => some [.str]
    | some (.struct fs) => flatFields P (flat P d) (P.cellsOf t) 0 fs.toList
    | some (.array n e) => (flat P d e).bind fun ks => if P.cellsOf e = ks.length ∧ P.cellsOf t = n * ks.length then some (List.replicate n ks).flatten else none
    | _ => none

theorem fit_fields {P : Program} {go : TypeId → Option (List Leaf)} {total : Nat} {cs : List Value} (hlen : cs.length = total) :
    ∀ (fs : List Field) (off : Nat) (ks : List Leaf), flatFields P go total off fs = some ks →
      (∀ f ∈ fs, ∀ k, go f.type = some k → Fit k ((cs.drop f.offset).take (P.cellsOf f.type))) → Fit ks (cs.drop off)
  | [], off, ks, h, _ => by
    simp only [flatFields] at h
    split at h
    · cases h; rename_i he; subst he; rw [List.drop_of_length_le (by omega)]; trivial
    · cases h
  | f :: r, off, ks, h, hf => by
    simp only [flatFields, Option.bind_eq_some_iff] at h
    obtain ⟨k, hk, h⟩ := h
    split at h
    · rename_i he
      obtain ⟨he1, he2⟩ := he
      simp only [Option.map_eq_some_iff] at h
      obtain ⟨k2, hk2, rfl⟩ := h
      have h1 := hf f (by simp) k hk
      rw [he1, he2] at h1
      have h2 := fit_fields hlen r (off + k.length) k2 hk2 (fun g hg => hf g (by simp [hg]))
      have := h1.append h2
      rwa [← List.drop_drop, List.take_append_drop] at this
    · cases h
theorem fit_rows {ks : List Leaf} : ∀ (n : Nat) (cs : List Value), cs.length = n * ks.length → (∀ i, i < n → Fit ks ((cs.drop (i * ks.length)).take ks.length)) → Fit (List.replicate n ks).flatten cs
  | 0, cs, h, _ => by
    have : cs = [] := List.eq_nil_of_length_eq_zero (by simpa using h)
    subst this; trivial
  | n + 1, cs, h, hf => by
    have h1 := hf 0 (by omega)
    simp only [Nat.zero_mul, List.drop_zero] at h1
    have h2 := fit_rows (ks := ks) n (cs.drop ks.length) (by rw [List.length_drop, h, Nat.succ_mul]; omega) (fun i hi => by
      have := hf (i + 1) (by omega)
      rwa [List.drop_drop, show ks.length + i * ks.length = (i + 1) * ks.length by rw [Nat.succ_mul]; omega])
    have := h1.append h2
    rw [List.take_append_drop] at this
    simpa [List.replicate_succ] using this
theorem fit_trod {H : Type} {enc : TypeId × Value → H} {P : Program} {w : World} {base : Nat} {spare : Nat → Bool} {held : Bool} :
    ∀ (d fuel : Nat) (t : TypeId) (ks : List Leaf) (cs : List Value) (x : DataW H × List MemPlace), flat P d t = some ks → DataW.trod enc P w base spare held fuel t cs = some x → Fit ks cs
  | 0, _, _, _, _, _, h, _ => by simp [flat] at h
  | d + 1, fuel, t, ks, cs, x, h, ht => by
    simp only [flat] at h
    split at h
    · rename_i hu; cases h
      obtain ⟨b, rfl, _⟩ := DataW.trod_bool hu ht
      exact ⟨⟨b, rfl⟩, trivial⟩
    · rename_i k hu; cases h
      obtain ⟨n, rfl, _, hw⟩ := DataW.trod_int hu ht
      exact ⟨⟨n, rfl, hw⟩, trivial⟩
    · rename_i hu; cases h
      obtain ⟨s, rfl, _, hs⟩ := DataW.trod_string hu ht
      exact ⟨⟨s, rfl, hs⟩, trivial⟩
    · rename_i fs hu
      obtain ⟨xs, n, _, rfl, hlen, hxs, hf⟩ := DataW.trod_struct hu ht
      have := fit_fields hlen fs.toList 0 ks h (fun f hfm k hk => by
        obtain ⟨i, hi, hfi⟩ := List.getElem_of_mem hfm
        have hi' : i < fs.size := by simpa using hi
        have h1 := hf i f (by rw [← hfi]; simp [hi'])
        rw [List.getElem?_eq_getElem (by omega)] at h1
        exact fit_trod d n f.type k _ _ hk h1)
      simpa using this
    · rename_i n e hu
      simp only [Option.bind_eq_some_iff] at h
      obtain ⟨k, hk, h⟩ := h
      split at h
      · rename_i he
        cases h
        obtain ⟨xs, m, _, rfl, hlen, hxs, hf⟩ := DataW.trod_array hu ht
        refine fit_rows n cs (by rw [hlen, he.2]) (fun i hi => ?_)
        have h1 := hf i hi
        rw [List.getElem?_eq_getElem (by omega), he.1] at h1
        exact fit_trod d m e k _ _ hk h1
      · cases h
    · cases h
theorem fit_Trod {H : Type} {enc : TypeId × Value → H} {P : Program} {w : World} {base : Nat} {spare : Nat → Bool} {held : Bool} {t : TypeId} {v : Value} {x : DataW H} {ps : List MemPlace} (d : Nat) {ks : List Leaf} (h : flat P d t = some ks)
    (ht : DataW.Trod enc P w base spare held t v x ps) : Fit ks v.cells.toList := by
  obtain ⟨fuel, hf⟩ := ht
  exact fit_trod d fuel t ks _ _ h hf

/-- A slice of a flat type: its elements' cells, one behind the other, and what they are. -/
theorem flat_slice {H : Type} {enc : TypeId × Value → H} {P : Program} {w : World} {held : Bool} {t e : TypeId} {v : Value} {x : DataW H} {ps : List MemPlace} {r : Reach} {base : Nat} (d : Nat) {ks : List Leaf}
    (hu : P.underlying t = some (.slice e)) (hk : flat P d e = some ks) (hc : P.cellsOf e = ks.length) (hok : Value.okWide P w r base t v) (ht : DataW.Trod enc P w 0 (fun _ => true) held t v x ps) :
    ∃ (n : Nat) (xs : List Value), RdV w v n xs ∧ Fit (List.replicate n ks).flatten xs := by
  obtain ⟨a, len, cap, rfl⟩ := okWide_slice hu hok
  obtain ⟨fuel, hf⟩ := ht
  rcases Go.Deep.open_slice hu hf with ⟨hcs, _⟩ | ⟨a', len', cap', m, n, D, Pl, hcs, _, hl, hm, hmm, _, hx⟩
  · simp [Value.cells] at hcs
    obtain ⟨rfl, rfl, rfl⟩ := hcs
    exact ⟨0, [], ⟨none, 0, rfl, by omega, fun j u hj => by simp at hj, fun _ => ⟨rfl, rfl⟩⟩, trivial⟩
  · simp [Value.cells] at hcs
    obtain ⟨rfl, rfl, rfl⟩ := hcs
    simp only [if_true] at hmm
    subst hmm
    obtain ⟨C, hC⟩ := Go.Deep.choose_lt (α := List Value) hx
    have hlenC : ∀ i, i < m → (C i).length = ks.length := fun i hi => by
      obtain ⟨h1, _⟩ := hC i hi
      rw [(World.cells?_some h1).2.1, hc]
    have hsum : ∀ k, k ≤ m → ((List.range k).flatMap C).length = k * ks.length := by
      intro k
      induction k with
      | zero => intro _; simp
      | succ k ih => intro hk; rw [List.range_succ, List.flatMap_append, List.length_append, ih (by omega)]; simp [hlenC k (by omega), Nat.succ_mul]
    have hget : ∀ k, k ≤ m → ∀ i, i < k → ((((List.range k).flatMap C)).drop (i * ks.length)).take ks.length = C i := by
      intro k
      induction k with
      | zero => intro _ i hi; omega
      | succ k ih =>
        intro hk i hi
        rw [List.range_succ, List.flatMap_append]
        simp only [List.flatMap_cons, List.flatMap_nil, List.append_nil]
        by_cases h : i < k
        · have hle : (i + 1) * ks.length ≤ k * ks.length := Nat.mul_le_mul_right _ (by omega)
          rw [Nat.succ_mul] at hle
          rw [List.drop_append_of_le_length (by rw [hsum k (by omega)]; omega), List.take_append_of_le_length (by rw [List.length_drop, hsum k (by omega)]; omega)]
          exact ih (by omega) i h
        · obtain rfl : i = k := by omega
          rw [List.drop_append, hsum i (by omega), Nat.sub_self, List.drop_zero, List.drop_of_length_le (by rw [hsum i (by omega)]; omega), List.nil_append, ← hlenC i (by omega), List.take_length]
    refine ⟨len, (List.range len).flatMap C, ⟨some a', m, rfl, by simp only [maxLen] at hm; omega, fun j u hj => ?_, fun h => by cases h⟩, fit_rows len _ (hsum len hl) (fun i hi => ?_)⟩
    · have hjlt : j < len * ks.length := by have := (List.getElem?_eq_some_iff.1 hj).1; rwa [hsum len hl] at this
      have hpos : 0 < ks.length := by
        rcases Nat.eq_zero_or_pos ks.length with h0 | h0
        · rw [h0] at hjlt; omega
        · exact h0
      have hq : j / ks.length < len := (Nat.div_lt_iff_lt_mul hpos).2 hjlt
      have hdm : j / ks.length * ks.length + j % ks.length = j := by rw [Nat.mul_comm]; exact Nat.div_add_mod j ks.length
      have hr : j % ks.length < ks.length := Nat.mod_lt _ hpos
      generalize j / ks.length = q at hq hdm
      generalize j % ks.length = rr at hr hdm
      have h1 := hget len hl _ hq
      have hCj : (C q)[rr]? = some u := by
        rw [← h1, List.getElem?_take_of_lt hr, List.getElem?_drop, hdm]; exact hj
      obtain ⟨h2, _⟩ := hC _ (show q < m by omega)
      obtain ⟨_, _, h3⟩ := World.cells?_some h2
      have h4 := h3 rr (by omega)
      rw [hCj, Go.Deep.add_add, hc, hdm] at h4
      refine ⟨a'.block, a'.off, ?_, ?_⟩
      · congr 1
        obtain ⟨h5, _⟩ := hC 0 (by omega)
        obtain ⟨_, _, h6⟩ := World.cells?_some h5
        have h7 := h6 0 (by omega)
        rw [List.getElem?_eq_getElem (by rw [hlenC 0 (by omega)]; exact hpos)] at h7
        have : a'.spot = none := by
          cases hs : a'.spot with
          | none => rfl
          | some s =>
            exfalso
            simp [Addr.add, World.cell?, hs] at h7
            split at h7 <;> simp_all
        cases a'; simp_all
      · have : a'.add j = ⟨a'.block, a'.off + j, none⟩ := by
          unfold Addr.add
          split
          · rename_i h0
            subst h0
            obtain ⟨h5, _⟩ := hC 0 (by omega)
            obtain ⟨_, _, h6⟩ := World.cells?_some h5
            have h7 := h6 0 (by omega)
            rw [List.getElem?_eq_getElem (by rw [hlenC 0 (by omega)]; exact hpos)] at h7
            have : a'.spot = none := by
              cases hs : a'.spot with
              | none => rfl
              | some s =>
                exfalso
                simp [Addr.add, World.cell?, hs] at h7
                split at h7 <;> simp_all
            cases a'; simp_all
          · rfl
        rw [← this]; exact h4
    · rw [hget len hl i hi]
      obtain ⟨_, h2⟩ := hC i (by omega)
      exact fit_trod d n e ks _ _ hk h2
/-- A slice of bytes. -/
theorem flat_u8s {H : Type} {enc : TypeId × Value → H} {P : Program} {w : World} {held : Bool} {t e : TypeId} {v : Value} {x : DataW H} {ps : List MemPlace} {r : Reach} {base : Nat}
    (hu : P.underlying t = some (.slice e)) (he : P.underlying e = some (.int .u8)) (hc : P.cellsOf e = 1) (hok : Value.okWide P w r base t v) (ht : DataW.Trod enc P w 0 (fun _ => true) held t v x ps) :
    ∃ l : List Nat, RdB w v l := by
  have hk : flat P 1 e = some [.int .u8] := by simp [flat, he]
  obtain ⟨n, xs, hr, hf⟩ := flat_slice 1 hu hk hc hok ht
  have key : ∀ (n : Nat) (xs : List Value), Fit (List.replicate n [Leaf.int .u8]).flatten xs → ∃ l : List Nat, xs = u8s l ∧ l.length = n ∧ ∀ x ∈ l, x < 256 := by
    intro n
    induction n with
    | zero => intro xs h; cases xs with
      | nil => exact ⟨[], rfl, rfl, by simp⟩
      | cons a b => exact h.elim
    | succ n ih =>
      intro xs h
      cases xs with
      | nil => exact h.elim
      | cons a b =>
        obtain ⟨⟨z, rfl, hz⟩, h2⟩ := h
        obtain ⟨l, rfl, rfl, hl⟩ := ih b h2
        obtain ⟨h0, h1⟩ := bounds_u8 hz
        exact ⟨z.toNat :: l, by simp [u8s, Int.toNat_of_nonneg h0], rfl, by intro y hy; rcases List.mem_cons.1 hy with h | h; omega; exact hl y h⟩
  obtain ⟨l, rfl, rfl, hl⟩ := key n xs hf
  exact ⟨l, .of hr hl⟩
end Go.Proofs.Ythhgcfklaakndaa
