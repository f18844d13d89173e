/-
  A region that draws its order, some of whose operations turn the world and hang on nothing between them: each is walked ONCE, in whatever world it comes up; what it answers is told by a fact that stays. Over any program.
-/
import Derived.Test.YthhgcfklaakndaaOrd
namespace Go.Proofs.Ythhgcfklaakndaa
open Go.RowKit
def dstAt (ops : List Oper) (i : Nat) : Option Tmp := (nth ops i).bind (·.dst)
/-- The frame behind what has come up: x tells each one's value. -/
def putAll (ops : List Oper) : List Nat → (Nat → Value) → Act → Act
  | [], _, a => a
  | i :: r, x, a => putAll ops r x (a.put (dstAt ops i) (x i))
def upd (x : Nat → Value) (i : Nat) (v : Value) : Nat → Value := fun j => if j = i then v else x j
theorem put_same (a : Act) (d : Option Tmp) (u v : Value) : (a.put d u).put d v = a.put d v := by
  cases d <;> simp [Act.put, Array.setIfInBounds_setIfInBounds]
theorem put_apart (a : Act) (d e : Option Tmp) (u v : Value) (h : d = none ∨ e = none ∨ d ≠ e) : (a.put d u).put e v = (a.put e v).put d u := by
  cases d with
  | none => cases e <;> rfl
  | some d =>
    cases e with
    | none => rfl
    | some e =>
      rcases h with h | h | h
      · cases h
      · cases h
      · simp only [Act.put]
        rw [Array.setIfInBounds_comm _ _ (fun e => h (by rw [e]))]
def apartB (d e : Option Tmp) : Bool := match d, e with
  | some d, some e => d != e
  | _, _ => true
theorem apartB_spec {d e : Option Tmp} (h : apartB d e = true) : d = none ∨ e = none ∨ d ≠ e := by
  cases d with
  | none => exact .inl rfl
  | some d => cases e with
    | none => exact .inr (.inl rfl)
    | some e => exact .inr (.inr (by simp [apartB] at h; simpa using h))
/-- Their places are apart. -/
def apartAll (ops : List Oper) : List Nat → Bool
  | [] => true
  | i :: r => r.all (fun j => (j != i) && apartB (dstAt ops i) (dstAt ops j)) && apartAll ops r
theorem putAll_out (ops : List Oper) (r : List Nat) (x : Nat → Value) (a : Act) (d : Option Tmp) (v : Value) (h : ∀ j ∈ r, apartB d (dstAt ops j) = true) : (putAll ops r x a).put d v = putAll ops r x (a.put d v) := by
  induction r generalizing a with
  | nil => rfl
  | cons i r ih =>
    rw [putAll, putAll, ih _ (fun j hj => h j (List.mem_cons_of_mem _ hj))]
    rw [put_apart a d (dstAt ops i) v (x i) (apartB_spec (h i (List.mem_cons_self ..)))]
theorem putAll_not (ops : List Oper) (r : List Nat) (x : Nat → Value) (i : Nat) (v : Value) (a : Act) (h : ∀ j ∈ r, j ≠ i) : putAll ops r (upd x i v) a = putAll ops r x a := by
  induction r generalizing a with
  | nil => rfl
  | cons j r ih =>
    rw [putAll, putAll, ih _ (fun k hk => h k (List.mem_cons_of_mem _ hk))]
    simp [upd, h j (List.mem_cons_self ..)]
theorem putAll_put (ops : List Oper) (r : List Nat) (x : Nat → Value) (i : Nat) (v : Value) (a : Act) (hi : i ∈ r) (h : apartAll ops r = true) : (putAll ops r x a).put (dstAt ops i) v = putAll ops r (upd x i v) a := by
  induction r generalizing a with
  | nil => cases hi
  | cons j r ih =>
    rw [apartAll, Bool.and_eq_true, List.all_eq_true] at h
    obtain ⟨h1, h2⟩ := h
    by_cases hj : j = i
    · subst hj
      have h3 : ∀ k ∈ r, k ≠ j := fun k hk => by
        have := h1 k hk
        rw [Bool.and_eq_true] at this
        simpa using this.1
      have h4 : ∀ k ∈ r, apartB (dstAt ops j) (dstAt ops k) = true := fun k hk => by
        have := h1 k hk
        rw [Bool.and_eq_true] at this
        exact this.2
      rw [putAll, putAll, putAll_out ops r x _ _ _ h4, put_same, putAll_not ops r x j v _ h3]
      simp [upd]
    · have hi' : i ∈ r := by
        rcases List.mem_cons.1 hi with e | e
        · exact absurd e.symm hj
        · exact e
      rw [putAll, putAll, ih _ hi' h2]
      simp [upd, hj]
/-- Does operation o wait for number j, one of these? -/
def waits (rest : List Nat) (o : Oper) (j : Nat) : Bool := rest.contains j && o.after.any fun e => Region.binds .any e && (e.on == j)
section
variable {P : Program} {ops : List Oper} {Q : Exit → Act → World → Prop} {S : World → Prop}
/-- What is to be shown of one operation: wherever it comes up. -/
def Step (P : Program) (ops : List Oper) (Q : Exit → Act → World → Prop) (S : World → Prop) (R : World → World → Prop) (V : Nat → Value → World → Prop) (rest : List Nat) (a : Act) (i : Nat) : Prop :=
  ∀ (o : Oper), nth ops i = some o → ∀ (x : Nat → Value) (w : World), S w → (∀ j, waits rest o j = true → V j (x j) w) →
    wpOp P ops.toArray Q i (fun a' w' => ∃ v, a' = (putAll ops rest x a).put o.dst v ∧ S w' ∧ R w w' ∧ V i v w') (putAll ops rest x a) w
def backB (ops : List Oper) : Bool := (List.range ops.length).all fun i => match nth ops i with
  | some o => o.after.all fun e => !Region.binds .any e || decide (e.on < i)
  | none => true
theorem nth_some (ops : List Oper) (i : Nat) (h : i < ops.length) : nth ops i = some ops[i] := by
  rw [nth_eq]; simp [h]
theorem any_rest {R : World → World → Prop} {V : Nat → Value → World → Prop} {rest : List Nat} {a : Act} (hback : backB ops = true) (hap : apartAll ops rest = true)
    (hst : ∀ i ∈ rest, ∀ v w w', R w w' → V i v w → V i v w') (hstep : ∀ i ∈ rest, Step P ops Q S R V rest a i)
    (hfin : ∀ (x : Nat → Value) (w : World), S w → (∀ i ∈ rest, V i (x i) w) → Q .normal (putAll ops rest x a) w) :
    ∀ (fuel : Nat) (listed : Array Bool) (x : Nat → Value) (w : World), listed.size = ops.length → (rest.filter (fun j => !listed.getD j true)).length ≤ fuel → (∀ j, j < ops.length → listed.getD j true = false → j ∈ rest) →
      S w → (∀ j ∈ rest, listed.getD j true = true → V j (x j) w) → wpAnyH P .any ops.toArray Q S fuel listed (putAll ops rest x a) w := by
  have hready : ∀ (listed : Array Bool), listed.size = ops.length → Region.ready .any ops.toArray listed = [] → ∀ j, j < ops.length → listed.getD j true = true := by
    intro listed hsz hr
    have key : ∀ n j, j < n → j < ops.length → listed.getD j true = true := by
      intro n
      induction n with
      | zero => intro j hj; omega
      | succ n ih =>
        intro j hj hl
        by_cases hjn : j < n
        · exact ih j hjn hl
        · have hjn' : j = n := by omega
          subst hjn'
          cases hu : listed.getD j true with
          | true => rfl
          | false =>
            exfalso
            have hm : j ∈ Region.ready .any ops.toArray listed := by
              simp only [Region.ready, List.mem_filter, List.mem_range, List.size_toArray]
              refine ⟨hl, ?_⟩
              rw [hu]
              simp only [Bool.not_false, Bool.true_and, List.getElem?_toArray, List.getElem?_eq_getElem hl, Option.map_some, Option.getD_some]
              rw [Array.all_eq_true]
              intro k hk
              have hb := hback
              rw [backB, List.all_eq_true] at hb
              have h1 := hb j (List.mem_range.2 hl)
              rw [nth_some ops j hl] at h1
              dsimp only at h1
              rw [Array.all_eq_true] at h1
              have h2 := h1 k hk
              generalize (ops[j].after)[k] = e at h2 ⊢
              cases hbd : Region.binds .any e with
              | false => simp
              | true =>
                rw [hbd] at h2
                simp only [Bool.not_true, Bool.false_or, decide_eq_true_eq] at h2
                have h3 := ih e.on h2 (by omega)
                have h4 : e.on < listed.size := by omega
                simp only [Bool.not_true, Bool.false_or]
                simp only [Array.getD, h4, dite_true] at h3 ⊢
                exact h3
            rw [hr] at hm
            cases hm
    exact fun j hj => key (j + 1) j (by omega) hj
  intro fuel
  induction fuel with
  | zero =>
    intro listed x w hsz hf hun hS hV
    have hall : ∀ j ∈ rest, listed.getD j true = true := by
      intro j hj
      cases hu : listed.getD j true with
      | true => rfl
      | false =>
        have : j ∈ rest.filter (fun j => !listed.getD j true) := List.mem_filter.2 ⟨hj, by rw [hu]; rfl⟩
        rw [List.eq_nil_of_length_eq_zero (Nat.le_zero.1 hf)] at this
        cases this
    refine wpAnyH_done ?_ (hfin x w hS (fun i hi => hV i hi (hall i hi))) 0
    refine List.eq_nil_iff_forall_not_mem.2 (fun j hj => ?_)
    simp only [Region.ready, List.mem_filter, List.mem_range, List.size_toArray, Bool.and_eq_true] at hj
    obtain ⟨hjl, hju, _⟩ := hj
    have hu : listed.getD j true = false := by simpa using hju
    have := hall j (hun j hjl hu)
    rw [hu] at this
    cases this
  | succ fuel ih =>
    intro listed x w hsz hf hun hS hV
    refine ⟨fun hr => ?_, fun i hi => ?_⟩
    · refine hfin x w hS (fun j hj => hV j hj ?_)
      by_cases hjl : j < ops.length
      · exact hready listed hsz hr j hjl
      · simp [Array.getD, show ¬ j < listed.size by omega]
    · simp only [Region.ready, List.mem_filter, List.mem_range, List.size_toArray, Bool.and_eq_true] at hi
      obtain ⟨hil, hiu, haf⟩ := hi
      have hu : listed.getD i true = false := by simpa using hiu
      have hir := hun i hil hu
      have ho := nth_some ops i hil
      refine wpOp_mono (fun a' w' => ?_) (hstep i hir ops[i] ho x w hS (fun j hj => ?_))
      · rintro ⟨v, rfl, hS', hR, hVi⟩
        refine ⟨hS', ?_⟩
        have hd : ops[i].dst = dstAt ops i := by rw [dstAt, ho]; rfl
        rw [hd, putAll_put ops rest x i v a hir hap]
        refine ih _ _ _ (by rw [Array.size_setIfInBounds]; exact hsz) ?_ ?_ hS' ?_
        · have hle : (rest.filter (fun j => !(listed.setIfInBounds i true).getD j true)).length < (rest.filter (fun j => !listed.getD j true)).length := by
            have hsub : rest.filter (fun j => !(listed.setIfInBounds i true).getD j true) = (rest.filter (fun j => !listed.getD j true)).filter (fun j => j != i) := by
              rw [List.filter_filter]
              refine List.filter_congr (fun j hj => ?_)
              by_cases hji : j = i
              · subst hji
                have : j < listed.size := by omega
                simp [Array.getD, this]
              · rw [getD_set_ne true (Ne.symm hji)]
                simp [hji]
            rw [hsub]
            have hmem : i ∈ rest.filter (fun j => !listed.getD j true) := List.mem_filter.2 ⟨hir, by rw [hu]; rfl⟩
            have key : ∀ l : List Nat, i ∈ l → (l.filter (fun j => j != i)).length < l.length := by
              intro l hl
              have := List.length_filter_lt_length_iff_exists (p := fun j => j != i) (l := l)
              exact this.2 ⟨i, hl, by simp⟩
            exact key _ hmem
          omega
        · intro j hj hju
          by_cases hji : j = i
          · subst hji; exact hir
          · rw [getD_set_ne true (Ne.symm hji)] at hju
            exact hun j hj hju
        · intro j hj hju
          by_cases hji : j = i
          · subst hji; simpa [upd] using hVi
          · rw [getD_set_ne true (Ne.symm hji)] at hju
            have := hst j hj _ _ _ hR (hV j hj hju)
            simpa [upd, hji] using this
      · rw [waits, Bool.and_eq_true, Array.any_eq_true] at hj
        obtain ⟨hjr, k, hk, he⟩ := hj
        rw [Bool.and_eq_true, beq_iff_eq] at he
        refine hV j (by simpa using hjr) ?_
        simp only [List.getElem?_toArray, List.getElem?_eq_getElem hil, Option.map_some, Option.getD_some] at haf
        rw [Array.all_eq_true] at haf
        have h2 := haf k hk
        rw [he.1, he.2] at h2
        simp only [Bool.not_true, Bool.false_or] at h2
        cases hd : listed.getD j true with
        | true => rfl
        | false =>
          exfalso
          by_cases hl : j < listed.size
          · simp only [Array.getD, hl, dite_true] at h2 hd
            rw [hd] at h2; cases h2
          · simp [Array.getD, hl] at hd
/-- Reads first, in an order of the prover's own; then the rest, in whatever order. -/
def wpMix (P : Program) (ops : List Oper) (S : World → Prop) (K : Act → Prop) : List Nat → Act → Prop
  | [], a => K a
  | i :: r, a => ∃ o v, nth ops i = some o ∧ YieldsIf P ops.toArray S o v a ∧ wpMix P ops S K r (a.put o.dst v)
def mixOk (ops : Array Oper) : List Nat → Array Bool → Bool
  | [], _ => true
  | i :: r, listed => Region.free .any ops listed i && (Region.ready .any ops listed).contains i && mixOk ops r (listed.setIfInBounds i true)
def listAll : List Nat → Array Bool → Array Bool
  | [], listed => listed
  | i :: r, listed => listAll r (listed.setIfInBounds i true)
theorem wpMix_any {K : Act → Prop} (hsel : Region.noSelect ops.toArray = true) (hQ : ∀ c d v a w, Q (.panic c) (Act.put a d v) w → Q (.panic c) a w) :
    ∀ (first : List Nat) (fuel : Nat) (listed : Array Bool) (a : Act) (w : World), mixOk ops.toArray first listed = true → S w →
      (∀ a', K a' → wpAnyH P .any ops.toArray Q S fuel (listAll first listed) a' w) → wpMix P ops S K first a → wpAnyH P .any ops.toArray Q S (first.length + fuel) listed a w
  | [], fuel, listed, a, w, _, _, hK, h => by
    rw [List.length_nil, Nat.zero_add]; exact hK a h
  | i :: r, fuel, listed, a, w, hok, hS, hK, h => by
    rw [mixOk, Bool.and_eq_true, Bool.and_eq_true] at hok
    obtain ⟨⟨h1, h2⟩, h3⟩ := hok
    obtain ⟨o, v, ho, hy, hw⟩ := h
    rw [nth_eq] at ho
    rw [List.length_cons, Nat.add_right_comm]
    exact wpAnyH_take ho hsel h1 h2 (fun c a w => hQ c o.dst v a w) hy hS (wpMix_any hsel hQ r fuel _ _ w h3 hS hK hw)
def blank (n : Nat) : Array Bool := Array.replicate n false
def mixCk (ops : List Oper) (first rest : List Nat) : Bool :=
  Region.noSelect ops.toArray && backB ops && apartAll ops rest && mixOk ops.toArray first (blank ops.length) && decide (first.length + rest.length ≤ ops.length) &&
    ((List.range ops.length).all fun j => first.contains j || rest.contains j) && (rest.all fun j => decide (j < ops.length) && !first.contains j)
theorem listAll_size (first : List Nat) (listed : Array Bool) : (listAll first listed).size = listed.size := by
  induction first generalizing listed with
  | nil => rfl
  | cons i r ih => rw [listAll, ih, Array.size_setIfInBounds]
theorem listAll_get (first : List Nat) (listed : Array Bool) (j : Nat) (h : first.contains j = false) : (listAll first listed).getD j true = listed.getD j true := by
  induction first generalizing listed with
  | nil => rfl
  | cons i r ih =>
    have h1 : j ≠ i ∧ r.contains j = false := by simpa using h
    rw [listAll, ih _ h1.2, getD_set_ne true (Ne.symm h1.1)]
theorem listAll_in (first : List Nat) (listed : Array Bool) (j : Nat) (hj : listed.getD j true = true ∨ first.contains j = true) : (listAll first listed).getD j true = true := by
  induction first generalizing listed with
  | nil =>
    rcases hj with h | h
    · exact h
    · simp at h
  | cons i r ih =>
    rw [listAll]
    refine ih _ ?_
    by_cases hji : j = i
    · subst hji
      left
      by_cases hl : j < listed.size <;> simp [Array.getD, hl]
    · rw [getD_set_ne true (Ne.symm hji)]
      rcases hj with h | h
      · exact .inl h
      · right
        simpa [hji] using h
/-- The beginning. -/
theorem wp_region_any_vals {id : Nat} {a : Act} {w : World} (S : World → Prop) (R : World → World → Prop) (V : Nat → Value → World → Prop) (first rest : List Nat) (hm : P.follows .mixedOrders = true)
    (hck : mixCk ops first rest = true) (hQ : ∀ c d v a w, Q (.panic c) (Act.put a d v) w → Q (.panic c) a w) (hS : S w.drew)
    (hst : ∀ i ∈ rest, ∀ v w w', R w w' → V i v w → V i v w')
    (h : wpMix P ops S (fun a' => (∀ i ∈ rest, Step P ops Q S R V rest a' i) ∧ ∀ (x : Nat → Value) (w : World), S w → (∀ i ∈ rest, V i (x i) w) → Q .normal (putAll ops rest x a') w) first a) :
    (Code.region id ops.toArray true).wp P Q a w := by
  simp only [mixCk, Bool.and_eq_true, decide_eq_true_eq] at hck
  obtain ⟨⟨⟨⟨⟨⟨c1, c2⟩, c3⟩, c4⟩, c5⟩, c6⟩, c7⟩ := hck
  have hnew : ∀ j, (blank ops.length).getD j true = decide (¬ j < ops.length) := fun j => by
    by_cases hj : j < ops.length
    · simp [blank, Array.getD, hj]
    · simp [blank, Array.getD, hj]
  refine wp_region_held_drew (S := S) hm hS (fun _ => ?_)
  obtain ⟨f, hf⟩ : ∃ f, ops.toArray.size = first.length + f := ⟨ops.toArray.size - first.length, by rw [List.size_toArray]; omega⟩
  have hrep : Array.replicate ops.toArray.size false = blank ops.length := by rw [List.size_toArray]; rfl
  rw [hrep, hf]
  refine wpMix_any c1 hQ first f _ a w.drew c4 hS (fun a' ⟨k1, k2⟩ => ?_) h
  -- any start: what has not come up keeps what stands there
  have hstart : ∃ x, putAll ops rest x a' = a' := by
    have put_own : ∀ (d : Option Tmp) (b : Act), ∃ v, b.put d v = b := by
      intro d b
      cases d with
      | none => exact ⟨undef, rfl⟩
      | some d =>
        by_cases hd : d < b.tmps.size
        · refine ⟨b.tmps[d], ?_⟩
          simp only [Act.put]
          have : b.tmps.setIfInBounds d b.tmps[d] = b.tmps := by
            rw [Array.setIfInBounds, dif_pos hd]; simp
          rw [this]
        · refine ⟨undef, ?_⟩
          simp only [Act.put]
          rw [Array.setIfInBounds_eq_of_size_le (Nat.le_of_not_lt hd)]
    have key : ∀ (r : List Nat), apartAll ops r = true → ∃ x, putAll ops r x a' = a' := by
      intro r
      induction r with
      | nil => intro _; exact ⟨fun _ => undef, rfl⟩
      | cons i r ih =>
        intro hr
        rw [apartAll, Bool.and_eq_true, List.all_eq_true] at hr
        obtain ⟨h1, h2⟩ := hr
        obtain ⟨x, hx⟩ := ih h2
        obtain ⟨v, hv⟩ := put_own (dstAt ops i) a'
        refine ⟨upd x i v, ?_⟩
        have h3 : ∀ k ∈ r, k ≠ i := fun k hk => by
          have := h1 k hk
          rw [Bool.and_eq_true] at this
          simpa using this.1
        rw [putAll, putAll_not ops r x i v _ h3]
        simp only [upd, if_true, hv, hx]
    exact key rest c3
  obtain ⟨x, hx⟩ := hstart
  rw [← hx]
  rw [List.all_eq_true] at c6 c7
  refine any_rest c2 c3 hst k1 k2 f _ x w.drew (by rw [listAll_size]; simp [blank]) ?_ ?_ hS ?_
  · refine Nat.le_trans (List.length_filter_le _ _) ?_
    rw [List.size_toArray] at hf
    omega
  · intro j hj hu
    have h1 := c6 j (List.mem_range.2 hj)
    rw [Bool.or_eq_true] at h1
    rcases h1 with h1 | h1
    · rw [listAll_in first _ j (.inr h1)] at hu; cases hu
    · simpa using h1
  · intro j hj hu
    exfalso
    have h1 := c7 j hj
    rw [Bool.and_eq_true] at h1
    have h2 : first.contains j = false := by simpa using h1.2
    rw [listAll_get first _ j h2, hnew] at hu
    have h3 := h1.1
    simp only [decide_eq_true_eq] at h3 hu
    exact hu h3
theorem wpMix_mono {K K' : Act → Prop} (h : ∀ a, K a → K' a) : ∀ (first : List Nat) (a : Act), wpMix P ops S K first a → wpMix P ops S K' first a
  | [], a, g => h a g
  | _ :: r, _, ⟨o, v, ho, hy, g⟩ => ⟨o, v, ho, hy, wpMix_mono h r _ g⟩
theorem wpMix_nil {K : Act → Prop} {a : Act} (h : K a) : wpMix P ops S K [] a := h
theorem wpMix_take {K : Act → Prop} {i : Nat} {r : List Nat} {o : Oper} {v : Value} {a : Act} (ho : nth ops i = some o) (hw : Region.wanted o (yielded ops.toArray a.tmps) = true)
    (hy : ∀ w, S w → (execOp a.eval o).run P w = .ok (.value v) w) (h : wpMix P ops S K r (a.put o.dst v)) : wpMix P ops S K (i :: r) a := ⟨o, v, ho, .inl ⟨hw, hy⟩, h⟩
theorem wpMix_skip {K : Act → Prop} {i : Nat} {r : List Nat} {o : Oper} {a : Act} (ho : nth ops i = some o) (hw : Region.wanted o (yielded ops.toArray a.tmps) = false)
    (h : wpMix P ops S K r (a.put o.dst undef)) : wpMix P ops S K (i :: r) a := ⟨o, undef, ho, .inr ⟨hw, rfl⟩, h⟩
/-- The frame behind what has come up, the places written out. -/
def putD : List (Nat × Option Tmp) → (Nat → Value) → Act → Act
  | [], _, a => a
  | p :: r, x, a => putD r x (a.put p.2 (x p.1))
theorem putD_eq {rest : List (Nat × Option Tmp)} (h : (rest.all fun p => dstAt ops p.1 == p.2) = true) (x : Nat → Value) (a : Act) : putAll ops (rest.map (·.1)) x a = putD rest x a := by
  induction rest generalizing a with
  | nil => rfl
  | cons p r ih =>
    rw [List.all_cons, Bool.and_eq_true, beq_iff_eq] at h
    rw [List.map_cons, putAll, putD, ih h.2, h.1]
/-- What is to be shown of one operation, wherever it comes up; the places written out. -/
def StepD (P : Program) (ops : List Oper) (Q : Exit → Act → World → Prop) (S : World → Prop) (R : World → World → Prop) (V : Nat → Value → World → Prop) (rest : List (Nat × Option Tmp)) (a : Act) (i : Nat) : Prop :=
  ∀ (o : Oper), nth ops i = some o → ∀ (x : Nat → Value) (w : World), S w → (∀ j, waits (rest.map (·.1)) o j = true → V j (x j) w) →
    wpOp P ops.toArray Q i (fun a' w' => ∃ v, a' = (putD rest x a).put o.dst v ∧ S w' ∧ R w w' ∧ V i v w') (putD rest x a) w
/-- One operation, walked as a list of one. -/
theorem step_list {R : World → World → Prop} {V : Nat → Value → World → Prop} {rest : List (Nat × Option Tmp)} {a : Act} {i : Nat} {o : Oper} (ho : nth ops i = some o)
    (h : ∀ (x : Nat → Value) (w : World), S w → (∀ j, waits (rest.map (·.1)) o j = true → V j (x j) w) → ∀ K : Act → World → Prop, Shut (∀ v w', S w' → R w w' → V i v w' → K ((putD rest x a).put o.dst v) w') →
      wpList P ops.toArray (Exit.then K Q) [o] (putD rest x a) w) : StepD P ops Q S R V rest a i := by
  intro o' ho' x w hS hd
  rw [ho] at ho'
  cases ho'
  exact wpOp_list ho (h x w hS hd _ (fun v w' g1 g2 g3 => ⟨v, rfl, g1, g2, g3⟩))
/-- One operation that only reads. -/
theorem step_read {R : World → World → Prop} {V : Nat → Value → World → Prop} {rest : List (Nat × Option Tmp)} {a : Act} {i : Nat} {o : Oper} (ho : nth ops i = some o) (hR : ∀ w, R w w)
    (h : ∀ (x : Nat → Value) (w : World), S w → (∀ j, waits (rest.map (·.1)) o j = true → V j (x j) w) → Region.wanted o (yielded ops.toArray (putD rest x a).tmps) = true ∧ ∃ v, (execOp (putD rest x a).eval o).run P w = .ok (.value v) w ∧ V i v w) : StepD P ops Q S R V rest a i := by
  intro o' ho' x w hS hd
  rw [ho] at ho'
  cases ho'
  obtain ⟨h1, v, h2, h3⟩ := h x w hS hd
  unfold wpOp
  rw [nth_eq] at ho
  simp only [ho, h1, if_true]
  refine .inl ?_
  unfold Oper.wp
  rw [h2]
  exact ⟨v, rfl, hS, hR w, h3⟩
/-- One operation that is guarded, and its guard says no. -/
theorem step_off {R : World → World → Prop} {V : Nat → Value → World → Prop} {rest : List (Nat × Option Tmp)} {a : Act} {i : Nat} {o : Oper} (ho : nth ops i = some o) (hR : ∀ w, R w w)
    (h : ∀ (x : Nat → Value) (w : World), S w → (∀ j, waits (rest.map (·.1)) o j = true → V j (x j) w) → Region.wanted o (yielded ops.toArray (putD rest x a).tmps) = false ∧ V i undef w) : StepD P ops Q S R V rest a i := by
  intro o' ho' x w hS hd
  rw [ho] at ho'
  cases ho'
  obtain ⟨h1, h3⟩ := h x w hS hd
  unfold wpOp
  rw [nth_eq] at ho
  simp only [ho, h1]
  exact ⟨undef, rfl, hS, hR w, h3⟩
/-- The beginning, the places written out. -/
theorem wp_region_vals {id : Nat} {a : Act} {w : World} (S : World → Prop) (R : World → World → Prop) (V : Nat → Value → World → Prop) (first : List Nat) (rest : List (Nat × Option Tmp)) (hm : P.follows .mixedOrders = true)
    (hck : (mixCk ops first (rest.map (·.1)) && rest.all fun p => dstAt ops p.1 == p.2) = true) (hQ : ∀ c d v a w, Q (.panic c) (Act.put a d v) w → Q (.panic c) a w) (hS : S w.drew)
    (hst : ∀ i ∈ rest.map (·.1), ∀ v w w', R w w' → V i v w → V i v w')
    (h : wpMix P ops S (fun a' => (∀ i ∈ rest.map (·.1), StepD P ops Q S R V rest a' i) ∧ ∀ (x : Nat → Value) (w : World), S w → (∀ i ∈ rest.map (·.1), V i (x i) w) → Q .normal (putD rest x a') w) first a) :
    (Code.region id ops.toArray true).wp P Q a w := by
  rw [Bool.and_eq_true] at hck
  refine wp_region_any_vals S R V first (rest.map (·.1)) hm hck.1 hQ hS hst ?_
  have e := putD_eq (ops := ops) hck.2
  refine wpMix_mono (fun a' ⟨k1, k2⟩ => ⟨fun i hi o ho x w hS hd => ?_, fun x w hS hv => ?_⟩) _ _ h
  · rw [e]; exact k1 i hi o ho x w hS hd
  · rw [e]; exact k2 x w hS hv
theorem steps_nil {T : Nat → Prop} : ∀ i ∈ ([] : List Nat), T i := fun i hi => by cases hi
theorem steps_cons {T : Nat → Prop} {i : Nat} {r : List Nat} (h : T i) (hr : ∀ j ∈ r, T j) : ∀ j ∈ i :: r, T j := fun j hj => by
  rcases List.mem_cons.1 hj with e | e
  · subst e; exact h
  · exact hr j e
end
attribute [irreducible] wpMix
end Go.Proofs.Ythhgcfklaakndaa
