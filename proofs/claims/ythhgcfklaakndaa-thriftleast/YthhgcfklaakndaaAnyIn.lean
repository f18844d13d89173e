/-
  A region that draws its order, in a fence or in a round: each operation is walked once, in whatever world it comes up; what it answers is told by a fact that stays. Over any program.
-/
import Derived.Test.YthhgcfklaakndaaAny
import Derived.OrdersIn
namespace Go.Proofs.Ythhgcfklaakndaa
open Go.RowKit
section
variable {F : Fence} {n : Nat} {P : Program} {ops : List Oper} {Q : Exit → Act → World → Prop} {S : World → Prop} {a : Act} {w : World}
theorem wpIn_both {o : Oper} {K K' : Act → World → Prop} {Q Q' : Exit → Act → World → Prop} (hK : ∀ a w, K a w → K' a w) (hQ : ∀ c a w, Q (.panic c) a w → Q' (.panic c) a w) (hL : LetsOut Q → LetsOut Q')
    (h : o.wpIn F n P a w K Q) : o.wpIn F n P a w K' Q' := by
  unfold Oper.wpIn at *
  refine ⟨h.1, ?_⟩
  have h := h.2
  generalize (o.semAt F.round a.eval).run P w = r at *
  cases r with
  | ok x w' =>
    cases x <;> simp only [Oper.uponIn] at h ⊢ <;>
      first
        | exact hK _ _ h
        | exact ⟨h.1, CallsIn.mono h.2 (fun e w'' he => by cases e <;> first | exact hK _ _ he | exact hQ _ _ _ he | exact hL he)⟩
        | exact ⟨h.1, RowsIn.mono h.2 (fun _ _ he => hK _ _ he)⟩
        | exact ⟨h.1, RoundIn.mono h.2 (fun e w'' he => by cases e <;> first | exact hK _ _ he | exact hQ _ _ _ he | exact hL he)⟩
  | halt x w' =>
    cases x <;> simp only [Oper.uponIn] at h ⊢ <;> first | exact hQ _ _ _ h | exact h
theorem wpOpIn_list {i : Nat} {o : Oper} {K : Act → World → Prop} (ho : nth ops i = some o) (h : wpListIn F n P ops.toArray (Exit.then K Q) [o] a w) : wpOpIn F n P ops.toArray Q i K a w := by
  unfold wpOpIn
  rw [nth_eq] at ho
  simp only [ho]
  unfold wpListIn at h
  split
  · rename_i hw
    rw [if_pos hw] at h
    exact wpIn_both (fun a w h => h) (fun c a w h => h) (fun ⟨a, w, h⟩ => ⟨a, w, h⟩) h
  · rename_i hw
    rw [if_neg hw] at h
    exact h
/-- What is to be shown of one operation: wherever it comes up. -/
def StepIn (F : Fence) (n : Nat) (P : Program) (ops : List Oper) (Q : Exit → Act → World → Prop) (S : World → Prop) (R : Nat → World → World → Prop) (V : Nat → Value → World → Prop) (rest : List (Nat × Option Tmp)) (a : Act) (i : Nat) : Prop :=
  ∀ (o : Oper), nth ops i = some o → ∀ (x : Nat → Value) (w : World), S w → (∀ j, waits (rest.map (·.1)) o j = true → V j (x j) w) →
    wpOpIn F n P ops.toArray Q i (fun a' w' => ∃ v, a' = (putD rest x a).put o.dst v ∧ S w' ∧ R i w w' ∧ V i v w') (putD rest x a) w
/-- Does number k wait for number i? -/
def follows (ops : List Oper) (i k : Nat) : Bool := match nth ops k with
  | some o => o.after.any fun e => Region.binds .any e && (e.on == i)
  | none => false
/-- As StepIn; U k: what holds as long as number k has not come up. -/
def StepInU (F : Fence) (n : Nat) (P : Program) (ops : List Oper) (Q : Exit → Act → World → Prop) (S : World → Prop) (R : Nat → World → World → Prop) (V : Nat → Value → World → Prop) (U : Nat → World → Prop) (rest : List (Nat × Option Tmp)) (a : Act) (i : Nat) : Prop :=
  ∀ (o : Oper), nth ops i = some o → ∀ (x : Nat → Value) (w : World), S w → (∀ j, waits (rest.map (·.1)) o j = true → V j (x j) w) → U i w → (∀ k, follows ops i k = true → U k w) →
    wpOpIn F n P ops.toArray Q i (fun a' w' => ∃ v, a' = (putD rest x a).put o.dst v ∧ S w' ∧ R i w w' ∧ V i v w') (putD rest x a) w
theorem anyIn_rest {R : Nat → World → World → Prop} {V : Nat → Value → World → Prop} {U : Nat → World → Prop} {rest : List (Nat × Option Tmp)} (hback : backB ops = true) (hap : apartAll ops (rest.map (·.1)) = true) (hdst : (rest.all fun p => dstAt ops p.1 == p.2) = true)
    (hall : ((List.range ops.length).all fun j => (rest.map (·.1)).contains j) = true)
    (hlen : ((rest.map (·.1)).all fun j => decide (j < ops.length)) = true)
    (hst : ∀ i ∈ rest.map (·.1), ∀ j ∈ rest.map (·.1), j ≠ i → follows ops i j = false → ∀ v w w', R i w w' → V j v w → V j v w') (hun : ∀ i ∈ rest.map (·.1), ∀ k, k < ops.length → k ≠ i → ∀ w w', R i w w' → U k w → U k w') (hstep : ∀ i ∈ rest.map (·.1), StepInU F n P ops Q S R V U rest a i)
    (hfin : ∀ (x : Nat → Value) (w : World), S w → (∀ i ∈ rest.map (·.1), V i (x i) w) → Q .normal (putD rest x a) w) :
    ∀ (fuel : Nat) (listed : Array Bool) (x : Nat → Value) (w : World), listed.size = ops.length → ((rest.map (·.1)).filter (fun j => !listed.getD j true)).length ≤ fuel →
      S w → (∀ j ∈ rest.map (·.1), listed.getD j true = true → V j (x j) w) → (∀ k, k < ops.length → listed.getD k true = false → U k w) → (∀ k i, follows ops i k = true → listed.getD k true = true → k < ops.length → listed.getD i true = true) → wpAnyIn F n P .any ops.toArray Q fuel listed (putD rest x a) w := by
  have hin : ∀ j, j < ops.length → j ∈ rest.map (·.1) := fun j hj => by
    rw [List.all_eq_true] at hall
    simpa using hall j (List.mem_range.2 hj)
  generalize hr : rest.map (·.1) = rs at *
  have hput : ∀ x a, putAll ops rs x a = putD rest x a := fun x a => by rw [← hr]; exact putD_eq hdst x a
  have hready : ∀ (listed : Array Bool), listed.size = ops.length → Region.ready .any ops.toArray listed = [] → ∀ j, j < ops.length → listed.getD j true = true := by
    intro listed hsz hrd
    have key : ∀ m j, j < m → j < ops.length → listed.getD j true = true := by
      intro m
      induction m with
      | zero => intro j hj; omega
      | succ m ih =>
        intro j hj hl
        by_cases hjn : j < m
        · exact ih j hjn hl
        · have hjn' : j = m := by omega
          subst hjn'
          cases hu : listed.getD j true with
          | true => rfl
          | false =>
            exfalso
            have hm : j ∈ Region.ready .any ops.toArray listed := by
              simp only [Region.ready, List.mem_filter, List.mem_range, List.size_toArray]
              refine ⟨hl, ?_⟩
              rw [hu]
              simp only [Bool.not_false, Bool.true_and, List.getElem?_toArray, List.getElem?_eq_getElem hl, Option.map_some, Option.getD_some]
              rw [Array.all_eq_true]
              intro k hk
              have hb := hback
              rw [backB, List.all_eq_true] at hb
              have h1 := hb j (List.mem_range.2 hl)
              rw [nth_some ops j hl] at h1
              dsimp only at h1
              rw [Array.all_eq_true] at h1
              have h2 := h1 k hk
              generalize (ops[j].after)[k] = e at h2 ⊢
              cases hbd : Region.binds .any e with
              | false => simp
              | true =>
                rw [hbd] at h2
                simp only [Bool.not_true, Bool.false_or, decide_eq_true_eq] at h2
                have h3 := ih e.on h2 (by omega)
                have h4 : e.on < listed.size := by omega
                simp only [Bool.not_true, Bool.false_or]
                simp only [Array.getD, h4, dite_true] at h3 ⊢
                exact h3
            rw [hrd] at hm
            cases hm
    exact fun j hj => key (j + 1) j (by omega) hj
  intro fuel
  induction fuel with
  | zero =>
    intro listed x w hsz hf hS hV hU hcl
    have hal : ∀ j ∈ rs, listed.getD j true = true := by
      intro j hj
      cases hu : listed.getD j true with
      | true => rfl
      | false =>
        have : j ∈ rs.filter (fun j => !listed.getD j true) := List.mem_filter.2 ⟨hj, by rw [hu]; rfl⟩
        rw [List.eq_nil_of_length_eq_zero (Nat.le_zero.1 hf)] at this
        cases this
    refine wpAnyIn_done ?_ (hfin x w hS (fun i hi => hV i hi (hal i hi))) 0
    refine List.eq_nil_iff_forall_not_mem.2 (fun j hj => ?_)
    simp only [Region.ready, List.mem_filter, List.mem_range, List.size_toArray, Bool.and_eq_true] at hj
    obtain ⟨hjl, hju, _⟩ := hj
    have hu : listed.getD j true = false := by simpa using hju
    have := hal j (hin j hjl)
    rw [hu] at this
    cases this
  | succ fuel ih =>
    intro listed x w hsz hf hS hV hU hcl
    refine ⟨fun hr => ?_, fun i hi => ?_⟩
    · refine hfin x w hS (fun j hj => hV j hj ?_)
      by_cases hjl : j < ops.length
      · exact hready listed hsz hr j hjl
      · simp [Array.getD, show ¬ j < listed.size by omega]
    · simp only [Region.ready, List.mem_filter, List.mem_range, List.size_toArray, Bool.and_eq_true] at hi
      obtain ⟨hil, hiu, haf⟩ := hi
      have hu : listed.getD i true = false := by simpa using hiu
      have hir := hin i hil
      have ho := nth_some ops i hil
      refine wpOpIn_mono (fun a' w' => ?_) (hstep i hir ops[i] ho x w hS (fun j hj => ?_) (hU i hil hu) (fun k hk => ?_))
      · rintro ⟨v, rfl, hS', hR, hVi⟩
        have hd : ops[i].dst = dstAt ops i := by rw [dstAt, ho]; rfl
        rw [hd, ← hput, putAll_put ops rs x i v a hir hap, hput]
        refine ih _ _ _ (by rw [Array.size_setIfInBounds]; exact hsz) ?_ hS' ?_ ?_ ?_
        · have hle : (rs.filter (fun j => !(listed.setIfInBounds i true).getD j true)).length < (rs.filter (fun j => !listed.getD j true)).length := by
            have hsub : rs.filter (fun j => !(listed.setIfInBounds i true).getD j true) = (rs.filter (fun j => !listed.getD j true)).filter (fun j => j != i) := by
              rw [List.filter_filter]
              refine List.filter_congr (fun j hj => ?_)
              by_cases hji : j = i
              · subst hji
                have : j < listed.size := by omega
                simp [Array.getD, this]
              · rw [getD_set_ne true (Ne.symm hji)]
                simp [hji]
            rw [hsub]
            have hmem : i ∈ rs.filter (fun j => !listed.getD j true) := List.mem_filter.2 ⟨hir, by rw [hu]; rfl⟩
            exact (List.length_filter_lt_length_iff_exists (p := fun j => j != i) (l := _)).2 ⟨i, hmem, by simp⟩
          omega
        · intro j hj hju
          by_cases hji : j = i
          · subst hji; simpa [upd] using hVi
          · rw [getD_set_ne true (Ne.symm hji)] at hju
            have hjl : j < ops.length := by
              by_cases h : j < ops.length
              · exact h
              · rw [List.all_eq_true] at hlen
                exact absurd (by simpa using hlen j hj) h
            have hfo : follows ops i j = false := by
              cases hf : follows ops i j with
              | false => rfl
              | true =>
                exfalso
                have := hcl j i hf hju hjl
                rw [hu] at this; cases this
            have := hst i hir j hj hji hfo _ _ _ hR (hV j hj hju)
            simpa [upd, hji] using this
        · intro k hk hku
          by_cases hki : k = i
          · subst hki
            have : k < listed.size := by omega
            simp [Array.getD, this] at hku
          · rw [getD_set_ne true (Ne.symm hki)] at hku
            exact hun i hir k hk hki _ _ hR (hU k hk hku)
        · intro k j hkj hku hk
          by_cases hji : j = i
          · subst hji
            have : j < listed.size := by omega
            simp [Array.getD, this]
          · rw [getD_set_ne true (Ne.symm hji)]
            by_cases hki : k = i
            · subst hki
              rw [follows, ho] at hkj
              dsimp only at hkj
              rw [Array.any_eq_true] at hkj
              obtain ⟨m, hm, he⟩ := hkj
              rw [Bool.and_eq_true, beq_iff_eq] at he
              simp only [List.getElem?_toArray, List.getElem?_eq_getElem hil, Option.map_some, Option.getD_some] at haf
              rw [Array.all_eq_true] at haf
              have h2 := haf m hm
              rw [he.1, he.2] at h2
              simp only [Bool.not_true, Bool.false_or] at h2
              by_cases hl : j < listed.size
              · simp only [Array.getD, hl, dite_true] at h2 ⊢
                exact h2
              · simp [Array.getD, hl]
            · rw [getD_set_ne true (Ne.symm hki)] at hku
              exact hcl k j hkj hku hk
      · rw [waits, Bool.and_eq_true, Array.any_eq_true] at hj
        obtain ⟨hjr, k, hk, he⟩ := hj
        rw [Bool.and_eq_true, beq_iff_eq] at he
        have hjr' : j ∈ rs := by rw [← hr]; simpa using hjr
        refine hV j hjr' ?_
        simp only [List.getElem?_toArray, List.getElem?_eq_getElem hil, Option.map_some, Option.getD_some] at haf
        rw [Array.all_eq_true] at haf
        have h2 := haf k hk
        rw [he.1, he.2] at h2
        simp only [Bool.not_true, Bool.false_or] at h2
        cases hd : listed.getD j true with
        | true => rfl
        | false =>
          exfalso
          by_cases hl : j < listed.size
          · simp only [Array.getD, hl, dite_true] at h2 hd
            rw [hd] at h2; cases h2
          · simp [Array.getD, hl] at hd
      · have hk2 : k < ops.length := by
          by_cases h : k < ops.length
          · exact h
          · rw [follows, nth_eq] at hk
            simp [h] at hk
        refine hU k hk2 ?_
        cases hd : listed.getD k true with
        | false => rfl
        | true =>
          exfalso
          have := hcl k i hk hd hk2
          rw [hu] at this; cases this
def inCk (ops : List Oper) (rest : List (Nat × Option Tmp)) : Bool :=
  backB ops && apartAll ops (rest.map (·.1)) && (rest.all fun p => dstAt ops p.1 == p.2) && ((List.range ops.length).all fun j => (rest.map (·.1)).contains j) && decide (rest.length ≤ ops.length) && rest.all fun p => decide (p.1 < ops.length)
/-- The beginning; what an operation tells need not stay while what it waits for comes up. -/
theorem wpIn_region_valsF {id : Nat} (S : World → Prop) (R : Nat → World → World → Prop) (V : Nat → Value → World → Prop) (U : Nat → World → Prop) (rest : List (Nat × Option Tmp)) (hm : P.follows .mixedOrders = true)
    (hck : inCk ops rest = true) (hS : S w.drew) (hU : ∀ k, k < ops.length → U k w.drew)
    (hst : ∀ i ∈ rest.map (·.1), ∀ j ∈ rest.map (·.1), j ≠ i → follows ops i j = false → ∀ v w w', R i w w' → V j v w → V j v w')
    (hun : ∀ i ∈ rest.map (·.1), ∀ k, k < ops.length → k ≠ i → ∀ w w', R i w w' → U k w → U k w')
    (hstep : ∀ i ∈ rest.map (·.1), StepInU F n P ops Q S R V U rest a i)
    (hfin : ∀ (x : Nat → Value) (w : World), S w → (∀ i ∈ rest.map (·.1), V i (x i) w) → Q .normal (putD rest x a) w) :
    (Code.region id ops.toArray true).wpIn F n P Q a w := by
  simp only [inCk, Bool.and_eq_true, decide_eq_true_eq] at hck
  obtain ⟨⟨⟨⟨⟨c1, c2⟩, c3⟩, c4⟩, c5⟩, c6⟩ := hck
  have c7 : ((rest.map (·.1)).all fun j => decide (j < ops.length)) = true := by
    rw [List.all_map]; exact c6
  refine wpIn_region_any hm ?_
  have hrep : Array.replicate ops.toArray.size false = blank ops.length := by rw [List.size_toArray]; rfl
  rw [hrep]
  have put_own : ∀ (d : Option Tmp) (b : Act), ∃ v, b.put d v = b := by
    intro d b
    cases d with
    | none => exact ⟨undef, rfl⟩
    | some d =>
      by_cases hd : d < b.tmps.size
      · refine ⟨b.tmps[d], ?_⟩
        simp only [Act.put]
        have : b.tmps.setIfInBounds d b.tmps[d] = b.tmps := by
          rw [Array.setIfInBounds, dif_pos hd]; simp
        rw [this]
      · refine ⟨undef, ?_⟩
        simp only [Act.put]
        rw [Array.setIfInBounds_eq_of_size_le (Nat.le_of_not_lt hd)]
  have key : ∀ (r : List Nat), apartAll ops r = true → ∃ x, putAll ops r x a = a := by
    intro r
    induction r with
    | nil => intro _; exact ⟨fun _ => undef, rfl⟩
    | cons i r ih =>
      intro hr
      rw [apartAll, Bool.and_eq_true, List.all_eq_true] at hr
      obtain ⟨h1, h2⟩ := hr
      obtain ⟨x, hx⟩ := ih h2
      obtain ⟨v, hv⟩ := put_own (dstAt ops i) a
      refine ⟨upd x i v, ?_⟩
      have h3 : ∀ k ∈ r, k ≠ i := fun k hk => by
        have := h1 k hk
        rw [Bool.and_eq_true] at this
        simpa using this.1
      rw [putAll, putAll_not ops r x i v _ h3]
      simp only [upd, if_true, hv, hx]
  obtain ⟨x, hx⟩ := key _ c2
  rw [putD_eq c3] at hx
  have h := anyIn_rest (n := n) (F := F) (P := P) c1 c2 c3 c4 c7 hst hun hstep hfin ops.toArray.size (blank ops.length) x w.drew (by simp [blank]) (by
    refine Nat.le_trans (List.length_filter_le _ _) ?_
    rw [List.length_map, List.size_toArray]; exact c5) hS (fun j hj hu => by
      exfalso
      obtain ⟨p, hp, rfl⟩ := List.mem_map.1 hj
      rw [List.all_eq_true] at c6
      have h1 : p.1 < ops.length := by simpa using c6 p hp
      simp [blank, Array.getD, h1] at hu) (fun k hk _ => hU k hk) (fun k j _ hku hk => by
      exfalso
      simp [blank, Array.getD, hk] at hku)
  rw [hx] at h
  exact h
/-- The beginning. -/
theorem wpIn_region_valsU {id : Nat} (S : World → Prop) (R : Nat → World → World → Prop) (V : Nat → Value → World → Prop) (U : Nat → World → Prop) (rest : List (Nat × Option Tmp)) (hm : P.follows .mixedOrders = true)
    (hck : inCk ops rest = true) (hS : S w.drew) (hU : ∀ k, k < ops.length → U k w.drew)
    (hst : ∀ i ∈ rest.map (·.1), ∀ j ∈ rest.map (·.1), j ≠ i → ∀ v w w', R i w w' → V j v w → V j v w')
    (hun : ∀ i ∈ rest.map (·.1), ∀ k, k < ops.length → k ≠ i → ∀ w w', R i w w' → U k w → U k w')
    (hstep : ∀ i ∈ rest.map (·.1), StepInU F n P ops Q S R V U rest a i)
    (hfin : ∀ (x : Nat → Value) (w : World), S w → (∀ i ∈ rest.map (·.1), V i (x i) w) → Q .normal (putD rest x a) w) :
    (Code.region id ops.toArray true).wpIn F n P Q a w :=
  wpIn_region_valsF S R V U rest hm hck hS hU (fun i hi j hj h _ => hst i hi j hj h) hun hstep hfin
/-- The beginning, without U. -/
theorem wpIn_region_vals {id : Nat} (S : World → Prop) (R : Nat → World → World → Prop) (V : Nat → Value → World → Prop) (rest : List (Nat × Option Tmp)) (hm : P.follows .mixedOrders = true)
    (hck : inCk ops rest = true) (hS : S w.drew)
    (hst : ∀ i ∈ rest.map (·.1), ∀ j ∈ rest.map (·.1), j ≠ i → ∀ v w w', R i w w' → V j v w → V j v w')
    (hstep : ∀ i ∈ rest.map (·.1), StepIn F n P ops Q S R V rest a i)
    (hfin : ∀ (x : Nat → Value) (w : World), S w → (∀ i ∈ rest.map (·.1), V i (x i) w) → Q .normal (putD rest x a) w) :
    (Code.region id ops.toArray true).wpIn F n P Q a w :=
  wpIn_region_valsU S R V (fun _ _ => True) rest hm hck hS (fun _ _ => trivial) hst (fun _ _ _ _ _ _ _ _ _ => trivial) (fun i hi o ho x w hS hd _ _ => hstep i hi o ho x w hS hd) hfin
/-- One operation, walked as a list of one; what holds as long as those that wait for it have not come up. -/
theorem stepInU_list {R : Nat → World → World → Prop} {V : Nat → Value → World → Prop} {U : Nat → World → Prop} {rest : List (Nat × Option Tmp)} {i : Nat} {o : Oper} (ho : nth ops i = some o)
    (h : ∀ (x : Nat → Value) (w : World), S w → (∀ j, waits (rest.map (·.1)) o j = true → V j (x j) w) → U i w → (∀ k, follows ops i k = true → U k w) → ∀ K : Act → World → Prop, Shut (∀ v w', S w' → R i w w' → V i v w' → K ((putD rest x a).put o.dst v) w') →
      wpListIn F n P ops.toArray (Exit.then K Q) [o] (putD rest x a) w) : StepInU F n P ops Q S R V U rest a i := by
  intro o' ho' x w hS hd h1 h2
  rw [ho] at ho'
  cases ho'
  exact wpOpIn_list ho (h x w hS hd h1 h2 _ (fun v w' g1 g2 g3 => ⟨v, rfl, g1, g2, g3⟩))
/-- One operation, walked as a list of one. -/
theorem stepIn_list {R : Nat → World → World → Prop} {V : Nat → Value → World → Prop} {rest : List (Nat × Option Tmp)} {i : Nat} {o : Oper} (ho : nth ops i = some o)
    (h : ∀ (x : Nat → Value) (w : World), S w → (∀ j, waits (rest.map (·.1)) o j = true → V j (x j) w) → ∀ K : Act → World → Prop, Shut (∀ v w', S w' → R i w w' → V i v w' → K ((putD rest x a).put o.dst v) w') →
      wpListIn F n P ops.toArray (Exit.then K Q) [o] (putD rest x a) w) : StepIn F n P ops Q S R V rest a i := by
  intro o' ho' x w hS hd
  rw [ho] at ho'
  cases ho'
  exact wpOpIn_list ho (h x w hS hd _ (fun v w' g1 g2 g3 => ⟨v, rfl, g1, g2, g3⟩))
end
end Go.Proofs.Ythhgcfklaakndaa
