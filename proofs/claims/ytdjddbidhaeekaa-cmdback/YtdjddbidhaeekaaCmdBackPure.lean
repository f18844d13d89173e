/-
  What CmdBack says, in plain Lean: a batch's bytes are read as it; bytes that are read are a batch's own; one byte less, one byte more.
-/
import Derived.Test.YtdjddbidhaeekaaCmdRParse
import Derived.Test.YtdjddbidhaeekaaWireGood
namespace Go.Proofs.Ytdjddbidhaeekaa
open Go.RowKit Go.WideShapes
namespace Cm
open Wire
/-- A command's bytes but for the last one. -/
def body (x : Cm) : List UInt8 := UInt8.ofNat x.cl :: (numB x.sq ++ UInt8.ofNat x.kd :: (strB x.key.data.toList ++ (strB x.old.data.toList ++ strB x.new.data.toList)))
theorem body_end (x : Cm) : x.bytes = x.body ++ [UInt8.ofNat x.set] := by simp [bytes, body]
theorem byte_of (n : Nat) (h : n ≤ 255) (t : List UInt8) : byteR ⟨UInt8.ofNat n :: t, 0⟩ = (n, ⟨t, 0⟩) := by
  rw [byte_some, UInt8.toNat_ofNat']; congr 1; omega
theorem raw_own (x : Cm) (hok : x.ok) (hk : x.key.size ≤ 16) (ho : x.old.size ≤ 64) (hn : x.new.size ≤ 64) (r : List UInt8) : rawC ⟨x.bytes ++ r, 0⟩ = (x, ⟨r, 0⟩) := by
  obtain ⟨o1, o2, o3, o4, o5, o6, o7⟩ := hok
  have b1 := byte_of x.cl o1
  have b2 := byte_of x.kd o3
  have b3 := byte_of x.set o7
  have n1 := below_numB x.sq o2
  have z1 : x.key.data.toList.length = x.key.size := rfl
  have z2 : x.old.data.toList.length = x.old.size := rfl
  have z3 : x.new.data.toList.length = x.new.size := rfl
  have k1 := fun t => strR_own x.key.data.toList t 16 (by omega) (by omega)
  have k2 := fun t => strR_own x.old.data.toList t 64 (by omega) (by omega)
  have k3 := fun t => strR_own x.new.data.toList t 64 (by omega) (by omega)
  unfold rawC bytes
  simp only [List.cons_append, List.append_assoc, List.nil_append, b1, n1, b2, k1, k2, k3, b3, bs_list]
theorem raw_short (x : Cm) (hok : x.ok) (hk : x.key.size ≤ 16) (ho : x.old.size ≤ 64) (hn : x.new.size ≤ 64) : (rawC ⟨x.body, 0⟩).2 = ⟨[], 3⟩ := by
  obtain ⟨o1, o2, o3, o4, o5, o6, o7⟩ := hok
  have b1 := byte_of x.cl o1
  have b2 := byte_of x.kd o3
  have n1 := below_numB x.sq o2
  have z1 : x.key.data.toList.length = x.key.size := rfl
  have z2 : x.old.data.toList.length = x.old.size := rfl
  have z3 : x.new.data.toList.length = x.new.size := rfl
  have k1 := fun t => strR_own x.key.data.toList t 16 (by omega) (by omega)
  have k2 := fun t => strR_own x.old.data.toList t 64 (by omega) (by omega)
  have k3 := strR_own x.new.data.toList [] 64 (by omega) (by omega)
  rw [List.append_nil] at k3
  unfold rawC body
  simp only [b1, n1, b2, k1, k2, k3, byte_none]
theorem take_own (x : Cm) (hok : x.ok) (h : x.may) (r : List UInt8) : takeC ⟨x.bytes ++ r, 0⟩ = (x, ⟨r, 0⟩) := by
  have e := raw_own x hok h.2.2.2.1 h.2.2.2.2.1 h.2.2.2.2.2.1 r
  have l : leftC ⟨x.bytes ++ r, 0⟩ = ⟨r, 0⟩ := by unfold leftC; rw [e]; exact if_pos h
  unfold takeC
  rw [l, e]
  rfl
theorem take_short_c (x : Cm) (hok : x.ok) (h : x.may) : (takeC ⟨x.body, 0⟩).2 = ⟨[], 3⟩ := by
  have e := raw_short x hok h.2.2.2.1 h.2.2.2.2.1 h.2.2.2.2.2.1
  rw [take_snd]
  rcases left_cases ⟨x.body, 0⟩ with h1 | h1
  · rw [h1, e]
  · rw [h1, e]; rfl
def good (l : List Cm) : Prop := ∀ x ∈ l, x.ok ∧ x.may
theorem docC_own (l : List Cm) (hl : good l) (r : List UInt8) : ∀ k, k ≤ l.length → docC ⟨l.flatMap bytes ++ r, 0⟩ k = (l.take k, ⟨(l.drop k).flatMap bytes ++ r, 0⟩)
  | 0, _ => by simp [docC]
  | k + 1, hk => by
    have ih := docC_own l hl r k (by omega)
    have hd : l.drop k = l[k] :: l.drop (k + 1) := List.drop_eq_getElem_cons (by omega)
    obtain ⟨h1, h2⟩ := hl l[k] (List.getElem_mem _)
    rw [docC_succ, ih]
    simp only [if_true]
    rw [hd, List.flatMap_cons, List.append_assoc, take_own _ h1 h2]
    simp only
    rw [List.take_succ_eq_append_getElem (by omega)]
theorem docC_whole (l : List Cm) (hl : good l) (r : List UInt8) : docC ⟨l.flatMap bytes ++ r, 0⟩ l.length = (l, ⟨r, 0⟩) := by
  rw [docC_own l hl r l.length (Nat.le_refl _)]
  simp
theorem docC_short (l : List Cm) (x : Cm) (hl : good (l ++ [x])) : (docC ⟨l.flatMap bytes ++ x.body, 0⟩ (l.length + 1)).2 = ⟨[], 3⟩ := by
  have h0 : good l := fun y hy => hl y (List.mem_append_left _ hy)
  obtain ⟨h1, h2⟩ := hl x (by simp)
  rw [docC_succ, docC_whole l h0]
  simp only [if_true]
  exact take_short_c x h1 h2
theorem batch_own (l : List Cm) (h0 : l ≠ []) (h : (batchR l).2 = 0) : l.length ≤ 4 ∧ (∀ x ∈ l, x.may) ∧ (batchR l).1 = UInt8.ofNat l.length :: l.flatMap bytes := by
  unfold batchR at h ⊢
  rw [if_neg h0] at h ⊢
  by_cases hc : l.length ≤ 4 ∧ ∀ x ∈ l, x.may
  · rw [if_pos hc]; exact ⟨hc.1, hc.2, rfl⟩
  · rw [if_neg hc] at h; simp at h
theorem batch_err (l : List Cm) : (batchR l).2 = 0 ∨ (batchR l).2 = 2 := by
  unfold batchR
  split
  · exact .inl rfl
  · split
    · exact .inl rfl
    · exact .inr rfl
theorem parse_count (s : List UInt8) (h0 : s ≠ []) (n : Nat) (S0 : R) (hb : byteR ⟨s, 0⟩ = (n, S0)) (hn : ¬ (n = 0 ∨ 4 < n)) :
    parseR s = if (endR (docC S0 n).2).e = 0 then ((docC S0 n).1, 0) else ([], (endR (docC S0 n).2).e) := by
  have hh : headR s = (n, S0) := by unfold headR; rw [hb]; exact if_neg hn
  unfold parseR; rw [if_neg h0, hh]
/-- What was put together is parsed. -/
theorem parse_own (l : List Cm) (hok : ∀ x ∈ l, x.ok) (h : (batchR l).2 = 0) : parseR (batchR l).1 = (l, 0) := by
  by_cases h0 : l = []
  · subst h0; rfl
  · obtain ⟨h1, h2, h3⟩ := batch_own l h0 h
    have hp := List.length_pos_iff.2 h0
    rw [h3, parse_count _ (by simp) l.length ⟨l.flatMap bytes, 0⟩ (byte_of _ (by omega) _) (by omega)]
    have hd := docC_whole l (fun x hx => ⟨hok x hx, h2 x hx⟩) []
    rw [List.append_nil] at hd
    rw [hd]
    rfl
/-- With one byte more something is left. -/
theorem parse_more (l : List Cm) (hok : ∀ x ∈ l, x.ok) (h : (batchR l).2 = 0) : parseR ((batchR l).1 ++ [0]) = ([], 4) := by
  by_cases h0 : l = []
  · subst h0; rfl
  · obtain ⟨h1, h2, h3⟩ := batch_own l h0 h
    have hp := List.length_pos_iff.2 h0
    rw [h3, List.cons_append, parse_count _ (by simp) l.length ⟨l.flatMap bytes ++ [0], 0⟩ (byte_of _ (by omega) _) (by omega)]
    rw [docC_whole l (fun x hx => ⟨hok x hx, h2 x hx⟩) [0]]
    rfl
/-- Without its last byte it ends too soon. -/
theorem parse_less (l : List Cm) (hok : ∀ x ∈ l, x.ok) (h0 : l ≠ []) (h : (batchR l).2 = 0) : parseR ((batchR l).1.take ((batchR l).1.length - 1)) = ([], 3) := by
  obtain ⟨h1, h2, h3⟩ := batch_own l h0 h
  have hp := List.length_pos_iff.2 h0
  obtain ⟨l', x, rfl⟩ : ∃ l' x, l = l' ++ [x] := ⟨l.dropLast, l.getLast h0, (List.dropLast_concat_getLast h0).symm⟩
  have e : (batchR (l' ++ [x])).1.take ((batchR (l' ++ [x])).1.length - 1) = UInt8.ofNat (l' ++ [x]).length :: (l'.flatMap bytes ++ x.body) := by
    rw [← List.dropLast_eq_take, h3, List.flatMap_append, List.flatMap_singleton, body_end, ← List.append_assoc, ← List.cons_append, List.dropLast_concat]
  rw [e, parse_count _ (by simp) (l' ++ [x]).length ⟨l'.flatMap bytes ++ x.body, 0⟩ (byte_of _ (by omega) _) (by omega)]
  have hd := docC_short l' x (fun y hy => ⟨hok y hy, h2 y hy⟩)
  rw [show (l' ++ [x]).length = l'.length + 1 by simp, hd]
  rfl
/-- Two batches have the same bytes just if they are the same. -/
theorem batch_inj (l m : List Cm) (hl : ∀ x ∈ l, x.ok) (hm : ∀ x ∈ m, x.ok) (h1 : (batchR l).2 = 0) (h2 : (batchR m).2 = 0) (e : (batchR l).1 = (batchR m).1) : l = m := by
  have a := parse_own l hl h1
  have b := parse_own m hm h2
  rw [e, b] at a
  exact (congrArg Prod.fst a).symm
theorem raw_good (s : R) (h : (rawC s).2.e = 0) : s.e = 0 ∧ s.rest = (rawC s).1.bytes ++ (rawC s).2.rest := by
  obtain ⟨S1, h1⟩ : ∃ S, (byteR s).2 = S := ⟨_, rfl⟩
  obtain ⟨S2, h2⟩ : ∃ S, (belowR S1 4294967296).2 = S := ⟨_, rfl⟩
  obtain ⟨S3, h3⟩ : ∃ S, (byteR S2).2 = S := ⟨_, rfl⟩
  obtain ⟨S4, h4⟩ : ∃ S, (strR S3 16).2 = S := ⟨_, rfl⟩
  obtain ⟨S5, h5⟩ : ∃ S, (strR S4 64).2 = S := ⟨_, rfl⟩
  obtain ⟨S6, h6⟩ : ∃ S, (strR S5 64).2 = S := ⟨_, rfl⟩
  have hr : rawC s = (⟨(byteR s).1, (belowR S1 4294967296).1, (byteR S2).1, bs (strR S3 16).1, bs (strR S4 64).1, bs (strR S5 64).1, (byteR S6).1⟩, (byteR S6).2) := by
    unfold rawC
    rw [h1, h2, h3, h4, h5, h6]
  rw [hr] at h ⊢
  dsimp only at h ⊢
  obtain ⟨a6, b6⟩ := byte_good S6 h
  rw [← h6] at a6
  obtain ⟨a5, b5⟩ := str_good S5 64 a6
  rw [← h5] at a5
  obtain ⟨a4, b4⟩ := str_good S4 64 a5
  rw [← h4] at a4
  obtain ⟨a3, b3⟩ := str_good S3 16 a4
  rw [← h3] at a3
  obtain ⟨a2, b2⟩ := byte_good S2 a3
  rw [← h2] at a2
  obtain ⟨a1, r, b1, c1⟩ := below_good S1 4294967296 a2
  rw [← h1] at a1
  obtain ⟨a0, b0⟩ := byte_good s a1
  refine ⟨a0, ?_⟩
  rw [h1] at b0
  rw [h2] at c1
  rw [h3] at b2
  rw [h4] at b3
  rw [h5] at b4
  rw [h6] at b5
  rw [b0, b1, show r = S2.rest by rw [c1], b2, b3, b4, b5, b6]
  unfold bytes
  simp only [bs_data, List.cons_append, List.append_assoc, List.nil_append]
theorem raw_ok (s : R) : (rawC s).1.ok := by
  unfold rawC ok
  dsimp only
  have h1 := belowR_lt (byteR s).2 4294967296 (by decide)
  have k1 := strR_le (byteR (belowR (byteR s).2 4294967296).2).2 16
  have k2 := strR_le (strR (byteR (belowR (byteR s).2 4294967296).2).2 16).2 64
  have k3 := strR_le (strR (strR (byteR (belowR (byteR s).2 4294967296).2).2 16).2 64).2 64
  have z1 := byteR_lt s
  have z2 := byteR_lt (belowR (byteR s).2 4294967296).2
  have z3 := byteR_lt (strR (strR (strR (byteR (belowR (byteR s).2 4294967296).2).2 16).2 64).2 64).2
  rw [bs_size, bs_size, bs_size]
  generalize (byteR s).1 = n1 at *
  refine ⟨by omega, by omega, by omega, by omega, by omega, by omega, by omega⟩
theorem take_back (s : R) (h : (takeC s).2.e = 0) : s.e = 0 ∧ s.rest = (takeC s).1.bytes ++ (takeC s).2.rest ∧ (takeC s).1.ok ∧ (takeC s).1.may := by
  rw [take_snd] at h
  have hm : (rawC s).1.may ∧ (rawC s).2.e = 0 := by
    unfold leftC at h
    by_cases hc : (rawC s).1.may
    · rw [if_pos hc] at h; exact ⟨hc, h⟩
    · rw [if_neg hc] at h
      unfold badR at h
      split at h
      · simp at h
      · contradiction
  have hl : leftC s = (rawC s).2 := if_pos hm.1
  obtain ⟨g1, g2⟩ := raw_good s hm.2
  have ht : takeC s = ((rawC s).1, (rawC s).2) := by
    unfold takeC
    rw [if_pos h, hl]
  have ho := raw_ok s
  rw [ht]
  clear ht hl h
  generalize rawC s = P at g1 g2 ho hm ⊢
  exact ⟨g1, g2, ho, hm.1⟩
theorem docC_good (s : R) (k : Nat) : (docC s k).2.e = 0 → s.e = 0 ∧ s.rest = (docC s k).1.flatMap bytes ++ (docC s k).2.rest ∧ (docC s k).1.length = k ∧ good (docC s k).1 := by
  induction k with
  | zero => exact fun h => ⟨h, rfl, rfl, fun x hx => by simp [docC] at hx⟩
  | succ k ih =>
    rw [docC_succ]
    generalize docC s k = D at ih ⊢
    obtain ⟨L, S⟩ := D
    dsimp only at ih ⊢
    by_cases he : S.e = 0
    · rw [if_pos he]
      intro h
      dsimp only at h ⊢
      obtain ⟨i1, i2, i3, i4⟩ := ih he
      obtain ⟨t1, t2, t3, t4⟩ := take_back S h
      refine ⟨i1, ?_, by simp [i3], ?_⟩
      · rw [List.flatMap_append, List.flatMap_singleton, List.append_assoc, ← t2]; exact i2
      · intro x hx
        rcases List.mem_append.1 hx with hx | hx
        · exact i4 x hx
        · rw [List.mem_singleton] at hx; rw [hx]; exact ⟨t3, t4⟩
    · rw [if_neg he]; exact fun h => absurd h he
/-- Bytes that are parsed are put together as themselves. -/
theorem parse_good (s : List UInt8) (h : (parseR s).2 = 0) : batchR (parseR s).1 = (s, 0) ∧ ∀ x ∈ (parseR s).1, x.ok := by
  by_cases h0 : s = []
  · subst h0; exact ⟨rfl, fun x hx => by simp [parseR] at hx⟩
  · obtain ⟨c, t, rfl⟩ := List.exists_cons_of_ne_nil h0
    have hb := byte_some c t
    by_cases hn : c.toNat = 0 ∨ 4 < c.toNat
    · rw [parse_form _ h0 _ _ hb hn] at h; simp at h
    · have hp := parse_count _ h0 _ _ hb hn
      by_cases he : (endR (docC ⟨t, 0⟩ c.toNat).2).e = 0
      · rw [if_pos he] at hp
        rw [hp]
        obtain ⟨e1, e2⟩ := end_good _ he
        obtain ⟨d1, d2, d3, d4⟩ := docC_good ⟨t, 0⟩ c.toNat e1
        rw [e2, List.append_nil] at d2
        dsimp only at d2 ⊢
        refine ⟨?_, fun x hx => (d4 x hx).1⟩
        unfold batchR
        rw [if_neg (by intro e; rw [e] at d3; simp at d3; omega), if_pos ⟨by omega, fun x hx => (d4 x hx).2⟩, d3, ← d2, UInt8.ofNat_toNat]
      · rw [if_neg he] at hp; rw [hp] at h; exact absurd h he
/-- The errors that there are. -/
def errs (s : R) : Prop := s.e = 0 ∨ s.e = 3 ∨ s.e = 4
theorem takeR_errs (s : R) (n : Nat) (h : errs s) : errs (takeR s n).2 := by
  unfold takeR
  split
  · exact h
  · split
    · exact .inr (.inl rfl)
    · exact .inl rfl
theorem byteR_errs (s : R) (h : errs s) : errs (byteR s).2 := takeR_errs s 1 h
theorem numR_errs (s : R) (h : errs s) : errs (numR s).2 := by
  unfold numR
  split
  · exact byteR_errs s h
  · split
    · exact .inr (.inr rfl)
    · exact takeR_errs _ _ (byteR_errs s h)
theorem belowR_errs (s : R) (n : Nat) (h : errs s) : errs (belowR s n).2 := by
  unfold belowR
  split
  · exact numR_errs s h
  · split
    · exact numR_errs s h
    · exact .inr (.inr rfl)
theorem strR_errs (s : R) (n : Nat) (h : errs s) : errs (strR s n).2 := by
  unfold strR
  refine takeR_errs _ _ ?_
  unfold belR
  split
  · exact numR_errs s h
  · split
    · exact .inr (.inr rfl)
    · exact numR_errs s h
theorem badR_errs (s : R) (h : errs s) : errs (badR s) := by
  unfold badR
  split
  · exact .inr (.inr rfl)
  · exact h
theorem endR_errs (s : R) (h : errs s) : errs (endR s) := by
  unfold endR
  split
  · exact .inr (.inr rfl)
  · exact h
theorem raw_errs (s : R) (h : errs s) : errs (rawC s).2 := by
  have g1 := byteR_errs s h
  obtain ⟨S1, h1⟩ : ∃ S, (byteR s).2 = S := ⟨_, rfl⟩
  rw [h1] at g1
  have g2 := belowR_errs S1 4294967296 g1
  obtain ⟨S2, h2⟩ : ∃ S, (belowR S1 4294967296).2 = S := ⟨_, rfl⟩
  rw [h2] at g2
  have g3 := byteR_errs S2 g2
  obtain ⟨S3, h3⟩ : ∃ S, (byteR S2).2 = S := ⟨_, rfl⟩
  rw [h3] at g3
  have g4 := strR_errs S3 16 g3
  obtain ⟨S4, h4⟩ : ∃ S, (strR S3 16).2 = S := ⟨_, rfl⟩
  rw [h4] at g4
  have g5 := strR_errs S4 64 g4
  obtain ⟨S5, h5⟩ : ∃ S, (strR S4 64).2 = S := ⟨_, rfl⟩
  rw [h5] at g5
  have g6 := strR_errs S5 64 g5
  obtain ⟨S6, h6⟩ : ∃ S, (strR S5 64).2 = S := ⟨_, rfl⟩
  rw [h6] at g6
  have g7 := byteR_errs S6 g6
  have hr : (rawC s).2 = (byteR S6).2 := by
    unfold rawC
    rw [h1, h2, h3, h4, h5, h6]
  rw [hr]
  exact g7
theorem take_errs (s : R) (h : errs s) : errs (takeC s).2 := by
  rw [take_snd]
  rcases left_cases s with e | e <;> rw [e]
  · exact raw_errs s h
  · exact badR_errs _ (raw_errs s h)
theorem docC_errs (s : R) (h : errs s) (k : Nat) : errs (docC s k).2 := by
  induction k with
  | zero => exact h
  | succ k ih =>
    rw [docC_succ]
    generalize docC s k = D at ih ⊢
    by_cases he : D.2.e = 0
    · rw [if_pos he]; exact take_errs _ ih
    · rw [if_neg he]; exact ih
theorem parse_bad (s : List UInt8) (h : (parseR s).2 ≠ 0) : (parseR s).1 = [] ∧ ((parseR s).2 = 3 ∨ (parseR s).2 = 4) := by
  by_cases h0 : s = []
  · subst h0; exact absurd rfl h
  · obtain ⟨c, t, rfl⟩ := List.exists_cons_of_ne_nil h0
    have hb := byte_some c t
    by_cases hn : c.toNat = 0 ∨ 4 < c.toNat
    · rw [parse_form _ h0 _ _ hb hn]; exact ⟨rfl, .inr rfl⟩
    · have hp := parse_count _ h0 _ _ hb hn
      by_cases he : (endR (docC ⟨t, 0⟩ c.toNat).2).e = 0
      · rw [if_pos he] at hp; rw [hp] at h; exact absurd rfl h
      · rw [if_neg he] at hp
        rw [hp]
        refine ⟨rfl, ?_⟩
        rcases endR_errs _ (docC_errs ⟨t, 0⟩ (.inl rfl) c.toNat) with e | e
        · exact absurd e he
        · exact e
end Cm
end Go.Proofs.Ytdjddbidhaeekaa
