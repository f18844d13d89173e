/-
  The reference's lists of nodes (palaverref08), walked: Has, Set, List, Pick, Major, May answer their plain lists.
-/
import Derived.Test.YthhgcfklaakndaaBase
import Derived.Test.YthhgcfklaakndaaMemPure
namespace Go.Proofs.Ythhgcfklaakndaa
open Go.RowKit
namespace R8

def listN (s : Nat) : List Nat := (List.range 7).filter fun i => s.testBit i
def hasN (l : List Nat) (n : Nat) : Bool := l.contains n
def setN (l : List Nat) : Nat := ((List.range 7).map fun n => if hasN l n then 2 ^ n else 0).sum
def pickN (a b : List Nat) (t : Bool) : List Nat := a.filter fun x => hasN b x == t
def setTo (l : List Nat) (k : Nat) : Nat := ((List.range k).map fun n => if hasN l n then 2 ^ n else 0).sum
def listTo (s k : Nat) : List Nat := (List.range k).filter fun i => s.testBit i
theorem setTo_succ (l : List Nat) (k : Nat) : setTo l (k + 1) = setTo l k + if hasN l k then 2 ^ k else 0 := by simp [setTo, List.range_succ]
theorem listTo_succ (s k : Nat) : listTo s (k + 1) = listTo s k ++ if s.testBit k then [k] else [] := by
  simp only [listTo, List.range_succ, List.filter_append, List.filter_cons, List.filter_nil]
theorem setTo_lt (l : List Nat) (k : Nat) : setTo l k < 2 ^ k := by
  induction k with
  | zero => simp [setTo]
  | succ k ih => rw [setTo_succ, Nat.pow_succ]; split <;> omega
theorem listTo_len (s k : Nat) : (listTo s k).length ≤ k := by
  have := List.length_filter_le (fun i => s.testBit i) (List.range k); simpa [listTo] using this
theorem listTo_lt (s k : Nat) : ∀ x ∈ listTo s k, x < k := by intro x hx; simp [listTo] at hx; exact hx.1
theorem pick_len (a b : List Nat) (t : Bool) : (pickN a b t).length ≤ a.length := List.length_filter_le _ _
theorem pick_mem (a b : List Nat) (t : Bool) : ∀ x ∈ pickN a b t, x ∈ a := fun _ h => (List.mem_filter.1 h).1
theorem pick_snoc (a b : List Nat) (x : Nat) (t : Bool) : pickN (a ++ [x]) b t = pickN a b t ++ if hasN b x == t then [x] else [] := by
  simp only [pickN, List.filter_append, List.filter_cons, List.filter_nil]
theorem contains_none (l : List Nat) (n : Nat) (h : ∀ x ∈ l, x ≠ n) : hasN l n = false := by
  cases hb : hasN l n
  · rfl
  · exact absurd rfl (h n (by simpa [hasN] using hb))

set_option maxHeartbeats 400000 in
theorem has_any (v : Value) (l : List Nat) (n : Int) (h0 : 0 ≤ n) (h1 : n ≤ 255) (w : World) (hv : RdB w v l) :
    Calls Try.prog 27 #[v, .int .u8 n] w fun e w' => e = .returned (.bool (hasN l n.toNat)) ∧ w = w' := by
  obtain ⟨p, cap, rfl, hb, hl, hc, _⟩ := hv
  go_enter Try.func27, Try.ntmps27
  go_wp2
  go_loop [5] (fun i => ∃ k : Nat, k ≤ l.length ∧ i = .int .i64 k ∧ ∀ x ∈ l.take k, x ≠ n.toNat) (fun i => l.length - (intOf i).toNat)
  case atStart => exact ⟨0, Nat.zero_le _, rfl, by simp⟩
  case round =>
    obtain ⟨k, hk, rfl, hne⟩ := hrel
    by_cases hlt : k < l.length
    · obtain ⟨b, off, rfl, hcell⟩ := hc k hlt
      rw [getD_at l k hlt] at hcell
      have ht := take_snoc l k hlt
      have hx := hb _ (List.getElem_mem hlt)
      have hmem : l[k] ∈ l := List.getElem_mem hlt
      generalize l[k] = x at hcell hx ht hmem
      have HT := Lib.hid ht
      have HN := Lib.hid hne
      clear ht hc hb hne
      by_cases hxn : (x : Int) = n
      · have hb := beq_iff_eq.2 hxn
        have HR := Lib.hid (show hasN l n.toNat = true by rw [← hxn]; simpa [hasN] using hmem)
        clear hxn hmem
        go_wp2
        go_ret
        exact ⟨by rw [HR.out]; rfl, rfl⟩
      · have hb := beq_eq_false_iff_ne.2 hxn
        clear hmem
        go_wp2
        go_round
        case rel => exact ⟨k + 1, by omega, by go_num, by rw [HT.out]; intro y hy; rcases List.mem_append.1 hy with h | h; exact HN.out y h; simp at h; omega⟩
        case measure => simp [intOf]; omega
    · have HR := Lib.hid (show hasN l n.toNat = false from contains_none _ _ (by rw [List.take_of_length_le (by omega)] at hne; exact hne))
      clear hc hne
      go_wp2
      go_ret
      exact ⟨by rw [HR.out]; rfl, rfl⟩
set_option maxHeartbeats 400000 in
theorem set_any (v : Value) (l : List Nat) (w : World) (hv : RdB w v l) :
    Calls Try.prog 29 #[v] w fun e w' => e = .returned (.int .u8 (setN l : Nat)) ∧ w = w' := by
  have HV := Lib.hid hv
  clear hv
  go_enter Try.func29, Try.ntmps29
  go_wp2
  go_loop [3, 4, 5] (fun s x i => ∃ k : Nat, k ≤ 7 ∧ i = .int .i64 k ∧ s = .int .i64 (setTo l k : Nat) ∧ x = .int .i64 (2 ^ k : Nat)) (fun _ _ i => 7 - (intOf i).toNat)
  case atStart => exact ⟨0, Nat.zero_le _, rfl, rfl, rfl⟩
  case round =>
    obtain ⟨k, hk, rfl, rfl, rfl⟩ := hrel
    have h1 := setTo_lt l k
    have HS := Lib.hid (setTo_succ l k)
    by_cases hlt : k < 7
    · have h2 : 2 ^ k ≤ 64 := by
        have : 2 ^ k ≤ 2 ^ 6 := Nat.pow_le_pow_right (by decide) (by omega)
        simpa using this
      have HP := Lib.hid (show 2 ^ (k + 1) = 2 * 2 ^ k by rw [Nat.pow_succ]; omega)
      generalize setTo l k = sk at h1 HS
      generalize 2 ^ k = pk at h1 h2 HS HP
      have hkw : IntKind.u8.wrap (k : Int) = k := by rw [IntKind.wrap_u8]; omega
      go_wp2_with fail
      refine (has_any _ l _ (by omega) (by omega) _ HV.out).mono ?_
      rintro e w' ⟨rfl, rfl⟩
      simp only [Int.toNat_natCast]
      cases hx : hasN l k
      · rw [hx] at HS
        go_wp2
        go_round
        case rel => exact ⟨k + 1, by omega, by go_num, by rw [HS.out]; rfl, by rw [HP.out]; go_num⟩
        case measure => simp [intOf]; omega
      · rw [hx] at HS
        go_wp2
        go_round
        case rel => exact ⟨k + 1, by omega, by go_num, by rw [HS.out]; simp, by rw [HP.out]; go_num⟩
        case measure => simp [intOf]; omega
    · obtain rfl : k = 7 := by omega
      have HF := Lib.hid (show setTo l 7 = setN l from rfl)
      have h8 : setTo l 7 < 128 := h1
      generalize setTo l 7 = sk at *
      clear h1 HS
      go_wp2
      go_ret
      exact ⟨by rw [← HF.out]; rfl, rfl⟩
theorem info : (Try.prog.info? 5).map (fun i => (i.zero, i.size, i.bytes)) = some (some (.int .u8 0), 1, 1) := by kernel_rfl
theorem bit_half (s k : Nat) : ((s / 2 ^ k : Nat) : Int) % 2 = if s.testBit k then 1 else 0 := by
  rw [Nat.testBit_eq_decide_div_mod_eq]
  generalize s / 2 ^ k = m
  by_cases h : m % 2 = 1
  · rw [decide_eq_true h, if_pos rfl]; omega
  · rw [decide_eq_false h, if_neg (by decide)]; omega
set_option maxHeartbeats 1000000 in
/-- The nodes of a set, as a fresh slice. -/
theorem list_any (s : Int) (h0 : 0 ≤ s) (h1 : s ≤ 255) (w : World) :
    Calls Try.prog 26 #[.int .u8 s] w fun e w' => ∃ v, e = .returned v ∧ w'.ownsRow w.heap.size 5 1 v (listN s.toNat).length (u8s (listN s.toNat)) ∧ Below w.heap.size w w' := by
  obtain ⟨n, rfl⟩ := Int.eq_ofNat_of_zero_le h0
  rw [Int.toNat_natCast]
  have hn : n < 256 := by omega
  clear h0 h1
  go_enter Try.func26, Try.ntmps26
  go_wp2
  go_loopw [0, 3, 4] (fun s v i wr => ∃ k : Nat, k ≤ 7 ∧ i = .int .i64 k ∧ s = .int .u8 (n / 2 ^ k : Nat) ∧ wr.ownsRow w.heap.size 5 1 v (listTo n k).length (u8s (listTo n k)) ∧ Below w.heap.size w wr) (fun _ _ i _ => 7 - (intOf i).toNat)
  case atStart => exact ⟨0, Nat.zero_le _, rfl, by simp, World.ownsRow_nil _ _ _ _, Below.refl _ _⟩
  case round =>
    obtain ⟨k, hk, rfl, rfl, hown, hbel⟩ := hrel
    by_cases hlt : k < 7
    · have hb := Lib.hid (bit_half n k)
      have hlen := listTo_len n k
      have hS := Lib.hid (listTo_succ n k)
      have hd : n / 2 ^ k < 256 := Nat.lt_of_le_of_lt (Nat.div_le_self _ _) hn
      have hd2 := Lib.hid (show n / 2 ^ (k + 1) = n / 2 ^ k / 2 by rw [Nat.pow_succ, Nat.div_div_eq_div_mul])
      generalize n / 2 ^ k = m at hb hd hd2
      have hkw : IntKind.u8.wrap (k : Int) = k := by rw [IntKind.wrap_u8]; omega
      have hbz := hbel.size
      cases hx : n.testBit k
      · rw [hx] at hb hS
        have h2 := beq_eq_false_iff_ne.2 (show (m : Int) % 2 ≠ 1 by have := hb.out; simp at this; omega)
        go_wp2
        go_roundw
        case rel => exact ⟨k + 1, by omega, by go_num, by rw [hd2.out]; go_num, by rw [hS.out]; simpa using hown, hbel⟩
        case measure => simp [intOf]; omega
      · rw [hx] at hb hS
        have h2 := beq_iff_eq.2 (show (m : Int) % 2 = 1 by have := hb.out; simp at this; omega)
        go_wp2_with (at_builtin; refine app1 rfl _ _ 22 rfl w.heap.size 5 (.int .u8 0) 1 info Try.underlying22 rfl _ _ _ rfl _ _ _ hown rfl _ (by simp) rfl (by omega) (by omega) (by omega) ?_; intro v' w1 hown1 hg)
        go_roundw
        case rel => exact ⟨k + 1, by omega, by go_num, by rw [hd2.out]; go_num, by rw [hS.out]; simpa [u8s] using hown1, below_grown hbel hown hg (by omega) (by omega)⟩
        case measure => simp [intOf]; omega
    · obtain rfl : k = 7 := by omega
      go_wp2
      go_ret
      exact ⟨_, rfl, hown, hbel⟩
set_option maxHeartbeats 1000000 in
/-- Those of one row that another one has, or has not, as a fresh slice. -/
theorem pick_any (va vb : Value) (a b : List Nat) (t : Bool) (w : World) (ha : RdB w va a) (hb : RdB w vb b) (hlen : a.length ≤ 1000000) :
    Calls Try.prog 33 #[va, vb, .bool t] w fun e w' => ∃ v, e = .returned v ∧ w'.ownsRow w.heap.size 5 1 v (pickN a b t).length (u8s (pickN a b t)) ∧ Below w.heap.size w w' := by
  have HB := Lib.hid hb
  have HA := Lib.hid ha
  obtain ⟨p, cap, rfl, hba, _, _⟩ := ha
  clear hb
  go_enter Try.func33, Try.ntmps33
  go_wp2
  go_loopw [7, 8] (fun v i wr => ∃ k : Nat, k ≤ a.length ∧ i = .int .i64 k ∧ wr.ownsRow w.heap.size 5 1 v (pickN (a.take k) b t).length (u8s (pickN (a.take k) b t)) ∧ Below w.heap.size w wr) (fun _ i _ => a.length - (intOf i).toNat)
  case atStart => exact ⟨0, Nat.zero_le _, rfl, World.ownsRow_nil _ _ _ _, Below.refl _ _⟩
  case round =>
    obtain ⟨k, hk, rfl, hown, hbel⟩ := hrel
    by_cases hlt : k < a.length
    · obtain ⟨p', cap', hp, _, _, hc, _⟩ := HA.out.below hbel (Nat.le_refl _)
      cases hp
      obtain ⟨ab, off, rfl, hcell⟩ := hc k hlt
      rw [getD_at a k hlt] at hcell
      have ht := take_snoc a k hlt
      have hx := hba _ (List.getElem_mem hlt)
      generalize a[k] = x at hcell hx ht
      have hS := Lib.hid (show pickN (a.take (k + 1)) b t = pickN (a.take k) b t ++ if hasN b x == t then [x] else [] by rw [ht, pick_snoc])
      have hpl := Nat.le_trans (pick_len (a.take k) b t) (List.length_take_le _ _)
      have hbz := hbel.size
      clear ht hc hba
      go_wp2_with fail
      refine (has_any _ b _ (by omega) (by omega) _ (HB.out.below hbel (Nat.le_refl _))).mono ?_
      rintro e w' ⟨rfl, rfl⟩
      simp only [Int.toNat_natCast]
      cases hq : hasN b x == t
      · rw [hq] at hS
        go_wp2
        go_roundw
        case rel => exact ⟨k + 1, by omega, by go_num, by rw [hS.out]; simpa using hown, hbel⟩
        case measure => simp [intOf]; omega
      · rw [hq] at hS
        go_wp2_with (at_builtin; refine app1 rfl _ _ 22 rfl w.heap.size 5 (.int .u8 0) 1 info Try.underlying22 rfl _ _ _ rfl _ _ _ hown rfl _ (by simp) rfl (by omega) (by omega) (by omega) ?_; intro v' w1 hown1 hg)
        go_roundw
        case rel => exact ⟨k + 1, by omega, by go_num, by rw [hS.out]; simpa [u8s] using hown1, below_grown hbel hown hg (by omega) (by omega)⟩
        case measure => simp [intOf]; omega
    · have HT := Lib.hid (show a.take k = a from List.take_of_length_le (by omega))
      go_wp2
      go_ret
      exact ⟨_, rfl, by rw [HT.out] at hown; exact hown, hbel⟩
def majorN (a b : List Nat) : Bool := decide (a.length < 2 * (pickN a b true).length)
def mayN (a b : List Nat) : Bool := decide (0 < a.length) && decide ((pickN a b false).length = 0)
theorem major_any (va vb : Value) (a b : List Nat) (w : World) (ha : RdB w va a) (hb : RdB w vb b) (hlen : a.length ≤ 1000000) :
    Calls Try.prog 28 #[va, vb] w fun e w' => e = .returned (.bool (majorN a b)) ∧ Below w.heap.size w w' := by
  have HA := Lib.hid ha
  have HB := Lib.hid hb
  have hpl := pick_len a b true
  obtain ⟨p, cap, rfl, _⟩ := ha
  clear hb
  go_enter Try.func28, Try.ntmps28
  go_wp2_with fail
  refine (pick_any _ _ a b true _ HA.out HB.out hlen).mono ?_
  rintro e w' ⟨v, rfl, hown, hbel⟩
  obtain ⟨p', cap', hv, _⟩ := RdV.owns hown
  subst hv
  go_wp2
  go_ret
  exact ⟨by simp [majorN]; omega, hbel⟩
end R8
end Go.Proofs.Ythhgcfklaakndaa
