/-
  The document's row and pick (palaverref22), walked; its pick is the package's pick: the plain law.
-/
import Derived.Test.YthhgcfklaakndaaThrPick
import Derived.Test.YthhgcfklaakndaaThrMem
namespace Go.Proofs.Ythhgcfklaakndaa
open Go.RowKit
namespace Thr
open Mem R8
set_option maxHeartbeats 1000000 in
theorem rheard_any (v : Value) (l : List Nat) (hl : l.length ≤ 100000) (self node : Nat) (hn : node < 256) (w : World) (hv : RdB w v l) :
    Calls Try.prog 20 #[.int .u8 self, v, .int .u8 node] w fun e w' => ∃ v', e = .returned v' ∧ RdB w' v' (hd self l node) ∧ Below w.heap.size w w' ∧ (v' = v ∨ ∀ b, v'.ownBlock = some b → w.heap.size ≤ b ∧ b < w'.heap.size) := by
  have HV := Lib.hid hv
  obtain ⟨p, cap, rfl, hb, _, _⟩ := hv
  by_cases h7 : 7 ≤ node
  · have HR := Lib.hid (show hd self l node = l by unfold hd; rw [if_pos (.inl h7)])
    have t1 : decide ((6 : Int) < (node : Int)) = true := decide_eq_true (by omega)
    have t2 : decide (6 < node) = true := decide_eq_true (by omega)
    go_enter Try.func20, Try.ntmps20
    go_wp2
    go_ret
    exact ⟨_, rfl, by rw [HR.out]; exact HV.out, Below.refl _ _, .inl rfl⟩
  · by_cases he : node = self
    · have HR := Lib.hid (show hd self l node = l by unfold hd; rw [if_pos (.inr he)])
      have t1 : decide ((6 : Int) < (node : Int)) = false := decide_eq_false (by omega)
      have t2 : decide (6 < node) = false := decide_eq_false (by omega)
      have t3 : ((node : Int) == (self : Int)) = true := by simp [he]
      clear he h7
      go_enter Try.func20, Try.ntmps20
      go_wp2
      go_ret
      exact ⟨_, rfl, by rw [HR.out]; exact HV.out, Below.refl _ _, .inl rfl⟩
    · have HR := Lib.hid (show hd self l node = node :: kept (fun x => decide (x = node)) l l.length by rw [kept_end]; unfold hd; rw [if_neg (by omega)])
      have t1 : decide ((6 : Int) < (node : Int)) = false := decide_eq_false (by omega)
      have t2 : decide (6 < node) = false := decide_eq_false (by omega)
      have t3 : ((node : Int) == (self : Int)) = false := by simp; omega
      have HST := Lib.hid (kept_step (fun x => decide (x = node)) l)
      have hkl : ∀ j, (kept (fun x => decide (x = node)) l j).length ≤ l.length := fun j => Nat.le_trans (List.length_filter_le _ _) (by rw [List.length_take]; omega)
      clear he h7
      go_enter Try.func20, Try.ntmps20
      go_wp2
      go_loopw [7, 8] (fun o i wr => ∃ k : Nat, k ≤ l.length ∧ i = .int .i64 k ∧ wr.ownsRow w.heap.size 5 1 o (node :: kept (fun x => decide (x = node)) l k).length (u8s (node :: kept (fun x => decide (x = node)) l k)) ∧ Below w.heap.size w wr) (fun _ i _ => l.length - (intOf i).toNat)
      case atStart => exact ⟨0, Nat.zero_le _, rfl, ⟨rfl, .inr ⟨w.heap.size, 1, #[.int .u8 (node : Int)], rfl, Nat.le_refl _, Blk.new _ _, Nat.le_refl _, by decide, rfl, rfl⟩⟩, below1 w _⟩
      case round =>
        obtain ⟨k, hk, rfl, hown, BB⟩ := hrel
        have hbz := BB.size
        by_cases hlt : k < l.length
        · obtain ⟨p', cap', e, _, _, hc, _⟩ := HV.out.below BB (Nat.le_refl _)
          cases e
          obtain ⟨ab, off, rfl, hcell⟩ := hc k hlt
          rw [getD_at l k hlt] at hcell
          have hx := hb _ (List.getElem_mem hlt)
          have hS := Lib.hid (HST.out k hlt)
          have hkk := hkl k
          generalize l[k] = x at hcell hx hS
          clear hc hb hkl
          by_cases hxn : x = node
          · have t4 : ((x : Int) != (node : Int)) = false := by simp [hxn]
            have hS2 := Lib.hid (show kept (fun x => decide (x = node)) l (k + 1) = kept (fun x => decide (x = node)) l k by rw [hS.out, if_pos (decide_eq_true hxn), List.append_nil])
            clear hxn hS
            go_wp2
            go_roundw
            case rel => exact ⟨k + 1, by omega, by go_num, by rw [hS2.out]; exact hown, BB⟩
            case measure => simp [intOf]; omega
          · have t4 : ((x : Int) != (node : Int)) = true := by simp; omega
            have hS2 := Lib.hid (show node :: kept (fun x => decide (x = node)) l (k + 1) = (node :: kept (fun x => decide (x = node)) l k) ++ [x] by rw [hS.out, if_neg (by simpa using hxn)]; rfl)
            have hln : (node :: kept (fun x => decide (x = node)) l k).length ≤ 100001 := by simp; omega
            clear hxn hS
            generalize node :: kept (fun x => decide (x = node)) l k = z at hown hS2 hln
            go_wp2_with (at_builtin; go_loud (refine app1g rfl _ _ 22 rfl w.heap.size 5 (.int .u8 0) 1 infoU Try.underlying22 rfl _ _ _ rfl _ _ _ hown rfl _ (by simp) rfl (by omega) (by omega) (by omega) ?_; intro v' w1 hown1 hg))
            go_roundw
            case rel => exact ⟨k + 1, by omega, by go_num, by rw [hS2.out, u8s_append, List.length_append]; exact hown1, below_grown BB hown hg.1 (by omega) (by omega)⟩
            case measure => simp [intOf]; omega
        · have hkk : k = l.length := by omega
          subst hkk
          go_wp2
          go_ret
          refine ⟨_, rfl, ?_, BB, .inr (fun b hb => hown.lt b hb)⟩
          rw [HR.out]
          refine RdB.owns hown (fun x hx => ?_)
          rcases List.mem_cons.1 hx with e | e
          · omega
          · have := List.mem_of_mem_take (List.mem_filter.1 e).1
            exact hb x this
theorem grew_own {W w2 : World} {v2 : Value} {b0 n cap : Nat} (g : Grew W (.slice (some ⟨b0, 0, none⟩) n cap) w2 v2) (h : b0 ≤ W.heap.size) : ∀ b, v2.ownBlock = some b → b0 ≤ b := fun b hb => by
  rcases g.2 with e | e
  · have h3 : some b0 = some b := e.symm.trans hb
    have := Option.some.inj h3
    omega
  · have := e b hb; omega
theorem own_past {W w2 : World} {v v2 u : Value} {base : Nat} {e : TypeId} {size n : Nat} {xs : List Value} (h : W.ownsRow base e size u n xs) (g : Grew W v w2 v2) (hb : ∀ b, u.ownBlock = some b → some b ≠ v.ownBlock) : w2.ownsRow base e size u n xs :=
  ownsRow_same h (fun b hu => g.1.block b (h.lt b hu).2 (hb b hu))
def rstep (c : Nat) (out : List Nat) (x : Nat) : List Nat := if (hasN (listN c) x && !hasN out x && !majorN (listN c) out) = true then out ++ [x] else out
theorem rstep_len (c : Nat) (l : List Nat) : ∀ out, (l.foldl (rstep c) out).length ≤ out.length + l.length := by
  induction l with
  | nil => intro out; simp
  | cons x l ih =>
    intro out
    have := ih (rstep c out x)
    have h : (rstep c out x).length ≤ out.length + 1 := by unfold rstep; split <;> simp
    simp only [List.foldl_cons, List.length_cons]; omega
theorem rstep_lt (c : Nat) (l : List Nat) : ∀ out, (∀ y ∈ out, y < 7) → ∀ y ∈ l.foldl (rstep c) out, y < 7 := by
  induction l with
  | nil => intro out h; exact h
  | cons x l ih =>
    intro out h
    refine ih _ ?_
    unfold rstep
    split
    · rename_i hc
      intro y hy
      rcases List.mem_append.1 hy with e | e
      · exact h y e
      · rw [List.mem_singleton] at e
        rw [Bool.and_eq_true, Bool.and_eq_true, has_list, Bool.and_eq_true] at hc
        rw [e]; simpa using hc.1.1.1
    · exact h
theorem mOf_one (x : Nat) : mOf [x] = mOne x := by simp [mOf]
theorem bit_one (x i : Nat) (hi : i < 7) : (mOne x).testBit i = decide (x = i) := by
  unfold mOne
  split
  · rw [Nat.testBit_two_pow]
  · rw [Nat.zero_testBit, decide_eq_false (by omega)]
theorem setN_lt (l : List Nat) : setN l < 128 := setTo_lt l 7
theorem rstep_pk (c : Nat) (hc : c < 256) (out : List Nat) (x : Nat) : setN (rstep c out x) = pkF c (setN out) x := by
  have hO := setN_lt out
  have hmaj : mMajor c (setN out) = majorN (listN c) out := by
    rw [major_list c _ hc]
    unfold majorN pickN
    congr 3
    refine congrArg List.length (List.filter_congr fun i hi => ?_)
    have hi7 := listN_lt c i hi
    rw [has_list, set_bit, decide_eq_true hi7]; simp
  -- what the step adds, bit by bit
  have hstep : ∀ i, (pkStep c (setN out) x).testBit i = (decide (i < 7) && (hasN out i || (decide (x = i) && hasN (listN c) x))) := by
    intro i
    by_cases hi : i < 7
    · rw [pkStep, bit_with _ _ _ hi, set_bit, bit_both _ _ _ hi, mOf_one, bit_one _ _ hi, decide_eq_true hi, has_list]
      by_cases hxi : x = i
      · subst hxi; simp [hi]
      · simp [hxi]
    · rw [pkStep, high_bit _ _ (mWith_lt _ _) hi, decide_eq_false hi]; rfl
  have same : (hasN (listN c) x = true → hasN out x = true) → pkStep c (setN out) x = setN out := by
    intro h
    refine Nat.eq_of_testBit_eq fun i => ?_
    rw [hstep, set_bit]
    by_cases hxi : x = i
    · subst hxi
      cases h1 : hasN (listN c) x
      · simp
      · rw [h h1]; simp
    · simp [hxi]
  unfold rstep pkF
  cases h1 : hasN (listN c) x
  · simp only [Bool.false_and, Bool.false_eq_true, if_false]
    split
    · rfl
    · exact (same (fun h => by rw [h1] at h; cases h)).symm
  · cases h2 : hasN out x
    · have hcn : cnt c ≠ 0 := by
        intro h0
        rw [← list_len c hc] at h0
        rw [List.eq_nil_of_length_eq_zero h0] at h1
        cases h1
      have hst : pkStop c (setN out) = majorN (listN c) out := by rw [pkStop, hmaj, decide_eq_false hcn, Bool.or_false]
      rw [hst]
      cases h3 : majorN (listN c) out
      · simp only [Bool.not_false, Bool.and_self, if_true, Bool.false_eq_true, if_false]
        refine Nat.eq_of_testBit_eq fun i => ?_
        rw [hstep, set_bit, has_append, h1]
        by_cases hxi : x = i
        · subst hxi; simp [hasN]
        · have : hasN [x] i = false := by simp [hasN]; omega
          rw [this]; simp [hxi]
      · simp
    · simp only [Bool.not_true, Bool.and_false, Bool.false_and, Bool.false_eq_true, if_false]
      split
      · rfl
      · exact (same (fun _ => h2)).symm
theorem rpk (c : Nat) (hc : c < 256) (l : List Nat) : setN (l.foldl (rstep c) []) = pk c l := by
  have : ∀ (l : List Nat) out, setN (l.foldl (rstep c) out) = l.foldl (pkF c) (setN out) := by
    intro l; induction l with
    | nil => intro out; rfl
    | cons x l ih => intro out; rw [List.foldl_cons, List.foldl_cons, ih, rstep_pk c hc]
  rw [this l []]
  rfl
set_option maxRecDepth 100000 in
set_option maxHeartbeats 2000000 in
theorem rpick_any (v : Value) (l : List Nat) (hl : l.length ≤ 1000) (self c : Nat) (hs : self < 256) (hc : c < 256) (w : World) (hv : RdB w v l) :
    Calls Try.prog 19 #[.int .u8 self, v, .int .u8 c] w fun e w' => e = .returned (.int .u8 (pk c (self :: l ++ listN c) : Nat)) ∧ Below w.heap.size w w' := by
  have HV := Lib.hid hv
  obtain ⟨p, cap, rfl, hb, _, _⟩ := hv
  have HPK := Lib.hid (rpk c hc (self :: l ++ listN c))
  have hA : ∀ x ∈ self :: l ++ listN c, x < 256 := by
    intro x hx
    rcases List.mem_append.1 hx with h | h
    · rcases List.mem_cons.1 h with h | h
      · omega
      · exact hb x h
    · have := listN_lt c x h; omega
  have hln : (listN c).length ≤ 7 := listTo_len c 7
  have hc256 : ∀ x ∈ listN c, x < 256 := fun x hx => by have := listN_lt c x hx; omega
  clear hb
  go_enter Try.func19, Try.ntmps19
  go_wp2_with fail
  refine (list_any c (by omega) (by omega) _).mono ?_
  rintro e w1 ⟨vl, rfl, hol, b1⟩
  rw [Int.toNat_natCast] at hol
  have B1 := b1
  have hv1 := HV.out.to.below b1 (Nat.le_refl _)
  obtain ⟨pl, cl, hvl, _⟩ := RdV.owns hol
  subst hvl
  have hz1 := b1.size
  have hoB : (w1.alloc (.cells #[.int .u8 (self : Int)] 5)).ownsRow w.heap.size 5 1 (.slice (some ⟨w1.heap.size, 0, none⟩) 1 1) 1 (u8s [self]) := ⟨rfl, .inr ⟨_, 1, #[.int .u8 (self : Int)], rfl, by omega, Blk.new _ _, Nat.le_refl _, by decide, rfl, rfl⟩⟩
  have hvA := hv1.below (below1 w1 (.cells #[.int .u8 (self : Int)] 5)) (Nat.le_refl _)
  have holA := ownsRow_below hol (below1 w1 (.cells #[.int .u8 (self : Int)] 5))
  have hAs : (w1.alloc (.cells #[.int .u8 (self : Int)] 5)).heap.size = w1.heap.size + 1 := by simp
  have BA := Below.later' B1 (below1 w1 (.cells #[.int .u8 (self : Int)] 5))
  have hlb := fun b hb => (hol.lt b hb).2
  have hA1 : (listN c).length ≤ 7 := hln
  go_wp2_with (at_builtin; first | (refine appNg rfl _ _ 22 rfl w.heap.size 5 (.int .u8 0) 1 1 infoU Try.underlying22 rfl (by decide) (w1.alloc (.cells #[.int .u8 (self : Int)] 5)) _ 1 (u8s [self]) hoB rfl _ l.length (u8s l) hvA (by rw [u8s_length, Nat.mul_one]) (u8s_one l) rfl (by omega) (by omega) (by omega) ?_; intro v2 w2 ho2 g2; have hv2 := grew_own g2 (by omega); have hol2 := own_past holA g2 (fun b hb e => absurd (Option.some.inj (e : some b = some w1.heap.size)) (Nat.ne_of_lt (hlb b hb))); have hz2 := g2.size; have B2 := g2.below BA (by omega) (fun b e => Nat.le_trans hz1 (Nat.le_of_eq (Option.some.inj (e : some w1.heap.size = some b))))) | (refine appNg rfl _ _ 22 rfl w.heap.size 5 (.int .u8 0) 1 1 infoU Try.underlying22 rfl (by decide) w2 _ (1 + l.length) (u8s [self] ++ u8s l) ho2 rfl _ (listN c).length (u8s (listN c)) (RdV.owns hol2) (by rw [u8s_length, Nat.mul_one]) (u8s_one _) rfl (by omega) (by omega) (by omega) ?_; intro v3 w3 ho3 g3; have hol3 := own_past hol2 g3 (fun b hb e => absurd (hv2 b e.symm) (Nat.not_le_of_lt (hlb b hb))); have B3 := g3.below B2 (by omega) (fun b e => Nat.le_trans hz1 (hv2 b e))))
  have hAe : u8s [self] ++ u8s l ++ u8s (listN c) = u8s (self :: l ++ listN c) := by rw [← u8s_append, ← u8s_append]; rfl
  have hAl : 1 + l.length + (listN c).length = (self :: l ++ listN c).length := by simp; omega
  rw [hAe, hAl] at ho3
  have hAn : (self :: l ++ listN c).length ≤ 1008 := by rw [← hAl]; omega
  clear hAe hAl hoB hvA holA hol2 hol g2 g3 ho2 B2 BA B1 b1 hv1 HV hl hv2 hlb hAs
  have HRA := Lib.hid (RdB.owns ho3 hA)
  have HRL := Lib.hid (RdB.owns hol3 hc256)
  have hz3 := B3.size
  clear hA hc256 hol3
  obtain ⟨A, hAA⟩ : ∃ A, self :: l ++ listN c = A := ⟨_, rfl⟩
  rw [hAA] at HPK HRA hAn ho3
  have HAA := Lib.hid hAA
  obtain ⟨p3, cap3, hv3, _⟩ := RdV.owns ho3
  subst hv3
  clear hAA ho3
  go_loopw [9, 10] (fun o i wr => ∃ k : Nat, k ≤ A.length ∧ i = .int .i64 k ∧ wr.ownsRow w3.heap.size 5 1 o ((A.take k).foldl (rstep c) []).length (u8s ((A.take k).foldl (rstep c) [])) ∧ Below w3.heap.size w3 wr) (fun _ i _ => A.length - (intOf i).toNat)
  case atStart => exact ⟨0, Nat.zero_le _, rfl, World.ownsRow_nil _ _ _ _, Below.refl _ _⟩
  case round =>
    obtain ⟨k, hk, rfl, hown, BB⟩ := hrel
    have hbz := BB.size
    by_cases hlt : k < A.length
    · have rdA := HRA.out.below BB (Nat.le_refl _)
      have HL := Lib.hid (HRL.out.below BB (Nat.le_refl _))
      obtain ⟨p', cap', e, hab, _, hcx, _⟩ := rdA
      cases e
      obtain ⟨ab, off, rfl, hcell⟩ := hcx k hlt
      rw [getD_at A k hlt] at hcell
      have hx := hab _ (List.getElem_mem hlt)
      have hS := Lib.hid (show (A.take (k + 1)).foldl (rstep c) [] = rstep c ((A.take k).foldl (rstep c) []) A[k] by rw [take_snoc A k hlt, List.foldl_append]; rfl)
      have hol := rstep_len c (A.take k) []
      have hos := rstep_lt c (A.take k) [] (by simp)
      rw [List.length_take] at hol
      have hol2 : ((A.take k).foldl (rstep c) []).length ≤ 1008 := by simp at hol; omega
      generalize A[k] = x at hcell hx hS
      obtain ⟨o, ho⟩ : ∃ o, (A.take k).foldl (rstep c) [] = o := ⟨_, rfl⟩
      rw [ho] at hown hS hos hol2
      obtain ⟨po, co, hvo, _⟩ := RdV.owns hown
      subst hvo
      have HO := Lib.hid (RdB.owns hown (fun y hy => by have := hos y hy; omega))
      clear hcx hab ho hol hos
      go_wp2_with fail
      refine (R8.has_any _ (listN c) x (by omega) (by omega) _ HL.out).mono ?_
      rintro e w4 ⟨rfl, rfl⟩
      rw [Int.toNat_natCast]
      cases h1 : hasN (listN c) x
      · have hS2 := Lib.hid (show (A.take (k + 1)).foldl (rstep c) [] = o by rw [hS.out, rstep, h1]; rfl)
        clear h1 hS
        go_wp2
        go_roundw
        case rel => exact ⟨k + 1, by omega, by go_num, by rw [hS2.out]; exact hown, BB⟩
        case measure => simp [intOf]; omega
      · go_wp2_with fail
        refine (R8.has_any _ o x (by omega) (by omega) _ HO.out).mono ?_
        rintro e w4 ⟨rfl, rfl⟩
        rw [Int.toNat_natCast]
        cases h2 : hasN o x
        · go_wp2_with fail
          refine (R8.major_any _ _ (listN c) o _ HL.out HO.out (by omega)).mono ?_
          rintro e w4 ⟨rfl, b4⟩
          have hown4 := ownsRow_below hown b4
          have BB4 := Below.later BB b4 hbz
          have hb4 := b4.size
          cases h3 : majorN (listN c) o
          · have hS2 := Lib.hid (show (A.take (k + 1)).foldl (rstep c) [] = o ++ [x] by rw [hS.out, rstep, h1, h2, h3]; rfl)
            have hcell4 := (b4.cell (p := ⟨ab, off + k, none⟩) (World.block_lt_of_cell? _ _ hcell)).trans hcell
            clear h1 h2 h3 hS b4 BB hown hcell
            go_wp2_with (at_builtin; go_loud (refine app1g rfl _ _ 22 rfl w3.heap.size 5 (.int .u8 0) 1 infoU Try.underlying22 rfl _ _ _ rfl _ _ _ hown4 rfl _ (by simp) rfl (by omega) (by omega) (by omega) ?_; intro v' w1 hown1 hg))
            go_roundw
            case rel => exact ⟨k + 1, by omega, by go_num, by rw [hS2.out, u8s_append, List.length_append]; exact hown1, below_grown BB4 hown4 hg.1 (by omega) (by omega)⟩
            case measure => simp [intOf]; omega
          · have hS2 := Lib.hid (show (A.take (k + 1)).foldl (rstep c) [] = o by rw [hS.out, rstep, h1, h2, h3]; rfl)
            clear h1 h2 h3 hS b4 BB hown
            go_wp2
            go_roundw
            case rel => exact ⟨k + 1, by omega, by go_num, by rw [hS2.out]; exact hown4, BB4⟩
            case measure => simp [intOf]; omega
        · have hS2 := Lib.hid (show (A.take (k + 1)).foldl (rstep c) [] = o by rw [hS.out, rstep, h1, h2]; rfl)
          clear h1 h2 hS
          go_wp2
          go_roundw
          case rel => exact ⟨k + 1, by omega, by go_num, by rw [hS2.out]; exact hown, BB⟩
          case measure => simp [intOf]; omega
    · have ht : A.take k = A := List.take_of_length_le (by omega)
      have hos := rstep_lt c A [] (by simp)
      rw [ht] at hown
      have HO := Lib.hid (RdB.owns hown (fun y hy => by have := hos y hy; omega))
      obtain ⟨po, co, hvo, _⟩ := RdV.owns hown
      subst hvo
      have hst := setN_lt (A.foldl (rstep c) [])
      clear hown ht hos
      go_wp2_with fail
      refine (R8.set_any _ _ _ HO.out).mono ?_
      rintro e w4 ⟨rfl, rfl⟩
      go_wp2_with fail
      go_ret
      exact ⟨by rw [show self :: (l ++ listN c) = A from HAA.out, ← HPK.out]; rfl, Below.later B3 BB hz3⟩
end Thr
end Go.Proofs.Ythhgcfklaakndaa
