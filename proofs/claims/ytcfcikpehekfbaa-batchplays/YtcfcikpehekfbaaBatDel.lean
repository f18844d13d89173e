/-
  The library's DeleteFunc at rows of commands, with the queue's two closures.
-/
import Derived.Test.YtcfcikpehekfbaaBatBase
namespace Go.Proofs.Ytcfcikpehekfbaa
open Go.RowKit Go.WideShapes
namespace Bat
def put7 (cur : Array Value) (o : Nat) (x : Cm) : Array Value := (((((((cur.setIfInBounds o (.int .u8 x.cl)).setIfInBounds (o + 1) (.int .u32 x.sq)).setIfInBounds (o + 2) (.int .u8 x.kd)).setIfInBounds (o + 3) (.string x.key)).setIfInBounds (o + 4) (.string x.old)).setIfInBounds (o + 5) (.string x.new)).setIfInBounds (o + 6) (.int .u8 x.set))
def putw (w : World) (g o : Nat) (x : Cm) : World := (((((((w.setCell ⟨g, o, none⟩ (.int .u8 x.cl)).setCell ⟨g, o + 1, none⟩ (.int .u32 x.sq)).setCell ⟨g, o + 2, none⟩ (.int .u8 x.kd)).setCell ⟨g, o + 3, none⟩ (.string x.key)).setCell ⟨g, o + 4, none⟩ (.string x.old)).setCell ⟨g, o + 5, none⟩ (.string x.new)).setCell ⟨g, o + 6, none⟩ (.int .u8 x.set))
theorem put7_size (cur : Array Value) (o : Nat) (x : Cm) : (put7 cur o x).size = cur.size := by simp [put7]
theorem put7_same (cur : Array Value) (o : Nat) (x : Cm) (h : o + 7 ≤ cur.size) (m : Nat) (hm : m < 7) : (put7 cur o x)[o + m]? = x.cells[m]? := by
  have : m = 0 ∨ m = 1 ∨ m = 2 ∨ m = 3 ∨ m = 4 ∨ m = 5 ∨ m = 6 := by omega
  rcases this with rfl | rfl | rfl | rfl | rfl | rfl | rfl <;> simp [put7, Array.getElem?_setIfInBounds] <;> omega
theorem put7_other (cur : Array Value) (o : Nat) (x : Cm) (k : Nat) (h : k < o ∨ o + 7 ≤ k) : (put7 cur o x)[k]? = cur[k]? := by
  unfold put7
  rw [Array.getElem?_setIfInBounds_ne (by omega), Array.getElem?_setIfInBounds_ne (by omega), Array.getElem?_setIfInBounds_ne (by omega), Array.getElem?_setIfInBounds_ne (by omega), Array.getElem?_setIfInBounds_ne (by omega), Array.getElem?_setIfInBounds_ne (by omega), Array.getElem?_setIfInBounds_ne (by omega)]
theorem putw_blk {w : World} {g t : Nat} {cur : Array Value} (o : Nat) (x : Cm) (h : Blk w g (.cells cur t)) : Blk (putw w g o x) g (.cells (put7 cur o x) t) := (((((((h.set o (.int .u8 x.cl)).set (o + 1) (.int .u32 x.sq)).set (o + 2) (.int .u8 x.kd)).set (o + 3) (.string x.key)).set (o + 4) (.string x.old)).set (o + 5) (.string x.new)).set (o + 6) (.int .u8 x.set))
theorem gtrans {w w1 w2 : World} {r : Option Nat} (h : w.grownBy w1 r) (g : w1.grownBy w2 r) : w.grownBy w2 r :=
  ⟨g.os.trans h.os, g.tape.trans h.tape, g.output.trans h.output, Nat.le_trans h.size g.size, fun k hk hne => (g.block k (Nat.lt_of_lt_of_le hk h.size) hne).trans (h.block k hk hne)⟩
theorem gbelow {w w' : World} {r : Option Nat} (h : Below w.heap.size w w') : w.grownBy w' r := ⟨h.os, h.tape, h.output, h.size, fun k hk _ => h.block k hk⟩
theorem gset (w : World) (b j : Nat) (v : Value) : w.grownBy (w.setCell ⟨b, j, none⟩ v) (some b) := ⟨rfl, rfl, rfl, by simp, fun k _ hne => Below.heap_setCell _ _ _ _ (fun e => hne (by rw [e]))⟩
theorem putw_grown (w : World) (g o : Nat) (x : Cm) : w.grownBy (putw w g o x) (some g) := gtrans (gtrans (gtrans (gtrans (gtrans (gtrans (gset _ _ _ _) (gset _ _ _ _)) (gset _ _ _ _)) (gset _ _ _ _)) (gset _ _ _ _)) (gset _ _ _ _)) (gset _ _ _ _)
theorem sets_blk {g t : Nat} : ∀ (vs : List Value) (o : Nat) (w : World) (cur : Array Value), Blk w g (.cells cur t) → ∃ cur2, Blk (w.setCells g o vs) g (.cells cur2 t) ∧ cur2.size = cur.size ∧ ∀ k < o, cur2[k]? = cur[k]?
  | [], _, _, cur, h => ⟨cur, h, rfl, fun _ _ => rfl⟩
  | v :: vs, o, w, cur, h => by
    obtain ⟨cur2, h1, h2, h3⟩ := sets_blk vs (o + 1) _ _ (h.set o v)
    refine ⟨cur2, h1, by rw [h2]; simp, fun k hk => ?_⟩
    rw [h3 k (by omega), Array.getElem?_setIfInBounds_ne (by omega)]
theorem sets_grown (g : Nat) : ∀ (vs : List Value) (o : Nat) (w : World), w.grownBy (w.setCells g o vs) (some g)
  | [], _, _ => ⟨rfl, rfl, rfl, Nat.le_refl _, fun _ _ _ => rfl⟩
  | v :: vs, o, w => gtrans (gset w g o v) (sets_grown g vs (o + 1) _)
theorem take_flat (cur : Array Value) (K : List Cm) (hs : K.length * 7 ≤ cur.size) (h : ∀ t (ht : t < K.length), ∀ m < 7, cur[t * 7 + m]? = (K[t]).cells[m]?) : cur.toList.take (K.length * 7) = flat K := by
  refine List.ext_getElem? (fun j => ?_)
  by_cases hj : j < K.length * 7
  · rw [List.getElem?_take_of_lt hj]
    have e : j = j / 7 * 7 + j % 7 := by omega
    have h1 := h (j / 7) (by omega) (j % 7) (by omega)
    have h2 := rows_get Cm.cells 7 Cm.cells_len K (j / 7) (j % 7) (by omega) (by omega)
    rw [← e] at h1 h2
    rw [Array.getElem?_toList, h1]
    exact h2.symm
  · rw [List.getElem?_eq_none (by simp; omega), List.getElem?_eq_none (by rw [flat, rows_length Cm.cells 7 Cm.cells_len]; omega)]
theorem flat_at (cur : Array Value) (l : List Cm) (h : cur.toList.take (l.length * 7) = flat l) (t : Nat) (ht : t < l.length) (m : Nat) (hm : m < 7) : cur[t * 7 + m]? = (l[t]).cells[m]? := by
  rw [← rows_get Cm.cells 7 Cm.cells_len l t m ht hm]
  show _ = (flat l)[t * 7 + m]?
  rw [← h, List.getElem?_take_of_lt (by omega), Array.getElem?_toList]
/-- What is kept of the first ones. -/
def kept (p : Cm → Bool) (l : List Cm) (j : Nat) : List Cm := (l.take j).filter (fun x => !p x)
theorem kept_step (p : Cm → Bool) (l : List Cm) (j : Nat) (h : j < l.length) : kept p l (j + 1) = kept p l j ++ if p l[j] = true then [] else [l[j]] := by
  unfold kept
  rw [List.take_succ_eq_append_getElem h, List.filter_append]
  cases hp : p l[j] <;> simp [hp]
theorem kept_end (p : Cm → Bool) (l : List Cm) : kept p l l.length = l.filter (fun x => !p x) := by unfold kept; rw [List.take_length]
theorem kept_start (p : Cm → Bool) (l : List Cm) (i : Nat) (h : i < l.length) (hp : p l[i] = true) (hn : ∀ j (_ : j < i) (h : j < l.length), p l[j] = false) : kept p l (i + 1) = l.take i := by
  rw [kept_step p l i h, if_pos hp, List.append_nil]
  unfold kept
  rw [List.filter_eq_self]
  intro x hx
  obtain ⟨j, hj, rfl⟩ := List.getElem_of_mem hx
  rw [List.length_take] at hj
  rw [List.getElem_take, hn j (by omega) (by omega)]; rfl
theorem idx_cases (p : Cm → Bool) (l : List Cm) : (idx p l = -1 ∧ l.filter (fun x => !p x) = l) ∨ ∃ i, ∃ h : i < l.length, idx p l = i ∧ p l[i] = true ∧ ∀ j (_ : j < i) (h : j < l.length), p l[j] = false := by
  by_cases h : l.findIdx p < l.length
  · refine .inr ⟨l.findIdx p, h, by unfold idx; rw [if_pos h], List.findIdx_getElem, fun j hj h2 => ?_⟩
    have := List.not_of_lt_findIdx hj
    simpa using this
  · refine .inl ⟨by unfold idx; rw [if_neg h], List.filter_eq_self.2 (fun x hx => ?_)⟩
    have := List.findIdx_eq_length.1 (Nat.le_antisymm List.findIdx_le_length (Nat.le_of_not_lt h)) x hx
    simp [this]
theorem zeroC (w : World) : (zeroValue 30).run Try.prog w = .ok Cm.zero.val w := by kernel_rfl
def zs (n : Nat) : List Value := (Builtin.zeroCells Cm.zero.val.cells n).toList
theorem zs_len (n : Nat) : (zs n).length = n * 7 := by unfold zs Builtin.zeroCells; simp [Value.cells]
theorem zs_one (n : Nat) : ∀ u ∈ zs n, u.oneCell' = true := by
  intro u hu
  unfold zs Builtin.zeroCells at hu
  simp only [Array.toList_map, List.mem_map] at hu
  obtain ⟨i, _, rfl⟩ := hu
  have hlt : i % Cm.zero.val.cells.size < 7 := Nat.mod_lt _ (by decide)
  generalize i % Cm.zero.val.cells.size = j at hlt
  have : j = 0 ∨ j = 1 ∨ j = 2 ∨ j = 3 ∨ j = 4 ∨ j = 5 ∨ j = 6 := by omega
  rcases this with rfl | rfl | rfl | rfl | rfl | rfl | rfl <;> rfl
theorem run_clear7 (w : World) (g o n c : Nat) (hn : 0 < n) (hc : ∀ j, j < n * 7 → (w.cell? ⟨g, o + j, none⟩).isSome = true) (hf : ∀ j, j < n * 7 → w.frozen? ⟨g, o + j, none⟩ = false) (ty : TypeId) :
    (Builtin.clear_ #[27] ty #[.slice (some ⟨g, o, none⟩) n c]).run Try.prog w = .ok (.tuple #[]) (w.setCells g o (zs n)) := by
  have hst := run_storeCells_cells (P := Try.prog) g o (zs n) 0 w (by rw [zs_len]; simpa using hc) (by rw [zs_len]; simpa using hf) (zs_one n)
  simp only [Nat.add_zero] at hst
  obtain ⟨m, rfl⟩ : ∃ m, n = m + 1 := ⟨n - 1, by omega⟩
  unfold zs at hst ⊢
  have hst2 : (storeCells ⟨g, o, none⟩ (Builtin.zeroCells (Value.agg #[.int .u8 0, .int .u32 0, .int .u8 0, .string ⟨#[]⟩, .string ⟨#[]⟩, .string ⟨#[]⟩, .int .u8 0]).cells (m + 1)).toList).run Try.prog w = .ok () (w.setCells g o (Builtin.zeroCells Cm.zero.val.cells (m + 1)).toList) := hst
  simp [Builtin.clear_, run_underlying Try.underlying27, zeroC, hst2]
theorem A_step (K K2 : List Cm) (x : Cm) (cu : Array Value) (a : Nat) (hK : K2 = K ++ [x]) (ha : a = K.length) (hsz : a * 7 + 7 ≤ cu.size) (hA : ∀ t (ht : t < K.length), ∀ m < 7, cu[t * 7 + m]? = (K[t]).cells[m]?) :
    ∀ t (ht : t < K2.length), ∀ m < 7, (put7 cu (a * 7) x)[t * 7 + m]? = (K2[t]).cells[m]? := by
  subst hK
  subst ha
  intro t ht m hm
  rw [List.length_append, List.length_singleton] at ht
  by_cases h : t < K.length
  · rw [put7_other _ _ _ _ (by omega), List.getElem_append_left h]; exact hA t h m hm
  · have e : t = K.length := by omega
    subst e
    rw [put7_same cu _ x hsz m hm, List.getElem_append_right (Nat.le_refl _)]; simp
theorem A_same (K K2 : List Cm) (cu : Array Value) (hK : K2 = K) (hA : ∀ t (ht : t < K.length), ∀ m < 7, cu[t * 7 + m]? = (K[t]).cells[m]?) :
    ∀ t (ht : t < K2.length), ∀ m < 7, cu[t * 7 + m]? = (K2[t]).cells[m]? := by subst hK; exact hA
set_option maxRecDepth 100000 in
set_option maxHeartbeats 4000000 in
theorem delP_any (cl cb : Nat) (base : Nat) (v : Value) (l : List Cm) (hl : l.length ≤ 100000) (w : World) (ho : w.ownsRow base 30 7 v l.length (flat l)) (hc : ∀ w', w.grownBy w' v.ownBlock → w'.cell? ⟨cb, 0, none⟩ = some (.int .u8 cl)) :
    Calls Try.prog 29 #[v, .func (.func 27) #[] #[.pointer (some ⟨cb, 0, none⟩)]] w fun e w' => ∃ v', e = .returned v' ∧ w'.ownsRow base 30 7 v' (l.filter (fun x => !(fun x => decide (x.cl = cl)) x)).length (flat (l.filter (fun x => !(fun x => decide (x.cl = cl)) x))) ∧ Grew w v w' v' := by
  have HI := Lib.hid (idxP_any cl cb v l w (RdT.owns ho) (fun w' h => hc w' (gbelow h)))
  have HC := Lib.hid hc
  clear hc
  obtain ⟨P, hP⟩ : ∃ P : Cm → Bool, (fun x => decide (x.cl = cl)) = P := ⟨_, rfl⟩
  have HPR := Lib.hid (fun x => congrFun hP x)
  rw [hP] at HI ⊢
  clear hP
  rcases idx_cases P l with ⟨h1, h2⟩ | ⟨i, hi, h1, hpi, hpre⟩
  · rw [h1] at HI
    rw [h2]
    have HO := Lib.hid ho
    obtain ⟨p, cap, hv, _⟩ := (RdT.owns ho).len
    subst hv
    clear ho h1 h2
    go_enter Try.func29, Try.ntmps29
    go_wp2_with fail
    refine HI.out.mono ?_
    rintro e w1 ⟨rfl, b1⟩
    go_wp2_with fail
    go_ret
    exact ⟨_, rfl, ownsRow_below HO.out b1, Grew.of_below b1 _⟩
  · rcases ho with ⟨hlen7, ⟨rfl, h0⟩ | ⟨g, cap, cur, rfl, hgb, hblk, hncap, hcmax, hcs, htk⟩⟩
    · omega
    · have HF := Lib.hid (kept_start P l i hi hpi hpre)
      have HST := Lib.hid (kept_step P l)
      have HEND := Lib.hid (kept_end P l)
      have HFA := Lib.hid (flat_at cur l htk)
      have kG : Blk w g (.cells cur 30) := hblk
      have hgl := kG.lt
      rw [h1] at HI
      have e1 : ((i : Int) == -1) = false := by rw [beq_eq_false_iff_ne]; omega
      clear hpi hpre htk hlen7 hblk h1
      go_enter Try.func29, Try.ntmps29
      go_wp2_with fail
      refine HI.out.mono ?_
      rintro e w1 ⟨rfl, b1⟩
      have G1 : w.grownBy w1 (some g) := gbelow b1
      have kG1 := kG.later b1
      clear b1 kG HI
      go_wp2_with fail
      go_loopw [5, 6] (fun ia ij wr => ∃ (j a : Nat) (cu : Array Value), i < j ∧ j ≤ l.length ∧ ij = .int .i64 j ∧ ia = .int .i64 a ∧ a = (kept P l j).length ∧ a < j ∧ Blk wr g (.cells cu 30) ∧ cu.size = cap * 7 ∧ (∀ t (ht : t < (kept P l j).length), ∀ m < 7, cu[t * 7 + m]? = ((kept P l j)[t]).cells[m]?) ∧ (∀ t (_ : j ≤ t) (ht : t < l.length), ∀ m < 7, cu[t * 7 + m]? = (l[t]).cells[m]?) ∧ w.grownBy wr (some g)) (fun _ ij _ => l.length - (intOf ij).toNat)
      case atStart =>
        refine ⟨i + 1, i, cur, by omega, by omega, by go_num, rfl, by rw [HF.out, List.length_take]; omega, by omega, kG1, hcs, ?_, fun t _ ht m hm => HFA.out t ht m hm, G1⟩
        intro t ht m hm
        have ht' := ht
        rw [HF.out, List.length_take] at ht'
        rw [HFA.out t (by omega) m hm]
        congr 2
        have : ∀ (L : List Cm) (h : L = l.take i) (ht : t < L.length), l[t]'(by omega) = L[t] := by
          intro L h ht; subst h; rw [List.getElem_take]
        exact this _ HF.out ht
      case round =>
        obtain ⟨j, a, cu, hij, hj, rfl, rfl, ha, haj, kC, hcus, hA, hBt, G⟩ := hrel
        clear G1 kG1 HFA
        have HA := Lib.hid hA
        have HAE := Lib.hid ha
        clear ha
        have HBT := Lib.hid hBt
        clear hA hBt
        by_cases hlt : j < l.length
        · have hd : decide ((j : Int) < (l.length : Int)) = true := decide_eq_true (by omega)
          have hd' : decide (j < l.length) = true := decide_eq_true hlt
          have hcell := fun m (hm : m < 7) => (kC.cell (j * 7 + m)).trans (HBT.out j (Nat.le_refl _) hlt m hm)
          have HS := Lib.hid (HST.out j hlt)
          have HKX : ∀ x, l[j] = x → RowKit.Hid (l[j] = x) := fun x h => Lib.hid h
          obtain ⟨x, hx⟩ : ∃ x, l[j] = x := ⟨_, rfl⟩
          have HX := HKX x hx
          rw [hx] at hcell HS
          clear HKX hx
          have HPX := Lib.hid (HPR.out x)
          have g0 := hcell 0 (by decide)
          have g1 := hcell 1 (by decide)
          have g2 := hcell 2 (by decide)
          have g3 := hcell 3 (by decide)
          have g4 := hcell 4 (by decide)
          have g5 := hcell 5 (by decide)
          have g6 := hcell 6 (by decide)
          simp only [Cm.cells, Nat.add_zero] at g0 g1 g2 g3 g4 g5 g6
          clear hcell
          go_wp2_with fail
          have kX := Blk.new wr (.cells #[.int .u8 x.cl, .int .u32 x.sq, .int .u8 x.kd, .string x.key, .string x.old, .string x.new, .int .u8 x.set] 30)
          have kC1 := kC.alloc (.cells #[.int .u8 x.cl, .int .u32 x.sq, .int .u8 x.kd, .string x.key, .string x.old, .string x.new, .int .u8 x.set] 30)
          have GG := gtrans G (gbelow (r := some g) (below1 wr (.cells #[.int .u8 x.cl, .int .u32 x.sq, .int .u8 x.kd, .string x.key, .string x.old, .string x.new, .int .u8 x.set] 30)))
          refine (own_any x cl cb _ (HC.out _ GG) _ rfl).mono ?_
          rintro e w2 ⟨rfl, b2⟩
          have hpx := HPX.out
          rw [hpx]
          have kX2 := kX.later b2
          have kC2 := kC1.later b2
          have G2 := gtrans GG (gbelow (r := some g) b2)
          clear kX kC1 GG b2 g0 g1 g2 g3 g4 g5 g6 kC G
          cases hpx2 : P x
          · rw [if_neg (by rw [hpx2]; simp)] at HS
            clear hpx2 hpx HPX
            have x0 := kX2.cell 0
            have x1 := kX2.cell 1
            have x2 := kX2.cell 2
            have x3 := kX2.cell 3
            have x4 := kX2.cell 4
            have x5 := kX2.cell 5
            have x6 := kX2.cell 6
            have hsz : a * 7 + 7 ≤ cu.size := by rw [hcus]; omega
            have hget := fun m (hm : m < 7) => (kC2.cell (a * 7 + m)).trans (Array.getElem?_eq_getElem (show a * 7 + m < cu.size by omega))
            have c0 := hget 0 (by decide)
            have c1 := hget 1 (by decide)
            have c2 := hget 2 (by decide)
            have c3 := hget 3 (by decide)
            have c4 := hget 4 (by decide)
            have c5 := hget 5 (by decide)
            have c6 := hget 6 (by decide)
            have f0 := kC2.frozen (a * 7)
            have f1 := kC2.frozen (a * 7 + 1)
            have f2 := kC2.frozen (a * 7 + 2)
            have f3 := kC2.frozen (a * 7 + 3)
            have f4 := kC2.frozen (a * 7 + 4)
            have f5 := kC2.frozen (a * 7 + 5)
            have f6 := kC2.frozen (a * 7 + 6)
            simp only [Nat.add_zero] at c0
            have hal : decide ((a : Int) < (l.length : Int)) = true := decide_eq_true (by omega)
            have hal' : decide (a < l.length) = true := decide_eq_true (by omega)
            have hal2 : (a : Int) < (l.length : Int) := by omega
            have hal3 : a < l.length := by omega
            clear hget
            go_wp2_with fail
            go_roundw
            case rel =>
              refine ⟨j + 1, a + 1, put7 cu (a * 7) x, by omega, by omega, by go_num, by go_num, ?_, by omega, putw_blk (a * 7) x kC2, by rw [put7_size, hcus], A_step _ _ x cu a HS.out HAE.out hsz HA.out, ?_, gtrans G2 (putw_grown w2 g (a * 7) x)⟩
              · rw [HS.out, List.length_append, ← HAE.out]; rfl
              · intro t h1 h2 m hm
                rw [put7_other _ _ _ _ (by omega)]
                exact HBT.out t (by omega) h2 m hm
            case measure => simp [intOf]; omega
          · rw [if_pos hpx2, List.append_nil] at HS
            clear hpx2 hpx HPX
            go_wp2_with fail
            go_roundw
            case rel =>
              exact ⟨j + 1, a, cu, by omega, by omega, by go_num, rfl, by rw [HS.out]; exact HAE.out, by omega, kC2, hcus, A_same _ _ cu HS.out HA.out, fun t h1 h2 m hm => HBT.out t (by omega) h2 m hm, G2⟩
            case measure => simp [intOf]; omega
        · have hd : decide ((j : Int) < (l.length : Int)) = false := decide_eq_false (by omega)
          have hd' : decide (j < l.length) = false := decide_eq_false hlt
          have hjl : j = l.length := by omega
          have hK : kept P l j = l.filter (fun x => !P x) := by rw [hjl]; exact HEND.out
          have HB2 := Lib.hid (A_same _ _ cu hK.symm HA.out)
          have hae := HAE.out
          rw [hK] at hae
          have HAE2 := Lib.hid hae
          have hcl := fun ty => run_clear7 wr g (a * 7) (l.length - a) (cap - a) (by omega) (fun t ht => by rw [kC.cell, Array.getElem?_eq_getElem (show a * 7 + t < cu.size by rw [hcus]; omega)]; rfl) (fun t ht => kC.frozen _) ty
          obtain ⟨cu2, k2, s2, e2⟩ := sets_blk (zs (l.length - a)) (a * 7) wr cu kC
          have G3 := gtrans G (sets_grown g (zs (l.length - a)) (a * 7) wr)
          have q1 : (a : Int) ≤ (l.length : Int) := by omega
          have q2 : a ≤ l.length := by omega
          have q3 : a ≤ cap := by omega
          clear hK hae hlt HA HAE HBT
          go_wp2_with fail
          go_ret
          refine ⟨_, rfl, ⟨rows_length Cm.cells 7 Cm.cells_len _, .inr ⟨g, cap, cu2, by rw [← HAE2.out]; rfl, hgb, k2, by rw [← HAE2.out]; omega, hcmax, by rw [s2, hcus], take_flat cu2 _ (by rw [← HAE2.out, s2, hcus]; omega) (fun t ht m hm => ?_)⟩⟩, ⟨G3, .inl rfl⟩⟩
          rw [e2 _ (by have := HAE2.out; omega)]
          exact HB2.out t ht m hm
set_option maxRecDepth 100000 in
set_option maxHeartbeats 4000000 in
theorem delD_any (cl sq cb sb : Nat) (base : Nat) (v : Value) (l : List Cm) (hl : l.length ≤ 100000) (w : World) (ho : w.ownsRow base 30 7 v l.length (flat l)) (hc : ∀ w', w.grownBy w' v.ownBlock → (w'.cell? ⟨cb, 0, none⟩ = some (.int .u8 cl) ∧ w'.cell? ⟨sb, 0, none⟩ = some (.int .u32 sq))) :
    Calls Try.prog 29 #[v, .func (.func 22) #[] #[.pointer (some ⟨cb, 0, none⟩), .pointer (some ⟨sb, 0, none⟩)]] w fun e w' => ∃ v', e = .returned v' ∧ w'.ownsRow base 30 7 v' (l.filter (fun x => !(fun x => decide (x.cl = cl ∧ x.sq ≤ sq)) x)).length (flat (l.filter (fun x => !(fun x => decide (x.cl = cl ∧ x.sq ≤ sq)) x))) ∧ Grew w v w' v' := by
  have HI := Lib.hid (idxD_any cl sq cb sb v l w (RdT.owns ho) (fun w' h => hc w' (gbelow h)))
  have HC := Lib.hid hc
  clear hc
  obtain ⟨P, hP⟩ : ∃ P : Cm → Bool, (fun x => decide (x.cl = cl ∧ x.sq ≤ sq)) = P := ⟨_, rfl⟩
  have HPR := Lib.hid (fun x => congrFun hP x)
  rw [hP] at HI ⊢
  clear hP
  rcases idx_cases P l with ⟨h1, h2⟩ | ⟨i, hi, h1, hpi, hpre⟩
  · rw [h1] at HI
    rw [h2]
    have HO := Lib.hid ho
    obtain ⟨p, cap, hv, _⟩ := (RdT.owns ho).len
    subst hv
    clear ho h1 h2
    go_enter Try.func29, Try.ntmps29
    go_wp2_with fail
    refine HI.out.mono ?_
    rintro e w1 ⟨rfl, b1⟩
    go_wp2_with fail
    go_ret
    exact ⟨_, rfl, ownsRow_below HO.out b1, Grew.of_below b1 _⟩
  · rcases ho with ⟨hlen7, ⟨rfl, h0⟩ | ⟨g, cap, cur, rfl, hgb, hblk, hncap, hcmax, hcs, htk⟩⟩
    · omega
    · have HF := Lib.hid (kept_start P l i hi hpi hpre)
      have HST := Lib.hid (kept_step P l)
      have HEND := Lib.hid (kept_end P l)
      have HFA := Lib.hid (flat_at cur l htk)
      have kG : Blk w g (.cells cur 30) := hblk
      have hgl := kG.lt
      rw [h1] at HI
      have e1 : ((i : Int) == -1) = false := by rw [beq_eq_false_iff_ne]; omega
      clear hpi hpre htk hlen7 hblk h1
      go_enter Try.func29, Try.ntmps29
      go_wp2_with fail
      refine HI.out.mono ?_
      rintro e w1 ⟨rfl, b1⟩
      have G1 : w.grownBy w1 (some g) := gbelow b1
      have kG1 := kG.later b1
      clear b1 kG HI
      go_wp2_with fail
      go_loopw [5, 6] (fun ia ij wr => ∃ (j a : Nat) (cu : Array Value), i < j ∧ j ≤ l.length ∧ ij = .int .i64 j ∧ ia = .int .i64 a ∧ a = (kept P l j).length ∧ a < j ∧ Blk wr g (.cells cu 30) ∧ cu.size = cap * 7 ∧ (∀ t (ht : t < (kept P l j).length), ∀ m < 7, cu[t * 7 + m]? = ((kept P l j)[t]).cells[m]?) ∧ (∀ t (_ : j ≤ t) (ht : t < l.length), ∀ m < 7, cu[t * 7 + m]? = (l[t]).cells[m]?) ∧ w.grownBy wr (some g)) (fun _ ij _ => l.length - (intOf ij).toNat)
      case atStart =>
        refine ⟨i + 1, i, cur, by omega, by omega, by go_num, rfl, by rw [HF.out, List.length_take]; omega, by omega, kG1, hcs, ?_, fun t _ ht m hm => HFA.out t ht m hm, G1⟩
        intro t ht m hm
        have ht' := ht
        rw [HF.out, List.length_take] at ht'
        rw [HFA.out t (by omega) m hm]
        congr 2
        have : ∀ (L : List Cm) (h : L = l.take i) (ht : t < L.length), l[t]'(by omega) = L[t] := by
          intro L h ht; subst h; rw [List.getElem_take]
        exact this _ HF.out ht
      case round =>
        obtain ⟨j, a, cu, hij, hj, rfl, rfl, ha, haj, kC, hcus, hA, hBt, G⟩ := hrel
        clear G1 kG1 HFA
        have HA := Lib.hid hA
        have HAE := Lib.hid ha
        clear ha
        have HBT := Lib.hid hBt
        clear hA hBt
        by_cases hlt : j < l.length
        · have hd : decide ((j : Int) < (l.length : Int)) = true := decide_eq_true (by omega)
          have hd' : decide (j < l.length) = true := decide_eq_true hlt
          have hcell := fun m (hm : m < 7) => (kC.cell (j * 7 + m)).trans (HBT.out j (Nat.le_refl _) hlt m hm)
          have HS := Lib.hid (HST.out j hlt)
          have HKX : ∀ x, l[j] = x → RowKit.Hid (l[j] = x) := fun x h => Lib.hid h
          obtain ⟨x, hx⟩ : ∃ x, l[j] = x := ⟨_, rfl⟩
          have HX := HKX x hx
          rw [hx] at hcell HS
          clear HKX hx
          have HPX := Lib.hid (HPR.out x)
          have g0 := hcell 0 (by decide)
          have g1 := hcell 1 (by decide)
          have g2 := hcell 2 (by decide)
          have g3 := hcell 3 (by decide)
          have g4 := hcell 4 (by decide)
          have g5 := hcell 5 (by decide)
          have g6 := hcell 6 (by decide)
          simp only [Cm.cells, Nat.add_zero] at g0 g1 g2 g3 g4 g5 g6
          clear hcell
          go_wp2_with fail
          have kX := Blk.new wr (.cells #[.int .u8 x.cl, .int .u32 x.sq, .int .u8 x.kd, .string x.key, .string x.old, .string x.new, .int .u8 x.set] 30)
          have kC1 := kC.alloc (.cells #[.int .u8 x.cl, .int .u32 x.sq, .int .u8 x.kd, .string x.key, .string x.old, .string x.new, .int .u8 x.set] 30)
          have GG := gtrans G (gbelow (r := some g) (below1 wr (.cells #[.int .u8 x.cl, .int .u32 x.sq, .int .u8 x.kd, .string x.key, .string x.old, .string x.new, .int .u8 x.set] 30)))
          refine (done_any x cl sq cb sb _ (HC.out _ GG).1 (HC.out _ GG).2 _ rfl).mono ?_
          rintro e w2 ⟨rfl, b2⟩
          have hpx := HPX.out
          rw [hpx]
          have kX2 := kX.later b2
          have kC2 := kC1.later b2
          have G2 := gtrans GG (gbelow (r := some g) b2)
          clear kX kC1 GG b2 g0 g1 g2 g3 g4 g5 g6 kC G
          cases hpx2 : P x
          · rw [if_neg (by rw [hpx2]; simp)] at HS
            clear hpx2 hpx HPX
            have x0 := kX2.cell 0
            have x1 := kX2.cell 1
            have x2 := kX2.cell 2
            have x3 := kX2.cell 3
            have x4 := kX2.cell 4
            have x5 := kX2.cell 5
            have x6 := kX2.cell 6
            have hsz : a * 7 + 7 ≤ cu.size := by rw [hcus]; omega
            have hget := fun m (hm : m < 7) => (kC2.cell (a * 7 + m)).trans (Array.getElem?_eq_getElem (show a * 7 + m < cu.size by omega))
            have c0 := hget 0 (by decide)
            have c1 := hget 1 (by decide)
            have c2 := hget 2 (by decide)
            have c3 := hget 3 (by decide)
            have c4 := hget 4 (by decide)
            have c5 := hget 5 (by decide)
            have c6 := hget 6 (by decide)
            have f0 := kC2.frozen (a * 7)
            have f1 := kC2.frozen (a * 7 + 1)
            have f2 := kC2.frozen (a * 7 + 2)
            have f3 := kC2.frozen (a * 7 + 3)
            have f4 := kC2.frozen (a * 7 + 4)
            have f5 := kC2.frozen (a * 7 + 5)
            have f6 := kC2.frozen (a * 7 + 6)
            simp only [Nat.add_zero] at c0
            have hal : decide ((a : Int) < (l.length : Int)) = true := decide_eq_true (by omega)
            have hal' : decide (a < l.length) = true := decide_eq_true (by omega)
            have hal2 : (a : Int) < (l.length : Int) := by omega
            have hal3 : a < l.length := by omega
            clear hget
            go_wp2_with fail
            go_roundw
            case rel =>
              refine ⟨j + 1, a + 1, put7 cu (a * 7) x, by omega, by omega, by go_num, by go_num, ?_, by omega, putw_blk (a * 7) x kC2, by rw [put7_size, hcus], A_step _ _ x cu a HS.out HAE.out hsz HA.out, ?_, gtrans G2 (putw_grown w2 g (a * 7) x)⟩
              · rw [HS.out, List.length_append, ← HAE.out]; rfl
              · intro t h1 h2 m hm
                rw [put7_other _ _ _ _ (by omega)]
                exact HBT.out t (by omega) h2 m hm
            case measure => simp [intOf]; omega
          · rw [if_pos hpx2, List.append_nil] at HS
            clear hpx2 hpx HPX
            go_wp2_with fail
            go_roundw
            case rel =>
              exact ⟨j + 1, a, cu, by omega, by omega, by go_num, rfl, by rw [HS.out]; exact HAE.out, by omega, kC2, hcus, A_same _ _ cu HS.out HA.out, fun t h1 h2 m hm => HBT.out t (by omega) h2 m hm, G2⟩
            case measure => simp [intOf]; omega
        · have hd : decide ((j : Int) < (l.length : Int)) = false := decide_eq_false (by omega)
          have hd' : decide (j < l.length) = false := decide_eq_false hlt
          have hjl : j = l.length := by omega
          have hK : kept P l j = l.filter (fun x => !P x) := by rw [hjl]; exact HEND.out
          have HB2 := Lib.hid (A_same _ _ cu hK.symm HA.out)
          have hae := HAE.out
          rw [hK] at hae
          have HAE2 := Lib.hid hae
          have hcl := fun ty => run_clear7 wr g (a * 7) (l.length - a) (cap - a) (by omega) (fun t ht => by rw [kC.cell, Array.getElem?_eq_getElem (show a * 7 + t < cu.size by rw [hcus]; omega)]; rfl) (fun t ht => kC.frozen _) ty
          obtain ⟨cu2, k2, s2, e2⟩ := sets_blk (zs (l.length - a)) (a * 7) wr cu kC
          have G3 := gtrans G (sets_grown g (zs (l.length - a)) (a * 7) wr)
          have q1 : (a : Int) ≤ (l.length : Int) := by omega
          have q2 : a ≤ l.length := by omega
          have q3 : a ≤ cap := by omega
          clear hK hae hlt HA HAE HBT
          go_wp2_with fail
          go_ret
          refine ⟨_, rfl, ⟨rows_length Cm.cells 7 Cm.cells_len _, .inr ⟨g, cap, cu2, by rw [← HAE2.out]; rfl, hgb, k2, by rw [← HAE2.out]; omega, hcmax, by rw [s2, hcus], take_flat cu2 _ (by rw [← HAE2.out, s2, hcus]; omega) (fun t ht m hm => ?_)⟩⟩, ⟨G3, .inl rfl⟩⟩
          rw [e2 _ (by have := HAE2.out; omega)]
          exact HB2.out t ht m hm
end Bat
end Go.Proofs.Ytcfcikpehekfbaa
