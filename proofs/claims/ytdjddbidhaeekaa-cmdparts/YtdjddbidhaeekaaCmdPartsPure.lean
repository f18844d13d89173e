/-
  CmdParts, walked.
-/
import Derived.Test.YtdjddbidhaeekaaCmdWakes
import Derived.Deep.DeepCutAuto
namespace Go.Proofs.Ytdjddbidhaeekaa
open Go.RowKit Go.WideShapes
namespace Cm
open Wire
def z65 : ByteArray := bs (List.replicate 65 0)
def z17 : ByteArray := bs (List.replicate 17 0)
theorem z65_size : z65.size = 65 := by kernel_rfl
theorem z17_size : z17.size = 17 := by kernel_rfl
def key7 (c : Cm) : ByteArray := if c.kd = 5 then ⟨#[107]⟩ else ⟨#[]⟩
def partsQ (c : Cm) (q : ByteArray) : List Cm := [⟨4, c.sq, c.kd, c.key, c.old, c.new, c.set⟩, ⟨c.cl, 0, c.kd, c.key, c.old, c.new, c.set⟩, ⟨c.cl, c.sq, 0, c.key, c.old, c.new, c.set⟩, ⟨c.cl, c.sq, 6, c.key, c.old, c.new, c.set⟩, ⟨c.cl, c.sq, c.kd, z17, c.old, c.new, c.set⟩, ⟨c.cl, c.sq, c.kd, c.key, z65, c.new, c.set⟩, ⟨c.cl, c.sq, c.kd, c.key, c.old, z65, c.set⟩, ⟨c.cl, c.sq, c.kd, q, c.old, c.new, c.set⟩]
def parts (c : Cm) : List Cm := partsQ c (key7 c)
def PA (c : Cm) (q : ByteArray) : Array Value := ((partsQ c q).flatMap cells).toArray
theorem parts_len (c : Cm) : (parts c).length = 8 := rfl
theorem parts_bad (c : Cm) (hok : c.ok) (h : c.may) : ∀ x ∈ parts c, x.ok ∧ ¬ x.may := by
  obtain ⟨⟨h1, h2⟩, h3, h4, h5, h6, h7, h8, h9, h10, h11⟩ := h
  obtain ⟨o1, o2, o3, o4, o5, o6, o7⟩ := hok
  have e1 := z65_size
  have e2 := z17_size
  have e3 : (key7 c).size = if c.kd = 5 then 1 else 0 := by unfold key7; split <;> rfl
  intro x hx
  simp only [parts, partsQ, List.mem_cons, List.not_mem_nil, or_false] at hx
  rcases hx with rfl | rfl | rfl | rfl | rfl | rfl | rfl | rfl <;> unfold ok may <;> dsimp only <;> refine ⟨?_, ?_⟩ <;> (try split at e3) <;> omega
def setS (c : Cm) : Cm := ⟨c.cl, c.sq, c.kd, c.key, c.old, c.new, 1⟩
def setO (c : Cm) : Cm := ⟨c.cl, c.sq, c.kd, c.key, ⟨#[111]⟩, c.new, c.set⟩
def setN (c : Cm) : Cm := ⟨c.cl, c.sq, c.kd, c.key, c.old, ⟨#[110]⟩, c.set⟩
theorem one_size (a : UInt8) : (⟨#[a]⟩ : ByteArray).size = 1 := rfl
theorem set_ok (c : Cm) (hok : c.ok) : (setS c).ok ∧ (setO c).ok ∧ (setN c).ok := by
  obtain ⟨o1, o2, o3, o4, o5, o6, o7⟩ := hok
  have e1 := one_size 111
  have e2 := one_size 110
  unfold setS setO setN ok
  dsimp only
  omega
theorem chk_eq (x : Cm) : (chk x == 0) = decide x.may := by unfold chk; split <;> rename_i h <;> simp [h]
theorem set_s (c : Cm) (h : c.may) : (chk (setS c) == 0) = decide (c.kd = 5) := by
  rw [chk_eq]
  obtain ⟨⟨h1, h2⟩, h3, h4, h5, h6, h7, h8, h9, h10, h11⟩ := h
  apply decide_eq_decide.2
  unfold setS may
  dsimp only
  omega
theorem set_o (c : Cm) (h : c.may) : (chk (setO c) == 0) = decide (c.kd = 4) := by
  rw [chk_eq]
  obtain ⟨⟨h1, h2⟩, h3, h4, h5, h6, h7, h8, h9, h10, h11⟩ := h
  have e1 := one_size 111
  apply decide_eq_decide.2
  unfold setO may
  dsimp only
  omega
theorem set_n (c : Cm) (h : c.may) : (chk (setN c) == 0) = (decide (c.kd = 4) || decide (c.kd = 2)) := by
  rw [chk_eq, ← Bool.decide_or]
  obtain ⟨⟨h1, h2⟩, h3, h4, h5, h6, h7, h8, h9, h10, h11⟩ := h
  have e1 := one_size 110
  apply decide_eq_decide.2
  unfold setN may
  dsimp only
  omega
theorem rdT_blk {w : World} {b : Nat} {l : List Cm} {cs : Array Value} {t : TypeId} {fr : Nat × Nat} (h : Blk w b (.cells cs t fr)) (e : cs.toList = l.flatMap cells) (hl : l.length ≤ 9223372036854775807) (n cap : Nat) (hn : n = l.length) : RdT cells w (.slice (some ⟨b, 0, none⟩) n cap) l := by
  subst hn
  exact ⟨_, cap, rfl, hl, fun j u hj => ⟨b, 0, rfl, by rw [h.cell, Nat.zero_add, ← Array.getElem?_toList, e]; exact hj⟩, fun h => by cases h⟩
theorem mk65 (w : World) : (Instr.makeSlice 26 (.int .i64 65) (.int .i64 65)).run Try.prog w = .ok (.slice (some ⟨w.heap.size, 0, none⟩) 65 65) (w.alloc (.cells (Array.replicate 65 (.int .u8 0)) 5)) := by kernel_rfl
theorem text65 {w : World} {b : Nat} (h : Blk w b (.cells (Array.replicate 65 (.int .u8 0)) 5)) : (convert 26 9 (.slice (some ⟨b, 0, none⟩) 65 65)).run Try.prog w = .ok (.string z65) w := by
  refine run_convert_bytes_back w _ _ 5 ⟨b, 0, none⟩ 65 (List.replicate 65 0) Try.underlying26 Try.underlying5 Try.underlying9 (fun j hj => ?_)
  have hj' : j < 65 := by simpa using hj
  have := h.cell j
  simp [hj'] at this
  rw [List.getElem_replicate]
  have e : (⟨b, 0, none⟩ : Addr).add j = ⟨b, j, none⟩ := by unfold Addr.add; split <;> simp_all
  rw [e, this]
  rfl
theorem PA_made (c : Cm) (cs : Array Value) (h : #[.int .u8 c.cl, .int .u32 c.sq, .int .u8 c.kd, .string c.key, .string c.old, .string c.new, .int .u8 c.set, .int .u8 c.cl, .int .u32 c.sq, .int .u8 c.kd, .string c.key, .string c.old, .string c.new, .int .u8 c.set, .int .u8 c.cl, .int .u32 c.sq, .int .u8 c.kd, .string c.key, .string c.old, .string c.new, .int .u8 c.set, .int .u8 c.cl, .int .u32 c.sq, .int .u8 c.kd, .string c.key, .string c.old, .string c.new, .int .u8 c.set, .int .u8 c.cl, .int .u32 c.sq, .int .u8 c.kd, .string c.key, .string c.old, .string c.new, .int .u8 c.set, .int .u8 c.cl, .int .u32 c.sq, .int .u8 c.kd, .string c.key, .string c.old, .string c.new, .int .u8 c.set, .int .u8 c.cl, .int .u32 c.sq, .int .u8 c.kd, .string c.key, .string c.old, .string c.new, .int .u8 c.set, .int .u8 c.cl, .int .u32 c.sq, .int .u8 c.kd, .string c.key, .string c.old, .string c.new, .int .u8 c.set] = cs) : ((((((((cs.setIfInBounds 0 (.int .u8 4)).setIfInBounds 8 (.int .u32 0)).setIfInBounds 16 (.int .u8 0)).setIfInBounds 23 (.int .u8 6)).setIfInBounds 31 (.string z17)).setIfInBounds 39 (.string z65)).setIfInBounds 47 (.string z65)).setIfInBounds 52 (.string ⟨#[]⟩)) = PA c ⟨#[]⟩ := by
  subst h
  simp only [List.setIfInBounds_toArray, List.set_cons_zero, List.set_cons_succ]
  rfl
theorem PA_set (c : Cm) (q : ByteArray) : (PA c ⟨#[]⟩).setIfInBounds 52 (.string q) = PA c q := by
  unfold PA partsQ
  simp only [List.flatMap_cons, List.flatMap_nil, cells, List.cons_append, List.nil_append, List.append_nil, List.setIfInBounds_toArray, List.set_cons_zero, List.set_cons_succ]
theorem PA_52 (c : Cm) (q : ByteArray) : (PA c q)[52]? = some (.string q) := rfl
theorem cut17 : z65.extract 0 17 = z17 := by unfold z65 z17; rw [bs_extract]; kernel_rfl
end Cm
end Go.Proofs.Ytdjddbidhaeekaa
