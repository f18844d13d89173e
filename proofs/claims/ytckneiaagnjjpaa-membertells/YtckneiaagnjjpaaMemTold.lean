/-
  The law's own told: the nodes that a set tells, up to a number of them, as a fresh slice.
-/
import Derived.Test.YtckneiaagnjjpaaMemLists
namespace Go.Proofs.Ytckneiaagnjjpaa
open Go.RowKit Go.Shelf
attribute [local go_sem] Oper.semAt_some
namespace R8
open Mem
def vals (l : List (Fin 7)) : List Nat := l.map (·.val)
theorem vals_snoc (l : List (Fin 7)) (x : Fin 7) : vals (l ++ [x]) = vals l ++ [x.val] := by simp [vals]
theorem vals_len (l : List (Fin 7)) : (vals l).length = l.length := by simp [vals]
theorem told_all (s most : Nat) (hs : s < 256) (h : (setL s).length < most) : vals (setL s) = (listN s).take most := by
  rw [← setL_val s hs, List.take_of_length_le (by simp; omega)]; rfl
theorem told_some (s most : Nat) (hs : s < 256) (pre : List (Fin 7)) (hp : pre <+: setL s) (h : pre.length = most) : vals pre = (listN s).take most := by
  obtain ⟨r, hr⟩ := hp
  rw [← setL_val s hs, ← hr, List.map_append, List.take_left' (by simp [h])]; rfl

set_option maxRecDepth 100000 in
set_option maxHeartbeats 2000000 in
theorem told_any (s most : Nat) (hs : s < 256) (hm : 1 ≤ most) (hm2 : most ≤ 1000) (w : World) :
    Calls Try.prog 15 #[.int .u8 s, .int .i64 most] w fun e w' => ∃ v, e = .returned v ∧ w'.ownsRow w.heap.size 5 1 v ((listN s).take most).length (u8s ((listN s).take most)) ∧ Below w.heap.size w w' := by
  have hl := setL_len s hs
  have hcl := cnt_le s
  refine (callsIn_wide (n := 6)).1 ?_
  refine callsIn_of_wp_marks Try.func15 rfl trivial ?_ rfl
  simp only [Try.ntmps15, List.size_toArray, List.length_cons, List.length_nil, Nat.reduceAdd, Nat.reduceSub, Array.replicate_succ, Array.replicate_zero, List.push_toArray, List.append_toArray, List.nil_append, List.cons_append]
  gi_wp2_with fail
  refine ⟨trivial, (all_in _ s _).mono ?_⟩
  rintro e w' ⟨rfl, rfl⟩
  have hnf := fun w c => run_eql_func_nil (P := Try.prog) w 43 _ _ _ (.func 27) #[] c Try.underlying43
  gi_wp2_with fail
  have b0 := Boxed.new w 3 (.int .i64 most)
  have b1 := Boxed.new (w.alloc (.cells #[.int .i64 (most : Int)] 3)) 29 (.slice none 0 0)
  have b2 := Boxed.new ((w.alloc (.cells #[.int .i64 (most : Int)] 3)).alloc (.cells #[.slice none 0 0] 29)) 22 (.int .u8 s)
  simp only [World.size_alloc] at b1 b2
  clear hnf
  refine wpIn_rangeFunc_ownG rfl (by decide) (gf := 27) (lb := #[.pointer (some ⟨w.heap.size + 1 + 1, 0, none⟩)]) rfl trivial (enters_of Try.func27 (by kernel_rfl) rfl)
    (all_stops _ (by decide) (w.heap.size + 1 + 1) s hs _ (by simp) b2.cell) (fun _ _ => trivial) (fun _ _ _ _ _ _ _ _ => trivial) (Below.refl _ _) (fun _ => rfl)
    (fun pre W => (pre.length < most ∧ Boxed W w.heap.size 3 (.int .i64 most)) ∧ (∃ v, Boxed W (w.heap.size + 1) 29 v ∧ W.ownsRow w.heap.size 5 1 v pre.length (u8s (vals pre)) ∧ True) ∧ Below w.heap.size w W)
    (fun c pre W => (c = .exit 0 ∧ pre.length = most) ∧ (∃ v, Boxed W (w.heap.size + 1) 29 v ∧ W.ownsRow w.heap.size 5 1 v pre.length (u8s (vals pre)) ∧ True) ∧ Below w.heap.size w W)
    (OwnFrom.and (Own.from (fun t A B row hs hg hr => ⟨hs.1, boxed_own _ _ (fun _ : Unit => _) () A B row hs.2 hg hr⟩) _) (OwnFrom.and (Own.from (holdsRow_own _ _ _ _ 1 (fun pre : List (Fin 7) => pre.length) (fun pre => u8s (vals pre)) (fun _ _ => True)) _) (ownFrom_below (Nat.le_refl _) (by simp; omega))))
    (fun c => OwnFrom.and (ownFrom_pure _ _) (OwnFrom.and (Own.from (holdsRow_own _ _ _ _ 1 (fun pre : List (Fin 7) => pre.length) (fun pre => u8s (vals pre)) (fun _ _ => True)) _) (ownFrom_below (Nat.le_refl _) (by simp; omega))))
    ⟨⟨hm, (b0.alloc _).alloc _⟩, ⟨_, b1.alloc _, World.ownsRow_nil _ _ _ _, trivial⟩, ((((Below.refl _ w).alloc (Nat.le_refl _) _).alloc (by simp) _).alloc (by simp; omega) _)⟩
    (fun x => { tmps := #[.int .u8 s, .int .i64 most, undef, .pointer (some ⟨w.heap.size, 0, none⟩), .slice none 0 0, .pointer (some ⟨w.heap.size + 1, 0, none⟩), .func (.func 27) #[] #[.pointer (some ⟨w.heap.size + 1 + 1, 0, none⟩)], .int .u8 (x.val : Int), .int .u8 s, .func (.func 27) #[] #[.pointer (some ⟨w.heap.size + 1 + 1, 0, none⟩)], .func (.func 27) #[] #[.pointer (some ⟨w.heap.size + 1 + 1, 0, none⟩)], .bool false, .func (.func 27) #[] #[.pointer (some ⟨w.heap.size + 1 + 1, 0, none⟩)], .int .u8 (x.val : Int), undef, undef, undef, undef, undef, undef, undef, undef, undef], defers := [] }) ?assign ?body ?done ?stop
  case assign =>
    intro l x W K hK
    gi_wp2
    exact hK
  case body =>
    rintro l pre x W ⟨⟨hp, hcm⟩, ⟨v, hv, hrow, _⟩, hB⟩ _
    have g1 := hcm.cell
    have g2 := hv.cell
    have g3 := hB.size
    have hu := u8s_append (vals pre) [x.val]
    rw [← vals_snoc] at hu
    have HU := Lib.hid hu
    clear hu
    obtain ⟨i, hi, hz, hz1, hz2⟩ := info_parts info
    gi_wp2_with (gi_at_builtin; refine wpListIn_append_own _ rfl _ _ 29 rfl w.heap.size 5 i (.int .u8 0) 1 1 Try.underlying29 hi hz hz1 hz2 rfl (by decide) _ _ _ rfl (hrow.alloc _) ⟨W.heap.size, 0, none⟩ 1 1 [.int .u8 (x.val : Int)] rfl rfl (cell_one_new _ _ _) (by simp [Value.oneCell']) (by simp only [maxLen]; omega) (by omega) (by simp; omega) ?_; intro v' w1 hown' hgrow _; obtain ⟨g', cap', rfl⟩ := ownsRow_succ hown'; obtain ⟨hv1, hv2, hr2, hk2, hb2⟩ := hv.appended (by decide) hrow g3 (by omega) hown' hgrow; have hc1 := hv1.cell; have hf1 := hv1.frozen; have hm1 := (hcm.alloc (.cells #[.int .u8 (x.val : Int)] 5)).kept hgrow (hcm.not_row (by decide) hrow); have hmc := hm1.cell; have hm2 := hm1.other (show w.heap.size ≠ w.heap.size + 1 by omega) (Value.slice (some { block := g', off := 0 }) (pre.length + 1) cap'))
    · have hge : most ≤ pre.length + 1 := by omega
      exact ⟨hk2.from _, ⟨⟨rfl, by simp; omega⟩, ⟨_, hv2, by rw [HU.out, List.length_append]; exact hr2, trivial⟩, hB.trans hb2⟩⟩
    · have hlt : pre.length + 1 < most := by omega
      exact ⟨hk2.from _, trivial, ⟨⟨by simp; omega, hm2⟩, ⟨_, hv2, by rw [HU.out, List.length_append]; exact hr2, trivial⟩, hB.trans hb2⟩⟩
  case done =>
    rintro D ys W hD rfl ⟨⟨hne, _⟩, ⟨v, hv, hrow, _⟩, hB⟩ hK
    have g2 := hv.cell
    have g3 := hv.frozen
    gi_wp2
    refine ⟨by simp, .inl ⟨_, _, rfl, run_takeDeferred hK, ?_⟩⟩
    have hr := ownsRow_putObj hrow (.deferred none) hK rfl
    rw [← vals_len, told_all s most hs hne] at hr
    exact ⟨_, results_tmp rfl _ _ _, v, rfl, hr, hB.trans (belowK_b (w := w) (Nat.le_refl _) W D _ _ (by simp at hD; omega) hK rfl rfl)⟩
  case stop =>
    rintro D c pre W hD hpre ⟨⟨rfl, hin⟩, ⟨v, hv, hrow, _⟩, hB⟩ hK
    have g2 := hv.cell
    gi_wp2
    refine ⟨by simp, .inl ⟨_, _, rfl, run_takeDeferred hK, ?_⟩⟩
    have hr := ownsRow_putObj hrow (.deferred none) hK rfl
    rw [← vals_len, told_some s most hs pre hpre hin] at hr
    exact ⟨_, results_tmp rfl _ _ _, v, rfl, hr, hB.trans (belowK_b (w := w) (Nat.le_refl _) W D _ _ (by simp at hD; omega) hK rfl rfl)⟩
end R8
end Go.Proofs.Ytckneiaagnjjpaa
