/-
  The package thrift's Pick.
-/
import Derived.Test.YthhgcfklaakndaaThrSeq
namespace Go.Proofs.Ythhgcfklaakndaa
open Go.RowKit Go.Shelf
attribute [local go_sem] Oper.semAt_some
namespace Thr
open Mem R8
def pkStep (c o n : Nat) : Nat := mWith o (mBoth (mOf [n]) c)
def pkStop (c o : Nat) : Bool := mMajor c o || decide (cnt c = 0)
def pkF (c o n : Nat) : Nat := if pkStop c o = true then o else pkStep c o n
def pk (c : Nat) (l : List Nat) : Nat := l.foldl (pkF c) 0
theorem pkF_stop (c o : Nat) (h : pkStop c o = true) (l : List Nat) : l.foldl (pkF c) o = o := by
  induction l with
  | nil => rfl
  | cons n l ih => rw [List.foldl_cons, pkF, if_pos h]; exact ih
theorem pk_snoc (c : Nat) (l : List Nat) (n : Nat) : pk c (l ++ [n]) = pkF c (pk c l) n := by simp [pk]
theorem pk_stop (c : Nat) (pre post : List Nat) (h : pkStop c (pk c pre) = true) : pk c (pre ++ post) = pk c pre := by
  rw [pk, List.foldl_append]; exact pkF_stop c _ h post
theorem pk_lt (c : Nat) (l : List Nat) : pk c l < 128 := by
  have : ∀ (l : List Nat) o, o < 128 → l.foldl (pkF c) o < 128 := by
    intro l; induction l with
    | nil => intro o h; exact h
    | cons n l ih =>
      intro o h
      rw [List.foldl_cons]
      refine ih _ ?_
      unfold pkF; split
      · exact h
      · exact mWith_lt _ _
  exact this l 0 (by decide)
theorem pick_nil (c : Nat) (w : World) :
    Calls Try.prog 10 #[.pointer none, .int .u8 c] w fun e w' => e = .returned (.int .u8 0) ∧ Below w.heap.size w w' := by
  refine (callsIn_wide (n := 12)).1 ?_
  refine callsIn_of_wp_marks Try.func10 rfl trivial ?_ rfl
  simp only [Try.ntmps10, List.size_toArray, List.length_cons, List.length_nil, Nat.reduceAdd, Nat.reduceSub, Array.replicate_succ, Array.replicate_zero, List.push_toArray, List.append_toArray, List.nil_append, List.cons_append]
  gi_wp2_with fail
  exact ⟨_, results_tmp rfl _ _ _, rfl, below2 w _ _⟩
set_option maxRecDepth 100000 in
set_option maxHeartbeats 2000000 in
theorem pick_any (mb self base : Nat) (rv : Value) (row : List Nat) (c : Nat) (hc : c < 256) (hs : self < 256) (hrow : ∀ x ∈ row, x < 256) (w : World) (hM : Blk w mb (.cells #[.int .u8 (self : Int), rv] 41)) (hR : w.ownsRow base 5 1 rv row.length (u8s row)) :
    Calls Try.prog 10 #[.pointer (some ⟨mb, 0, none⟩), .int .u8 c] w fun e w' => e = .returned (.int .u8 (pk c (self :: row ++ listN c) : Nat)) ∧ Below w.heap.size w w' := by
  obtain ⟨L, hL⟩ : ∃ L, self :: row ++ listN c = L := ⟨_, rfl⟩
  have hLt : ∀ x ∈ L, x < 256 := by
    rw [← hL]
    intro x hx
    rcases List.mem_append.1 hx with h | h
    · rcases List.mem_cons.1 h with h | h
      · omega
      · exact hrow x h
    · have := listN_lt c x h; omega
  have hseq := fun (V : World) kP kD kM kR => first1_seq (12 - 1) (by decide) (w.heap.size + 1 + 1) (w.heap.size + 1 + 1 + 1) mb self base rv row c hc hs hrow V kP kD kM kR
  rw [hL] at hseq ⊢
  clear hL hrow
  have HSEQ := Lib.hid hseq
  clear hseq
  have lM := hM.lt
  have lR := fun b hb => (hR.lt b hb).2
  refine (callsIn_wide (n := 12)).1 ?_
  refine callsIn_of_wp_marks Try.func10 rfl trivial ?_ rfl
  simp only [Try.ntmps10, List.size_toArray, List.length_cons, List.length_nil, Nat.reduceAdd, Nat.reduceSub, Array.replicate_succ, Array.replicate_zero, List.push_toArray, List.append_toArray, List.nil_append, List.cons_append]
  gi_wp2_with fail
  refine ⟨trivial, (first_mk _ mb c _).mono ?_⟩
  rintro e w' ⟨rfl, rfl⟩
  gi_wp2_with fail
  have kC : Blk (((w.alloc (.cells #[.int .u8 (c : Int)] 28)).alloc (.cells #[.int .u8 0] 28)).alloc (.cells #[.pointer (some ⟨mb, 0, none⟩)] 24)) w.heap.size (.cells #[.int .u8 (c : Int)] 28) := ((Blk.new w _).alloc _).alloc _
  have kO : Blk (((w.alloc (.cells #[.int .u8 (c : Int)] 28)).alloc (.cells #[.int .u8 0] 28)).alloc (.cells #[.pointer (some ⟨mb, 0, none⟩)] 24)) (w.heap.size + 1) (.cells #[.int .u8 0] 28) := (Blk.newAt _ (by simp)).alloc _
  have kP : Blk ((((w.alloc (.cells #[.int .u8 (c : Int)] 28)).alloc (.cells #[.int .u8 0] 28)).alloc (.cells #[.pointer (some ⟨mb, 0, none⟩)] 24)).alloc (.cells #[.int .u8 (c : Int)] 28)) (w.heap.size + 1 + 1) (.cells #[.pointer (some ⟨mb, 0, none⟩)] 24) := (Blk.newAt _ (by simp)).alloc _
  have kD : Blk ((((w.alloc (.cells #[.int .u8 (c : Int)] 28)).alloc (.cells #[.int .u8 0] 28)).alloc (.cells #[.pointer (some ⟨mb, 0, none⟩)] 24)).alloc (.cells #[.int .u8 (c : Int)] 28)) (w.heap.size + 1 + 1 + 1) (.cells #[.int .u8 (c : Int)] 28) := Blk.newAt _ (by simp)
  have kC := kC.alloc (.cells #[.int .u8 (c : Int)] 28)
  have kO := kO.alloc (.cells #[.int .u8 (c : Int)] 28)
  have kM := (((hM.alloc (.cells #[.int .u8 (c : Int)] 28)).alloc (.cells #[.int .u8 0] 28)).alloc (.cells #[.pointer (some ⟨mb, 0, none⟩)] 24)).alloc (.cells #[.int .u8 (c : Int)] 28)
  have bV : Below w.heap.size w ((((w.alloc (.cells #[.int .u8 (c : Int)] 28)).alloc (.cells #[.int .u8 0] 28)).alloc (.cells #[.pointer (some ⟨mb, 0, none⟩)] 24)).alloc (.cells #[.int .u8 (c : Int)] 28)) := (((below1 w _).alloc (by simp) _).alloc (by simp; omega) _).alloc (by simp; omega) _
  have kR := ownsRow_below hR bV
  have hVz : ((((w.alloc (.cells #[.int .u8 (c : Int)] 28)).alloc (.cells #[.int .u8 0] 28)).alloc (.cells #[.pointer (some ⟨mb, 0, none⟩)] 24)).alloc (.cells #[.int .u8 (c : Int)] 28)).heap.size = w.heap.size + 1 + 1 + 1 + 1 := by simp

  obtain ⟨V, hV⟩ : ∃ V, (((w.alloc (.cells #[.int .u8 (c : Int)] 28)).alloc (.cells #[.int .u8 0] 28)).alloc (.cells #[.pointer (some ⟨mb, 0, none⟩)] 24)).alloc (.cells #[.int .u8 (c : Int)] 28) = V := ⟨_, rfl⟩
  rw [hV] at kC kO kP kD kM kR bV hVz ⊢
  clear hV hM hR
  refine wpIn_range rfl (by decide) (gf := 30) (lb := #[.pointer (some ⟨w.heap.size + 1 + 1, 0, none⟩), .pointer (some ⟨w.heap.size + 1 + 1 + 1, 0, none⟩)]) rfl trivial (enters_of Try.func30 (by kernel_rfl) rfl)
    (HSEQ.out V kP kD kM kR) (fun b h => by
      rcases h with h | h | h | h
      · omega
      · omega
      · omega
      · have := lR b h; omega) (fun _ => rfl)
    (fun ys fp W' => Blk W' w.heap.size (.cells #[.int .u8 (c : Int)] 28) ∧ Blk W' (w.heap.size + 1) (.cells #[.int .u8 ((pk c ys : Nat) : Int)] 28) ∧ Below w.heap.size w W')
    (fun c' ys fp W' => c' = .exit 0 ∧ Blk W' (w.heap.size + 1) (.cells #[.int .u8 ((pk c L : Nat) : Int)] 28) ∧ Below w.heap.size w W')
    (fun ys fp A B h hs => ⟨hs.blk h.1 (.inl (by omega)), hs.blk h.2.1 (.inl (by omega)), hs.below h.2.2 (by omega) (Nat.le_refl _)⟩)
    (fun c' ys fp A B h hs => ⟨h.1, hs.blk h.2.1 (.inl (by omega)), hs.below h.2.2 (by omega) (Nat.le_refl _)⟩)
    ⟨kC, kO, bV⟩ ?round ?done ?stop
  case round =>
    clear kC kO kP kD kM kR bV HSEQ
    rintro l pre x post fp W2 hLe hl hl2 ⟨kC, kO, BB⟩ hfp
    unfold nv
    gi_wp2
    refine ⟨Below.refl _ _, ?_⟩
    rintro W3 hg ⟨r, hr⟩ ⟨kC3, kO3, B3⟩
    clear kC kO BB
    have hz3 := hg.size
    have hlW3 : ∀ b, fp b → b < W3.heap.size := fun b hb => by have := (hfp b hb).2; omega
    have hx := hLt x (by rw [hLe]; simp)
    have ho := pk_lt c pre
    have hst := pk_stop c pre (x :: post)
    rw [← hLe] at hst
    have hsn := pk_snoc c pre x
    obtain ⟨o, hoe⟩ : ∃ o, pk c pre = o := ⟨_, rfl⟩
    rw [hoe] at kO3 ho hst hsn
    have HOE := Lib.hid hoe
    have HST := Lib.hid hst
    have HSN := Lib.hid hsn
    clear hoe hst hsn hLt hLe hr
    have gC := kC3.cell 0
    have gO := kO3.cell 0
    gi_wp2_with fail
    refine ⟨trivial, CallsIn.inRound l ((callsIn_wide.2 (Mem.major_any _ _ (by omega) (by omega) (by omega) (by omega) _)).mono ?_)⟩
    rintro e w' ⟨rfl, rfl⟩
    simp only [Int.toNat_natCast]
    cases hmj : mMajor c o
    · gi_wp2_with fail
      refine ⟨trivial, CallsIn.inRound l ((callsIn_wide.2 (Mem.len_any _ (by omega) (by omega) _)).mono ?_)⟩
      rintro e w' ⟨rfl, rfl⟩
      simp only [Int.toNat_natCast]
      by_cases hcn : cnt c = 0
      · have t1 : ((cnt c : Int) == 0) = true := by simp [hcn]
        have HS := Lib.hid (HST.out (by rw [pkStop, hmj, decide_eq_true hcn]; rfl))
        gi_wp2_with fail
        exact ⟨fp, Moves.refl _ hlW3, rfl, by rw [HS.out]; exact kO3, B3⟩
      · have t1 : ((cnt c : Int) == 0) = false := by simp; omega
        have HS := Lib.hid (show pkF c o x = pkStep c o x by unfold pkF; rw [if_neg (by rw [pkStop, hmj, decide_eq_false hcn]; simp)])
        clear HST hmj
        gi_wp2_with fail
        have hS : Blk W3.drew w.heap.size (.cells #[.int .u8 (c : Int)] 28) ∧ Below w.heap.size w W3.drew ∧ Moves (fun b => (b = w.heap.size + 1 + 1 ∨ b = w.heap.size + 1 + 1 + 1 ∨ b = mb ∨ rv.ownBlock = some b) ∨ w.heap.size + 1 + 1 + 1 + 1 ≤ b) fp W3 fp W3.drew := ⟨kC3.drew, Below.drew B3, Moves.of_below (Below.drew (Below.refl _ _)) hlW3⟩
        have kOd := kO3.drew
        clear gC gO hcn
        refine wpIn_region_valsU (fun w' => Blk w' w.heap.size (.cells #[.int .u8 (c : Int)] 28) ∧ Below w.heap.size w w' ∧ Moves (fun b => (b = w.heap.size + 1 + 1 ∨ b = w.heap.size + 1 + 1 + 1 ∨ b = mb ∨ rv.ownBlock = some b) ∨ w.heap.size + 1 + 1 + 1 + 1 ≤ b) fp W3 fp w')
          (fun i w1 w2 => match i with
            | 7 => w2 = w1.setCell ⟨w.heap.size + 1, 0, none⟩ (.int .u8 (pkStep c o x : Nat))
            | _ => Below w1.heap.size w1 w2)
          (fun i u w1 => match i with
            | 0 => u = .int .u8 (o : Int)
            | 1 => u = .int .u8 (x : Int)
            | 2 => ∃ b, u = .slice (some ⟨b, 0, none⟩) 1 1 ∧ w.heap.size + 1 < b ∧ Blk w1 b (.cells #[.int .u8 (x : Int)] 5)
            | 3 => u = .int .u8 (mOf [x] : Nat)
            | 4 => u = .int .u8 (c : Int)
            | 5 => u = .int .u8 (mBoth (mOf [x]) c : Nat)
            | 6 => u = .int .u8 (pkStep c o x : Nat)
            | 7 => Blk w1 (w.heap.size + 1) (.cells #[.int .u8 ((pkStep c o x : Nat) : Int)] 28)
            | _ => True)
          (fun i w1 => match i with
            | 7 => Blk w1 (w.heap.size + 1) (.cells #[.int .u8 (o : Int)] 28)
            | _ => True)
          [(0, some 22), (1, some 23), (2, some 24), (3, some 25), (4, some 26), (5, some 27), (6, some 28), (7, none)] (by kernel_rfl) (by kernel_rfl) hS ?_ ?_ ?_ ?_ ?_
        · intro k hk
          by_cases h7 : k = 7
          · subst h7; exact kOd
          · match k, h7 with
            | 0, _ | 1, _ | 2, _ | 3, _ | 4, _ | 5, _ | 6, _ => trivial
            | k + 8, _ => trivial
        · intro i hi j hj hne u w1 w2 hR hV
          simp only [List.map_cons, List.map_nil, List.mem_cons, List.not_mem_nil, or_false] at hi hj
          rcases hi with rfl | rfl | rfl | rfl | rfl | rfl | rfl | rfl <;> rcases hj with rfl | rfl | rfl | rfl | rfl | rfl | rfl | rfl
          all_goals first
            | exact absurd rfl hne
            | exact hV
            | exact Blk.later hV hR
            | (obtain ⟨b, e, hb, kb⟩ := hV; exact ⟨b, e, hb, kb.later hR⟩)
            | (obtain ⟨b, e, hb, kb⟩ := hV; cases hR; exact ⟨b, e, hb, kb.other (a := ⟨w.heap.size + 1, 0, none⟩) (by dsimp only; omega) _⟩)
        · intro i hi k hk hne w1 w2 hR hU
          simp only [List.map_cons, List.map_nil, List.mem_cons, List.not_mem_nil, or_false] at hi
          by_cases h7 : k = 7
          · subst h7
            rcases hi with rfl | rfl | rfl | rfl | rfl | rfl | rfl | rfl
            all_goals first
              | exact absurd rfl hne
              | exact Blk.later hU hR
          · match k, h7 with
            | 0, _ | 1, _ | 2, _ | 3, _ | 4, _ | 5, _ | 6, _ => trivial
            | k + 8, _ => trivial
        · refine steps_cons (stepInU_list rfl (fun y w1 hS hd hU hF K hK => ?_)) ?_
          · have k15 : Blk w1 (w.heap.size + 1) (.cells #[.int .u8 (o : Int)] 28) := hF 7 (by kernel_rfl)
            have g := k15.cell 0
            simp only [putD, Act.put, List.setIfInBounds_toArray, List.set_cons_zero, List.set_cons_succ] at hK ⊢
            gi_wp2
            exact hK.out _ _ hS (Below.refl _ _) rfl
          refine steps_cons (stepInU_list rfl (fun y w1 hS hd hU hF K hK => ?_)) ?_
          · simp only [putD, Act.put, List.setIfInBounds_toArray, List.set_cons_zero, List.set_cons_succ] at hK ⊢
            gi_wp2
            exact hK.out _ _ hS (Below.refl _ _) rfl
          refine steps_cons (stepInU_list rfl (fun y w1 hS hd hU hF K hK => ?_)) ?_
          · have e1 : y 1 = .int .u8 (x : Int) := hd 1 (by kernel_rfl)
            obtain ⟨s1, s2, s3⟩ := hS
            have hb1 := s2.size
            simp only [putD, Act.put, List.setIfInBounds_toArray, List.set_cons_zero, List.set_cons_succ, e1] at hK ⊢
            gi_wp2
            exact hK.out _ _ ⟨s1.alloc _, Below.later' s2 (below1 w1 _), s3.trans (Moves.of_below (below1 w1 _) (fun b h => (s3.own b h).1))⟩ (below1 w1 _) ⟨w1.heap.size, rfl, by have := s3.size; omega, Blk.new w1 _⟩
          refine steps_cons (stepInU_list rfl (fun y w1 hS hd hU hF K hK => ?_)) ?_
          · have e1 : ∃ b, y 2 = .slice (some ⟨b, 0, none⟩) 1 1 ∧ w.heap.size + 1 < b ∧ Blk w1 b (.cells #[.int .u8 (x : Int)] 5) := hd 2 (by kernel_rfl)
            obtain ⟨b, e1, hb, kb⟩ := e1
            have rdb : RdB w1 (.slice (some ⟨b, 0, none⟩) 1 1) [x] := ⟨_, 1, rfl, by simp; omega, by simp, fun i hi => ⟨_, _, rfl, by
              have : i = 0 := by simpa using hi
              subst this; exact kb.cell 0⟩, fun h => by cases h⟩
            simp only [putD, Act.put, List.setIfInBounds_toArray, List.set_cons_zero, List.set_cons_succ, e1] at hK ⊢
            gi_wp2_with fail
            refine ⟨trivial, CallsIn.inRound l ((callsIn_wide.2 (Mem.of_any _ [x] _ rdb)).mono ?_)⟩
            rintro e w2 ⟨rfl, rfl⟩
            gi_wp2_with fail
            exact hK.out _ _ hS (Below.refl _ _) rfl
          refine steps_cons (stepInU_list rfl (fun y w1 hS hd hU hF K hK => ?_)) ?_
          · have g := hS.1.cell 0
            simp only [putD, Act.put, List.setIfInBounds_toArray, List.set_cons_zero, List.set_cons_succ] at hK ⊢
            gi_wp2
            exact hK.out _ _ hS (Below.refl _ _) rfl
          refine steps_cons (stepInU_list rfl (fun y w1 hS hd hU hF K hK => ?_)) ?_
          · have e1 : y 3 = .int .u8 (mOf [x] : Nat) := hd 3 (by kernel_rfl)
            have e2 : y 4 = .int .u8 (c : Int) := hd 4 (by kernel_rfl)
            have := mOf_lt [x]
            simp only [putD, Act.put, List.setIfInBounds_toArray, List.set_cons_zero, List.set_cons_succ, e1, e2] at hK ⊢
            gi_wp2_with fail
            refine ⟨trivial, CallsIn.inRound l ((callsIn_wide.2 (Mem.both_any _ _ (by omega) (by omega) (by omega) (by omega) _)).mono ?_)⟩
            rintro e w2 ⟨rfl, rfl⟩
            simp only [Int.toNat_natCast]
            gi_wp2_with fail
            exact hK.out _ _ hS (Below.refl _ _) rfl
          refine steps_cons (stepInU_list rfl (fun y w1 hS hd hU hF K hK => ?_)) ?_
          · have e1 : y 0 = .int .u8 (o : Int) := hd 0 (by kernel_rfl)
            have e2 : y 5 = .int .u8 (mBoth (mOf [x]) c : Nat) := hd 5 (by kernel_rfl)
            have := mBoth_lt (mOf [x]) c
            simp only [putD, Act.put, List.setIfInBounds_toArray, List.set_cons_zero, List.set_cons_succ, e1, e2] at hK ⊢
            gi_wp2_with fail
            refine ⟨trivial, CallsIn.inRound l ((callsIn_wide.2 (Mem.with_any _ _ (by omega) (by omega) (by omega) (by omega) _)).mono ?_)⟩
            rintro e w2 ⟨rfl, rfl⟩
            simp only [Int.toNat_natCast]
            gi_wp2_with fail
            exact hK.out _ _ hS (Below.refl _ _) rfl
          refine steps_cons (stepInU_list rfl (fun y w1 hS hd hU hF K hK => ?_)) ?_
          · have e1 : y 6 = .int .u8 (pkStep c o x : Nat) := hd 6 (by kernel_rfl)
            have k15 : Blk w1 (w.heap.size + 1) (.cells #[.int .u8 (o : Int)] 28) := hU
            obtain ⟨s1, s2, s3⟩ := hS
            have g := k15.cell 0
            have gf := k15.frozen 0
            simp only [putD, Act.put, List.setIfInBounds_toArray, List.set_cons_zero, List.set_cons_succ, e1] at hK ⊢
            gi_wp2
            exact hK.out undef _ ⟨s1.other (a := ⟨w.heap.size + 1, 0, none⟩) (by dsimp only; omega) _, s2.setCell (p := ⟨w.heap.size + 1, 0, none⟩) (by dsimp only; omega) _, s3.trans (Moves.set ⟨w.heap.size + 1, 0, none⟩ _ (fun b h => (s3.own b h).1) (fun h => by
              exfalso
              dsimp only at h
              rcases h with (h | h | h | h) | h
              · omega
              · omega
              · omega
              · have := lR _ h; omega
              · omega))⟩ rfl (k15.set 0 _)
          exact steps_nil
        · intro y w1 hS hv
          have k7 : Blk w1 (w.heap.size + 1) (.cells #[.int .u8 ((pkStep c o x : Nat) : Int)] 28) := hv 7 (by simp)
          obtain ⟨s1, s2, s3⟩ := hS
          gi_wp2
          exact ⟨fp, s3.mono (fun b hb => by rw [hVz] at hb; exact hb), s1, by rw [HSN.out, HS.out]; exact k7, s2⟩
    · have HS := Lib.hid (HST.out (by rw [pkStop, hmj]; rfl))
      clear HST
      gi_wp2
      refine ⟨trivial, ?_⟩
      gi_wp2
      exact ⟨fp, Moves.refl _ hlW3, rfl, by rw [HS.out]; exact kO3, B3⟩
  case done =>
    rintro D fp W2 hD hDl hfp ⟨_, kO, BB⟩ hK
    have g := kO.cell 0
    gi_wp2
    refine ⟨by simp, .inl ⟨_, _, rfl, run_takeDeferred hK, ?_⟩⟩
    exact ⟨_, results_tmp rfl _ _ _, rfl, BB.trans (belowK_b (w := w) (Nat.le_refl _) _ D _ _ (by omega) hK rfl rfl)⟩
  case stop =>
    rintro D c' pre fp W2 hD hDl hfp hpre ⟨rfl, kO, BB⟩ hK
    have g := kO.cell 0
    gi_wp2
    refine ⟨by simp, .inl ⟨_, _, rfl, run_takeDeferred hK, ?_⟩⟩
    exact ⟨_, results_tmp rfl _ _ _, rfl, BB.trans (belowK_b (w := w) (Nat.le_refl _) _ D _ _ (by omega) hK rfl rfl)⟩
end Thr
end Go.Proofs.Ythhgcfklaakndaa
