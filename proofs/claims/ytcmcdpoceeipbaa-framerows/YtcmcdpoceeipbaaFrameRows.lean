/-
  FrameRows, walked.
-/
import Derived.Test.YtcmcdpoceeipbaaFramePuts
import Derived.Test.YtcmcdpoceeipbaaRowsPure
import Derived.Test.YtcmcdpoceeipbaaApart
import Derived.Deep.DeepCutAuto
import Derived.Deep.CutBlock
namespace Go.Proofs.Ytcmcdpoceeipbaa
open Go.RowKit Go.WideShapes
namespace Fr
open Wire Crc
theorem infoI : (Try.prog.info? 3).map (fun i => (i.zero, i.size, i.bytes)) = some (some (.int .i64 0), 1, 8) := by kernel_rfl
def endsV (l : List (List UInt8)) (k : Nat) : List Value := (List.range k).map fun j => Value.int .i64 (endAt l (j + 1) : Int)
theorem endsV_len (l : List (List UInt8)) (k : Nat) : (endsV l k).length = k := by simp [endsV]
theorem endsV_succ (l : List (List UInt8)) (k : Nat) : endsV l (k + 1) = endsV l k ++ [.int .i64 (endAt l (k + 1) : Int)] := by simp [endsV, List.range_succ]
theorem endsV_get (l : List (List UInt8)) (k j : Nat) (h : j < k) : (endsV l k)[j]? = some (.int .i64 (endAt l (j + 1) : Int)) := by simp [endsV, h]
theorem flat_succ (l : List (List UInt8)) (k : Nat) (h : k < l.length) : flat (l.take (k + 1)) = flat (l.take k) ++ frameB l[k] := by
  rw [flat, flat, List.take_succ_eq_append_getElem h, List.flatMap_append]; simp
theorem good_take (l : List (List UInt8)) (k : Nat) (h : k < l.length) (h1 : good200 (l.take k)) (h2 : 1 ≤ l[k].length ∧ l[k].length ≤ 200) : good200 (l.take (k + 1)) := by
  rw [List.take_succ_eq_append_getElem h]
  intro x hx
  rcases List.mem_append.1 hx with hx | hx
  · exact h1 x hx
  · rw [List.mem_singleton] at hx; rw [hx]; exact h2
theorem endAt_take (l : List (List UInt8)) (k : Nat) : (flat (l.take k)).length = endAt l k := rfl
theorem flat_le (l : List (List UInt8)) (hl : good200 l) : (flat l).length ≤ 217 * l.length := by
  induction l with
  | nil => simp [flat]
  | cons x l ih =>
    have h1 := frame_le x
    have h2 := (hl x (by simp)).2
    have h3 := ih (fun y hy => hl y (by simp [hy]))
    have e : flat (x :: l) = frameB x ++ flat l := by simp [flat]
    rw [e, List.length_append, List.length_cons]; omega
theorem own_cap {w : World} {base : Nat} {e : TypeId} {size : Nat} {p : Option Addr} {n cap : Nat} {xs : List Value} (h : w.ownsRow base e size (.slice p n cap) n xs) : n ≤ cap := by
  rcases h.2 with ⟨h1, h2⟩ | ⟨g, c, cur, h1, _, _, h3, _⟩
  · omega
  · cases h1; exact h3
theorem rdV_take {w : World} {p : Option Addr} {n cap k : Nat} {xs : List Value} (h : RdV w (.slice p n cap) n xs) (hk : k ≤ n) : RdV w (.slice p k cap) k (xs.take k) := by
  obtain ⟨p', cap', e, hn, hc, h0⟩ := h
  cases e
  refine ⟨_, _, rfl, by omega, fun j u hj => ?_, fun h => ⟨(h0 h).1, by have := (h0 h).2; omega⟩⟩
  rw [List.getElem?_take] at hj
  split at hj
  · exact hc j u hj
  · cases hj
theorem rdT_take {w : World} {p : Option Addr} {cap k : Nat} {l : List (List UInt8)} (h : RdT sv w (.slice p l.length cap) l) (hk : k ≤ l.length) : RdT sv w (.slice p k cap) (l.take k) := by
  have h1 := rdV_take (k := k) h hk
  have h2 : (l.take k).length = k := by rw [List.length_take]; omega
  have h3 : (l.flatMap sv).take k = (l.take k).flatMap sv := by
    clear h h1 h2
    induction l generalizing k with
    | nil => simp
    | cons x l ih =>
      cases k with
      | zero => simp
      | succ k => simp only [List.flatMap_cons, List.take_succ_cons]; rw [show sv x = [.string (bs x)] from rfl]; simp only [List.cons_append, List.nil_append, List.take_succ_cons]; rw [ih (by simp at hk; omega)]
  unfold RdT
  rw [h2, ← h3]; exact h1
theorem rdV_set {w : World} {g n cap k : Nat} {xs : List Value} (h : RdV w (.slice (some ⟨g, 0, none⟩) n cap) n xs) (u : Value) (hk : k < xs.length) : RdV (w.setCell ⟨g, k, none⟩ u) (.slice (some ⟨g, 0, none⟩) n cap) n (xs.set k u) := by
  obtain ⟨p', cap', e, hn, hc, h0⟩ := h
  cases e
  refine ⟨_, _, rfl, hn, fun j v hj => ⟨g, 0, rfl, ?_⟩, fun h => by cases h⟩
  obtain ⟨b', off', e', hk'⟩ := hc k _ (List.getElem?_eq_getElem hk)
  cases e'
  rw [Nat.zero_add] at hk'
  by_cases hjk : k = j
  · subst hjk
    rw [List.getElem?_set_self hk] at hj
    cases hj
    rw [Nat.zero_add]
    exact World.cell?_setCell_same' _ _ _ (by rw [hk']; rfl)
  · rw [List.getElem?_set_ne hjk] at hj
    obtain ⟨b', off', e', h2⟩ := hc j v hj
    cases e'
    exact (World.cell?_setCell_other _ _ _ _ (fun e => by injection e with _ e2 _; omega)).trans h2
theorem flip_key : ∀ c : Fin 256, ∀ r : Fin 8, bits .xor .u8 (c.val : Int) ((2 ^ r.val : Nat) : Int) = ((c.val ^^^ 2 ^ r.val : Nat) : Int) ∧ c.val ^^^ 2 ^ r.val ≠ c.val ∧ c.val ^^^ 2 ^ r.val < 256 := by decide +kernel
theorem pow_key : ∀ r : Fin 8, IntKind.u8.wrap ((2 : Int) ^ r.val) = ((2 ^ r.val : Nat) : Int) := by decide +kernel
theorem flip (c : UInt8) (r : Nat) (h : r < 8) : ∃ d : UInt8, d ≠ c ∧ bits .xor .u8 (c.toNat : Int) (IntKind.u8.wrap ((2 : Int) ^ r)) = (d.toNat : Int) := by
  rw [pow_key ⟨r, h⟩]
  obtain ⟨h1, h2, h3⟩ := flip_key ⟨c.toNat, c.toNat_lt⟩ ⟨r, h⟩
  dsimp only at h1 h2 h3
  have e : (UInt8.ofNat (c.toNat ^^^ 2 ^ r)).toNat = c.toNat ^^^ 2 ^ r := by rw [UInt8.toNat_ofNat']; omega
  refine ⟨UInt8.ofNat (c.toNat ^^^ 2 ^ r), fun h => h2 ?_, by rw [h1, e]⟩
  rw [← e, h]
theorem rdE {w : World} {p : Option Addr} {cap : Nat} {l : List (List UInt8)} (h : RdV w (.slice p l.length cap) l.length (endsV l l.length)) (j : Nat) (hj : j < l.length) : ∃ b off, p = some ⟨b, off, none⟩ ∧ ∀ j, j < l.length → w.cell? ⟨b, off + j, none⟩ = some (.int .i64 (endAt l (j + 1) : Int)) := by
  obtain ⟨p', cap', e, _, hc, _⟩ := h
  cases e
  obtain ⟨b, off, e, _⟩ := hc j _ (endsV_get l l.length j hj)
  subst e
  refine ⟨b, off, rfl, fun i hi => ?_⟩
  obtain ⟨b', off', e', h2⟩ := hc i _ (endsV_get l l.length i hi)
  cases e'
  exact h2
set_option maxRecDepth 100000 in
set_option maxHeartbeats 2000000 in
theorem rows_walk (v : Value) (l : List (List UInt8)) (hl : l.length ≤ 20) (hfit : ∀ p n c, v = .slice p n c → n ≤ c) (cut bit : Nat) (hcu : cut < 4294967296) (hbi : bit < 4294967296) (w : World) (hv : RdT sv w v l) :
    Calls Try.prog 4 #[v, .int .u32 (cut : Int), .int .u32 (bit : Int)] w fun e w' => e = .returned (.bool true) ∧ Below w.heap.size w w' := by
  have HV := Lib.hid hv
  obtain ⟨p, cap, rfl, _⟩ := hv.len
  have hcap := hfit _ _ _ rfl
  clear hv hfit
  have d1 : decide (20 < l.length) = false := decide_eq_false (by omega)
  have d2 : decide ((20 : Int) < (l.length : Int)) = false := decide_eq_false (by omega)
  go_enter Try.func4, Try.ntmps4
  go_wp2_with fail
  go_loopw [7, 8, 9] (fun s7 s8 s9 wr => ∃ (k : Nat) (vb ve : Value), k ≤ l.length ∧ s9 = .int .i64 k ∧ vb = s7 ∧ ve = s8 ∧ good200 (l.take k) ∧ wr.ownsRow w.heap.size 5 1 vb (endAt l k) (by8 (flat (l.take k))) ∧
    wr.ownsRow w.heap.size 3 1 ve k (endsV l k) ∧ Apart vb ve ∧ Below w.heap.size w wr) (fun _ _ s9 _ => l.length - (intOf s9).toNat)
  case atStart => exact ⟨0, _, _, Nat.zero_le _, rfl, rfl, rfl, by intro x hx; simp at hx, ⟨rfl, .inl ⟨rfl, rfl⟩⟩, ⟨rfl, .inl ⟨rfl, rfl⟩⟩, .inl rfl, Below.refl _ _⟩
  case round =>
    obtain ⟨k, vb, ve, hk, rfl, rfl, rfl, hg, hb, he, hap, BB⟩ := hrel
    have HG := Lib.hid hg
    have hfle := flat_le (l.take k) hg
    rw [endAt_take, List.length_take] at hfle
    have hle5 : endAt l k ≤ 5000 := by omega
    clear hfle
    by_cases hlt : k < l.length
    · have hd : decide ((k : Int) < (l.length : Int)) = true := decide_eq_true (by omega)
      have hd' : decide (k < l.length) = true := decide_eq_true hlt
      obtain ⟨lb, off, cc, e0, g⟩ := rdS (HV.out.below BB (Nat.le_refl _)) k hlt
      cases e0
      have HFS := Lib.hid (flat_succ l k hlt)
      have HGS := Lib.hid (fun h => good_take l k hlt HG.out h)
      have HES := Lib.hid (endAt_succ l k hlt)
      obtain ⟨x, hx⟩ : ∃ x, l[k] = x := ⟨_, rfl⟩
      rw [hx] at g HFS HGS HES
      have HXX := Lib.hid hx
      clear hx hg
      have g0 := g wr (Below.refl _ _)
      have zx := bs_size x
      obtain ⟨z, hz⟩ : ∃ z : Bool, z = true ↔ x = [] := by
        by_cases h : x = []
        · exact ⟨true, by simp [h]⟩
        · exact ⟨false, by simp [h]⟩
      obtain ⟨q1, q2⟩ := bs_nil x z hz
      cases z
      · have hne : x ≠ [] := fun h => by have := hz.2 h; cases this
        have hpos := List.length_pos_iff.2 hne
        clear hz hne
        by_cases hlong : 200 < x.length
        · have t1 : decide (200 < x.length) = true := decide_eq_true hlong
          have t2 : decide ((200 : Int) < (x.length : Int)) = true := decide_eq_true (by omega)
          go_wp2_with fail
          refine (wakes_any _).mono ?_
          rintro e w9 ⟨rfl, b9⟩
          go_wp2
          go_ret
          exact ⟨rfl, Below.later' BB b9⟩
        · have t1 : decide (200 < x.length) = false := decide_eq_false hlong
          have t2 : decide ((200 : Int) < (x.length : Int)) = false := decide_eq_false (by omega)
          have HG2 := Lib.hid (HGS.out ⟨hpos, by omega⟩)
          have hfr := frame_len x
          have hfr2 := frame_le x
          go_wp2_with fail
          refine (put_any w.heap.size vb _ _ x hpos (by omega) wr (.inl hb) (by omega) BB.size).mono ?_
          rintro e w1 ⟨vb1, rfl, hb1, gb⟩
          have he1 := gb.keeps he hap.symm
          have hap1 := gb.apart he hap.symm
          have B1 := gb.below BB BB.size (fun b h => (hb.lt b h).1)
          have g1 := g w1
          clear g1
          have hlen1 : endAt l k + (frameB x).length = endAt l (k + 1) := HES.out.symm
          rw [hlen1, ← by8_append, ← HFS.out] at hb1
          have hrl := (HV.out.below B1 (Nat.le_refl _))
          obtain ⟨lb2, off2, cc2, e2, g2⟩ := rdS hrl k hlt
          cases e2
          have g3 := g2 w1 (Below.refl _ _)
          have hx2 : l[k] = x := HXX.out
          rw [hx2] at g3
          obtain ⟨pb, cb, hvb, _, _, _⟩ := RdV.owns hb
          obtain ⟨pb1, cb1, hvb1, _, _, _⟩ := RdV.owns hb1
          subst hvb
          subst hvb1
          have t3 : decide (endAt l (k + 1) < endAt l k + 9 + x.length) = false := decide_eq_false (by have := numB_pos x.length; omega)
          have t4 : decide ((endAt l (k + 1) : Int) < (endAt l k : Int) + 9 + (x.length : Int)) = false := decide_eq_false (by have := numB_pos x.length; omega)
          have hb1' := hb1
          clear hb gb he hrl g2 g0 g hlen1 hx2
          go_wp2_with (at_builtin; go_loud (refine app1g rfl _ _ 31 rfl w.heap.size 3 (.int .i64 0) 8 infoI Try.underlying31 rfl w1 (.int .i64 (endAt l (k + 1) : Int)) 3 rfl ve _ _ he1 rfl _ rfl rfl (by omega) (by omega) B1.size ?_; intro ve2 w2 he2 ge))
          rw [← endsV_succ] at he2
          go_roundw
          case rel => exact ⟨k + 1, _, ve2, by omega, by go_num, rfl, rfl, HG2.out, ge.keeps hb1 hap1.symm, he2, ge.apart hb1 hap1.symm, ge.below B1 B1.size (fun b h => (he1.lt b h).1)⟩
          case measure => simp [intOf]; omega
      · go_wp2_with fail
        refine (wakes_any _).mono ?_
        rintro e w9 ⟨rfl, b9⟩
        go_wp2
        go_ret
        exact ⟨rfl, Below.later' BB b9⟩
    · have hd : decide ((k : Int) < (l.length : Int)) = false := decide_eq_false (by omega)
      have hd' : decide (k < l.length) = false := decide_eq_false hlt
      have hkl : k = l.length := by omega
      have htk : l.take k = l := List.take_of_length_le (by omega)
      have hea : endAt l k = (flat l).length := endAt_all l k (by omega)
      have hgl : good200 l := by have := HG.out; rw [htk] at this; exact this
      have HGL := Lib.hid hgl
      rw [htk, hea] at hb
      rw [hea] at hle5
      rw [hkl] at he
      clear htk hea HG hgl hkl hlt
      obtain ⟨B, hB⟩ : ∃ B, flat l = B := ⟨_, rfl⟩
      have HBE := Lib.hid hB
      rw [hB] at hb hle5
      clear hB
      have hap' := hap
      obtain ⟨pb, cb, hvb, _, _, _⟩ := RdV.owns hb
      obtain ⟨pe, ce, hve, _, _, _⟩ := RdV.owns he
      subst hvb
      subst hve
      have hmod : (cut : Int) % ((B.length : Int) + 1) = ((cut % (B.length + 1) : Nat) : Int) := by rw [Int.natCast_emod, Int.natCast_add]; rfl
      have hnl : cut % (B.length + 1) ≤ B.length := by have := Nat.mod_lt cut (show 0 < B.length + 1 by omega); omega
      obtain ⟨n, hn⟩ : ∃ n, cut % (B.length + 1) = n := ⟨_, rfl⟩
      rw [hn] at hmod hnl
      clear hn
      have hcb := own_cap hb
      have HE := Lib.hid (RdV.owns he)
      have HB := Lib.hid hb
      have HAP := Lib.hid hap
      go_upto_block 2 with (fail)
      go_cut [13, 14] from 82 to 99 (fun s13 s14 wx => ∃ K, K ≤ l.length ∧ s13 = .int .i64 K ∧ s14 = .int .i64 (endAt l K : Int) ∧ endAt l K ≤ n ∧ (K < l.length → n < endAt l (K + 1)) ∧ wr = wx)
      case first =>
        go_wp2_with fail
        go_loopw [13, 14] (fun s13 s14 wx => ∃ K, K ≤ l.length ∧ s13 = .int .i64 K ∧ s14 = .int .i64 (endAt l K : Int) ∧ endAt l K ≤ n ∧ wr = wx) (fun s13 _ _ => l.length - (intOf s13).toNat)
        case atStart => exact ⟨0, Nat.zero_le _, rfl, rfl, Nat.zero_le _, rfl⟩
        case round =>
          obtain ⟨K, hK, rfl, rfl, hKn, rfl⟩ := hrel
          by_cases hKl : K < l.length
          · have t1 : decide ((K : Int) < (l.length : Int)) = true := decide_eq_true (by omega)
            have t2 : decide (K < l.length) = true := decide_eq_true hKl
            obtain ⟨be, oe, e0, gc⟩ := rdE HE.out K hKl
            subst e0
            have g1 := gc K hKl
            clear gc
            by_cases hle : endAt l (K + 1) ≤ n
            · have t3 : decide (endAt l (K + 1) ≤ n) = true := decide_eq_true hle
              have t4 : decide ((endAt l (K + 1) : Int) ≤ (n : Int)) = true := decide_eq_true (by omega)
              go_wp2_with fail
              go_roundw
              case rel => exact ⟨K + 1, by omega, by go_num, rfl, hle, by trivial⟩
              case measure => simp [intOf]; omega
            · have t3 : decide (endAt l (K + 1) ≤ n) = false := decide_eq_false hle
              have t4 : decide ((endAt l (K + 1) : Int) ≤ (n : Int)) = false := decide_eq_false (by omega)
              go_wp2_with fail
              go_meet
              exact ⟨K, hK, rfl, rfl, hKn, fun _ => by omega, rfl⟩
          · have t1 : decide ((K : Int) < (l.length : Int)) = false := decide_eq_false (by omega)
            have t2 : decide (K < l.length) = false := decide_eq_false hKl
            go_wp2_with fail
            go_meet
            exact ⟨K, hK, rfl, rfl, hKn, fun h => absurd h hKl, rfl⟩
      case rest =>
        obtain ⟨K, hK, rfl, rfl, hKn, hKx, rfl⟩ := hcut
        have hBl : (flat l).length = B.length := by rw [HBE.out]
        obtain ⟨c1, c2⟩ := rows_cut l HGL.out n K (by omega) hK hKn hKx
        rw [HBE.out] at c1 c2
        have HSP := Lib.hid (fun w => split_any (B.take n) (by rw [List.length_take]; omega) w)
        unfold spv at HSP
        rw [c1, c2] at HSP
        dsimp only at HSP
        have htl : (B.take n).length = n := by rw [List.length_take]; omega
        have hrt := rdV_take (k := n) (RdV.owns HB.out) hnl
        have hb8 : (by8 B).take n = by8 (B.take n) := by simp [by8, List.map_take]
        rw [hb8] at hrt
        have tx := rd_text hrt htl
        have hnc : n ≤ cb := by omega
        obtain ⟨er, her⟩ : ∃ er : Nat, (if endAt l K = n then 0 else 3) = er := ⟨_, rfl⟩
        rw [her] at HSP
        clear c1 c2 htl hrt hb8 hBl hKx
        go_wp2_with fail
        refine (HSP.out _).mono ?_
        rintro e w1 ⟨v1, rfl, r1, b1⟩
        clear tx
        have rl1 := HV.out.below (BB.trans (b1.mono BB.size)) (Nat.le_refl _)
        have rt1 := rdT_take rl1 hK
        have hKc : K ≤ cap := by omega
        go_upto_region 21 with (fail)
        go_cut [136] from 109 to 136 (fun s136 wx => s136 = .bool false ∧ Below w1.heap.size w1 wx)
        case first =>
          have t0 : ((endAt l K : Int) != (endAt l K : Int)) = false := by simp
          go_wp2_with fail
          refine (same_any v1 _ _ _ true (by simp) _ r1 rt1).mono ?_
          rintro e w2 ⟨rfl, b2⟩
          by_cases hen : endAt l K = n
          · have her0 : er = 0 := by rw [← her, if_pos hen]
            subst her0
            have t1 : ((endAt l K : Int) == (n : Int)) = true := by rw [hen]; simp
            have t2 : ((endAt l K : Int) != (n : Int)) = false := by rw [hen]; simp
            clear hen her
            go_wp2_with fail
            go_meet
            exact ⟨rfl, b2⟩
          · have her3 : er = 3 := by rw [← her, if_neg hen]
            subst her3
            have t1 : ((endAt l K : Int) == (n : Int)) = false := by simp; omega
            have t2 : ((endAt l K : Int) != (n : Int)) = true := by simp; omega
            clear hen her
            go_wp2_with fail
            go_meet
            exact ⟨rfl, b2⟩
        case rest =>
          obtain ⟨rfl, b2⟩ := hcut
          have bS := b1.trans (b2.mono b1.size)
          clear r1 rl1 rt1 her HSP hKc b2 b1 hK hKn
          have hbS := ownsRow_below HB.out (bS.mono (Nat.le_refl _))
          have heS := RdV.below HE.out bS (Nat.le_refl _)
          have BS := BB.trans (bS.mono BB.size)
          have HBC := Lib.hid bS
          have HEO := Lib.hid (fun w' (h : Below wr.heap.size wr w') => ownsRow_below he h)
          clear bS
          by_cases h0 : l.length = 0
          · have t1 : ((l.length : Int) == 0) = true := by rw [h0]; rfl
            clear h0
            go_wp2_with fail
            refine (wakes_any _).mono ?_
            rintro e w9 ⟨rfl, b9⟩
            go_wp2
            go_ret
            exact ⟨rfl, Below.later' BS b9⟩
          · have t1 : ((l.length : Int) == 0) = false := by rw [beq_eq_false_iff_ne]; omega
            have hi : bit % l.length < l.length := Nat.mod_lt _ (by omega)
            have him : (bit : Int) % (l.length : Int) = ((bit % l.length : Nat) : Int) := (Int.natCast_emod _ _).symm
            obtain ⟨i, hie⟩ : ∃ i, bit % l.length = i := ⟨_, rfl⟩
            rw [hie] at hi him
            obtain ⟨lb, off, cc, e0, g⟩ := rdS (HV.out.below BS (Nat.le_refl _)) i hi
            cases e0
            have HG3 := Lib.hid g
            have HRS := Lib.hid (fun q hq d hd => rows_spoilt l HGL.out i q hi hq d hd)
            have HES := Lib.hid (endAt_succ l i hi)
            have HLE := Lib.hid (endAt_mono l (i + 1))
            have hx2 := HGL.out l[i] (List.getElem_mem hi)
            obtain ⟨x, hx⟩ : ∃ x, l[i] = x := ⟨_, rfl⟩
            rw [hx] at g HG3 HRS HES hx2
            clear hx
            have g0 := g _ (Below.refl _ _)
            clear g
            have zx := bs_size x
            obtain ⟨q20, hq20⟩ : ∃ q, bit / 20 = q := ⟨_, rfl⟩
            have hq20i : (bit : Int) / 20 = (q20 : Int) := by omega
            have hkm : q20 % (8 * (8 + x.length)) < 8 * (8 + x.length) := Nat.mod_lt _ (by omega)
            have hkmi : (q20 : Int) % (8 * (8 + (x.length : Int))) = ((q20 % (8 * (8 + x.length)) : Nat) : Int) := by rw [Int.natCast_emod, Int.natCast_mul, Int.natCast_add]; rfl
            obtain ⟨kq, hkq⟩ : ∃ q, q20 % (8 * (8 + x.length)) = q := ⟨_, rfl⟩
            rw [hkq] at hkm hkmi
            have hq20l : q20 < 4294967296 := by omega
            clear hq20 hkq hie
            have t2 : decide ((i : Int) < (l.length : Int)) = true := decide_eq_true (by omega)
            have t3 : decide (i < l.length) = true := decide_eq_true hi
            go_wp2_with fail
            obtain ⟨be, oe, e0, gc⟩ := rdE heS i hi
            subst e0
            have hes := HES.out
            have hles := HLE.out
            have hBl : (flat l).length = B.length := by rw [HBE.out]
            rw [hBl] at hles
            have hfl := frame_len x
            have hfp := numB_pos x.length
            have g1 : ∀ w', Below wc.heap.size wc w' → w'.cell? ⟨be, oe + i, none⟩ = some (.int .i64 (endAt l (i + 1) : Int)) := fun w' hb => (hb.cell (p := ⟨be, oe + i, none⟩) (World.block_lt_of_cell? wc _ (gc i hi))).trans (gc i hi)
            have g2 := HG3.out
            obtain ⟨E1, hE1⟩ : ∃ E1, endAt l (i + 1) = E1 := ⟨_, rfl⟩
            rw [hE1] at g1 hes hles HRS
            obtain ⟨fr, hfr⟩ : ∃ fr, E1 - x.length - 8 = fr := ⟨_, rfl⟩
            have hfri : (E1 : Int) - (x.length : Int) - 8 = (fr : Int) := by omega
            rw [hfr] at HRS
            obtain ⟨q, hq⟩ : ∃ q, kq / 8 = q := ⟨_, rfl⟩
            obtain ⟨r, hr⟩ : ∃ r, kq % 8 = r := ⟨_, rfl⟩
            have hqi : (kq : Int) / 8 = (q : Int) := by omega
            have hri : (kq : Int) % 8 = (r : Int) := by omega
            have hr8 : r < 8 := by omega
            have hrt : (kq : Int).tmod 8 = (r : Int) := by rw [Int.tmod_eq_emod_of_nonneg (by omega)]; omega
            have hq8 : q < 8 + x.length := by omega
            obtain ⟨ix, hix⟩ : ∃ ix, fr + q = ix := ⟨_, rfl⟩
            have hixi : (fr : Int) + (q : Int) = (ix : Int) := by omega
            have hixl : ix < B.length := by omega
            have HRS2 := Lib.hid (HRS.out q hq8)
            rw [hix, HBE.out] at HRS2
            have HE1 := Lib.hid hE1
            have hw1 : IntKind.i64.wrap ((E1 : Int) - (x.length : Int)) = (E1 : Int) - (x.length : Int) := by rw [IntKind.wrap_i64]; omega
            have hw2 : IntKind.i64.wrap ((E1 : Int) - (x.length : Int) - 8) = (fr : Int) := by rw [IntKind.wrap_i64]; omega
            have hw3 : IntKind.i64.wrap ((fr : Int) + (q : Int)) = (ix : Int) := by rw [IntKind.wrap_i64]; omega
            have hw4 : IntKind.i64.wrap (fr : Int) = (fr : Int) := by rw [IntKind.wrap_i64]; omega
            have hw5 : IntKind.i64.wrap (q : Int) = (q : Int) := by rw [IntKind.wrap_i64]; omega
            have hw6 : IntKind.i64.wrap (ix : Int) = (ix : Int) := by rw [IntKind.wrap_i64]; omega
            have hixd : decide ((ix : Int) < (B.length : Int)) = true := decide_eq_true (by omega)
            have hixd2 : decide (ix < B.length) = true := decide_eq_true hixl
            clear hE1 hfr hq hr hix HRS hq8 hes hles hfl hfp
            rcases hbS.2 with ⟨_, h1⟩ | ⟨gb, cb2, cur, e1, _, hgb, _⟩
            · omega
            cases e1
            have kb : Blk wc gb (.cells cur 5) := hgb
            have hrb := RdV.owns hbS
            obtain ⟨cB, hcB⟩ : ∃ cB, B[ix] = cB := ⟨_, rfl⟩
            have hcB2 : B[ix]? = some cB := by rw [List.getElem?_eq_getElem hixl, hcB]
            have hcell : wc.cell? ⟨gb, ix, none⟩ = some (.int .u8 (cB.toNat : Int)) := by
              obtain ⟨p', cap', e, _, hc, _⟩ := hrb
              obtain ⟨b', off', e', h2⟩ := hc ix (.int .u8 (cB.toNat : Int)) (by rw [by8, List.getElem?_map, hcB2]; rfl)
              cases e
              cases e'
              rw [Nat.zero_add] at h2; exact h2
            obtain ⟨dB, hdB, hxor⟩ := flip cB r hr8
            have g3 : ∀ w', Below wc.heap.size wc w' → w'.cell? ⟨gb, ix, none⟩ = some (.int .u8 (cB.toNat : Int)) := fun w' hb => (hb.cell (p := ⟨gb, ix, none⟩) kb.lt).trans hcell
            have g4 : ∀ w', Below wc.heap.size wc w' → w'.frozen? ⟨gb, ix, none⟩ = false := fun w' hb => (kb.later hb).frozen ix
            obtain ⟨c1, c2⟩ := HRS2.out dB (by rw [hcB2]; intro h; exact hdB (Option.some.inj h).symm)
            have hul := cB.toNat_lt
            have hul2 := dB.toNat_lt
            clear hcB hcB2 hdB hcell kb HRS2
            have B0 : Below wc.heap.size wc wc.drew := Below.drew (Below.refl _ _)
            refine wp_region_ord (fun w' => Below wc.heap.size wc w') (0 :: 1 :: 2 :: 3 :: 4 :: 5 :: 6 :: 7 :: 8 :: 9 :: 10 :: 11 :: []) [] (by kernel_rfl) (by kernel_rfl) (by intro c d v a w h; cases d <;> exact h) B0 ?_
            repeat (first
              | (refine wpOrd_take (v := ?_) rfl rfl ?_ ?_ ?_; rotate_left; rfl; (· intro w' hSw; (try dsimp only at hSw); go_simp <;> with_reducible rfl); simp only [Act.put, List.setIfInBounds_toArray, List.set_cons_zero, List.set_cons_succ])
              | (refine wpOrd_skip rfl rfl ?_ ?_; rfl; simp only [Act.put, List.setIfInBounds_toArray, List.set_cons_zero, List.set_cons_succ]))
            refine wpOrd_nil ?_
            go_wp2_with fail
            have B1 : Below wc.heap.size wc wc.drew.drew := Below.drew B0
            have x3 := g3 _ B1
            have x4 := g4 _ B1
            refine wp_region_ord (fun w' => True) (0 :: 1 :: 2 :: 3 :: 4 :: 5 :: 6 :: 7 :: 8 :: 9 :: 10 :: 12 :: 13 :: 14 :: 11 :: 15 :: 16 :: 17 :: []) [11, 17] (by kernel_rfl) (by kernel_rfl) (by intro c d v a w h; cases d <;> exact h) trivial ?_
            repeat (first
              | (refine wpOrd_take (v := ?_) rfl rfl ?_ ?_ ?_; rotate_left; rfl; (· intro w' hSw; (try dsimp only at hSw); go_simp <;> with_reducible rfl); simp only [Act.put, List.setIfInBounds_toArray, List.set_cons_zero, List.set_cons_succ])
              | (refine wpOrd_skip rfl rfl ?_ ?_; rfl; simp only [Act.put, List.setIfInBounds_toArray, List.set_cons_zero, List.set_cons_succ]))
            refine wpOrd_eff rfl rfl (fun K hK => ?_)
            go_wp2_with fail
            refine hK.out _ _ trivial ?_
            clear hK K
            repeat (first
              | (refine wpOrd_take (v := ?_) rfl rfl ?_ ?_ ?_; rotate_left; rfl; (· intro w' hSw; (try dsimp only at hSw); go_simp <;> with_reducible rfl); simp only [Act.put, List.setIfInBounds_toArray, List.set_cons_zero, List.set_cons_succ])
              | (refine wpOrd_skip rfl rfl ?_ ?_; rfl; simp only [Act.put, List.setIfInBounds_toArray, List.set_cons_zero, List.set_cons_succ]))
            refine wpOrd_eff rfl rfl (fun K hK => ?_)
            go_wp2_with fail
            refine hK.out _ _ trivial ?_
            clear hK K
            refine wpOrd_nil ?_
            have hbT : wc.drew.drew.ownsRow w.heap.size 5 1 (.slice (some ⟨gb, 0, none⟩) B.length cb) B.length (by8 B) := ownsRow_below (ownsRow_below hbS (Below.drew (Below.refl _ _))) (Below.drew (Below.refl _ _))
            have hgw : w.heap.size ≤ gb := (hbT.lt gb rfl).1
            have hrs := rdV_set (RdV.owns hbT) (.int .u8 (dB.toNat : Int)) (k := ix) (by rw [by8_length]; exact hixl)
            have hse : (by8 B).set ix (.int .u8 (dB.toNat : Int)) = by8 (B.set ix dB) := by rw [by8, by8, List.map_set]
            rw [hse] at hrs
            have BT : Below w.heap.size w (wc.drew.drew.setCell ⟨gb, ix, none⟩ (.int .u8 (dB.toNat : Int))) := ((Below.drew (Below.drew BS))).setCell (p := ⟨gb, ix, none⟩) hgw _
            have heT : (wc.drew.drew.setCell ⟨gb, ix, none⟩ (.int .u8 (dB.toNat : Int))).ownsRow w.heap.size 3 1 (.slice (some ⟨be, oe, none⟩) l.length ce) l.length (endsV l l.length) := by
              have h1 : wc.drew.drew.ownsRow w.heap.size 3 1 (.slice (some ⟨be, oe, none⟩) l.length ce) l.length (endsV l l.length) := HEO.out _ (Below.drew (Below.drew HBC.out))
              refine ownsRow_blkset h1 (fun e => ?_) _
              rcases HAP.out with h | h
              · cases h
              · exact h e
            have tx := rd_text hrs (by rw [List.length_set])
            have tx' : (convert 22 9 (.slice (some ⟨gb, 0, none⟩) B.length cb)).run Try.prog (wc.setCell ⟨gb, ix, none⟩ (.int .u8 (dB.toNat : Int))).drew.drew = .ok (.string (bs (B.set ix dB))) (wc.setCell ⟨gb, ix, none⟩ (.int .u8 (dB.toNat : Int))).drew.drew := tx
            have HSP := Lib.hid (fun w => split_any (B.set ix dB) (by rw [List.length_set]; omega) w)
            unfold spv at HSP
            rw [c1, c2] at HSP
            dsimp only at HSP
            clear c1 c2 g1 g2 g3 g4 x3 x4 hrs hse hbT gc
            go_wp2_with fail
            obtain ⟨T, hT⟩ : ∃ T, (wc.setCell ⟨gb, ix, none⟩ (.int .u8 (dB.toNat : Int))).drew.drew = T := ⟨_, rfl⟩
            have hT' : wc.drew.drew.setCell ⟨gb, ix, none⟩ (.int .u8 (dB.toNat : Int)) = T := hT
            rw [hT'] at BT heT
            first | rw [hT] | rw [hT']
            clear tx tx' hT hT'
            refine (HSP.out _).mono ?_
            rintro e w5 ⟨v5, rfl, r5, b5⟩
            have rl5 := HV.out.below (BT.trans (b5.mono BT.size)) (Nat.le_refl _)
            have rt5 := rdT_take rl5 (Nat.le_of_lt hi)
            have hic : i ≤ cap := by omega
            have heU := RdV.owns (ownsRow_below heT b5)
            go_wp2_with fail
            refine (same_any v5 _ _ _ true (by simp) _ r5 rt5).mono ?_
            rintro e w6 ⟨rfl, b6⟩
            have heV := heU.below b6 (Nat.le_refl _)
            have B6 := (BT.trans (b5.mono BT.size)).trans (b6.mono (Nat.le_trans BT.size b5.size))
            clear r5 rt5 rl5 heU
            cases i with
            | zero =>
              have z0 : ((endAt l 0 : Int) == 0) = true := rfl
              go_wp2_with fail
              refine (wakes_any _).mono ?_
              rintro e w9 ⟨rfl, b9⟩
              go_wp2
              go_ret
              exact ⟨rfl, Below.later' B6 b9⟩
            | succ j =>
              obtain ⟨be2, oe2, e02, gc⟩ := rdE heV j (by omega)
              cases e02
              have gj := gc j (by omega)
              clear gc
              have y1 : (((j + 1 : Nat) : Int) == 0) = false := by rw [beq_eq_false_iff_ne]; omega
              have y2 : decide ((0 : Int) < ((j + 1 : Nat) : Int)) = true := decide_eq_true (by omega)
              have y3 : ((j + 1 : Nat) : Int) - 1 = (j : Int) := by omega
              have y4 : decide ((j : Int) < (l.length : Int)) = true := decide_eq_true (by omega)
              have y5 : ((endAt l (j + 1) : Int) == (endAt l (j + 1) : Int)) = true := by simp
              go_wp2_with fail
              refine (wakes_any _).mono ?_
              rintro e w9 ⟨rfl, b9⟩
              go_wp2
              go_ret
              exact ⟨rfl, Below.later' B6 b9⟩
end Fr
end Go.Proofs.Ytcmcdpoceeipbaa
