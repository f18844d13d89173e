/-
  BatchPlays, walked.
-/
import Derived.Test.YtcfcikpehekfbaaBatDone
import Derived.Test.YtcfcikpehekfbaaBatRef2
import Derived.Deep.CutBlock
namespace Go.Proofs.Ytcfcikpehekfbaa
open Go.RowKit Go.WideShapes
namespace Bat
/-- Where the queue and the document's row stand. -/
structure St (w0 : World) (qb n : Nat) (w : World) (dv vq : Value) (M : List Cm) : Prop where
  q : Que w qb qb vq M
  rd : RdT Cm.cells w dv M
  fits : Fits dv
  u : U M
  len : M.length ≤ n
  lt : ∀ b, dv.ownBlock = some b → b < w.heap.size
  ne : some qb ≠ dv.ownBlock
  ap : Apart dv vq
  bel : Below qb w0 w
theorem St.later {w0 w w' : World} {qb n : Nat} {dv vq : Value} {M : List Cm} (s : St w0 qb n w dv vq M) (h : Below w.heap.size w w') : St w0 qb n w' dv vq M :=
  ⟨s.q.below h, s.rd.later h, s.fits, s.u, s.len, fun b hb => Nat.lt_of_lt_of_le (s.lt b hb) h.size, s.ne, s.ap, Below.later s.bel h (Nat.le_of_lt s.q.blk.lt)⟩
theorem St.more {w0 w : World} {qb n : Nat} {dv vq : Value} {M : List Cm} (s : St w0 qb n w dv vq M) {m : Nat} (h : n ≤ m) : St w0 qb m w dv vq M := ⟨s.q, s.rd, s.fits, s.u, Nat.le_trans s.len h, s.lt, s.ne, s.ap, s.bel⟩
theorem St.grow {w0 w w' : World} {qb n r : Nat} {dv vq : Value} {M : List Cm} (s : St w0 qb n w dv vq M) (g : w.grownBy w' (some r)) (hr : qb < r) (h1 : some r ≠ dv.ownBlock) (h2 : some r ≠ vq.ownBlock) : St w0 qb n w' dv vq M :=
  ⟨⟨s.q.blk.grown g (fun e => by cases e; omega), s.q.row.kept g (.inr (fun e => h2 e.symm)), s.q.apart, s.q.base⟩, rd_kept s.rd (fun b hb hl => g.block b hl (fun e => h1 (by rw [hb]; exact e.symm))), s.fits, s.u, s.len, fun b hb => Nat.lt_of_lt_of_le (s.lt b hb) g.size, s.ne, s.ap,
    s.bel.grown g (Nat.le_of_lt s.q.blk.lt) (fun k hk => by cases hk; omega)⟩
theorem apart_lt {u v : Value} {n : Nat} (hu : ∀ b, u.ownBlock = some b → b < n) (hv : ∀ b, v.ownBlock = some b → n ≤ b) : Apart u v := by
  cases hb : u.ownBlock with
  | none => exact .inl hb
  | some b => exact .inr fun e => by have h1 := hu b hb; have h2 := hv b (by rw [← e, hb]); omega
theorem moved_ap {w w' : World} {qb : Nat} {dv vq vq2 : Value} (m : Moved w qb vq w' vq2) (h : Apart dv vq) (hl : ∀ b, dv.ownBlock = some b → b < w.heap.size) : Apart dv vq2 := by
  rcases m.own with e | e
  · unfold Apart; rw [e]; exact h
  · exact apart_lt hl e
theorem from_ne {w : World} {v v2 : Value} {qb : Nat} (f : From w v v2) (h : some qb ≠ v.ownBlock) (hl : qb < w.heap.size) : some qb ≠ v2.ownBlock := by
  rcases f with e | e | e
  · rw [e]; simp
  · rw [e]; exact h
  · intro e2; have := e _ e2.symm; omega
theorem from_ap {w : World} {v v2 vq : Value} (f : From w v v2) (h : Apart v vq) (hl : ∀ b, vq.ownBlock = some b → b < w.heap.size) : Apart v2 vq := by
  rcases f with e | e | e
  · exact .inl e
  · unfold Apart; rw [e]; exact h
  · exact (apart_lt hl e).symm
theorem held_own {w : World} {base : Nat} {v : Value} {l : List Cm} (h : w.ownsRow base 30 7 v l.length (flat l)) : Held w base v l := by
  rcases h.2 with ⟨rfl, h0⟩ | ⟨g, cap, cur, rfl, hg, hb, hn, hc, hs, ht⟩
  · exact .inl ⟨rfl, List.eq_nil_of_length_eq_zero h0⟩
  · exact .inr ⟨g, cap, cur, rfl, hg, hb, by rw [hs]; omega, Nat.le_trans hn hc, ht⟩
theorem Held.later {w w' : World} {base : Nat} {v : Value} {l : List Cm} (h : Held w base v l) (hb : Below w.heap.size w w') : Held w' base v l := by
  rcases h with h | ⟨g, c, cur, e, hg, k, h1, h2, h3⟩
  · exact .inl h
  · exact .inr ⟨g, c, cur, e, hg, k.later hb, h1, h2, h3⟩
set_option maxRecDepth 100000 in
set_option maxHeartbeats 16000000 in
theorem plays_walk (v : Value) (l : List Ac) (hok : ∀ a ∈ l, a.ok) (w : World) (hv : RdT Ac.cells w v l) (hg : greatA l = false) :
    Calls Try.prog 3 #[v] w fun e w' => e = .returned (.bool true) ∧ Below w.heap.size w w' := by
  have HV := Lib.hid hv
  have hlen := great_len l hg
  obtain ⟨p, cap, rfl, _⟩ := hv.len
  have HOK := Lib.hid hok
  clear hv hok
  go_enter Try.func3, Try.ntmps3
  go_wp2_with fail
  refine (great_any _ l w HV.out).mono ?_
  rintro e w0 ⟨rfl, b0⟩
  rw [hg]
  have hv0 := HV.out.later b0
  have HV := Lib.hid hv0
  clear hv0
  go_wp2_with fail
  refine (new_any w0).mono ?_
  rintro e w1 ⟨rfl, q1, b1⟩
  have S1 : St w0 w0.heap.size 0 w1 (.slice none 0 0) (.slice none 0 0) [] := ⟨q1, rdT_nil _ _, fits_nil, List.Pairwise.nil, Nat.le_refl _, (fun b hb => by cases hb), by simp [Value.ownBlock], .inl rfl, b1⟩
  clear q1 b1
  go_wp2_with fail
  go_loopw [4, 5] (fun s4 i wr => ∃ (k : Nat) (dv vq : Value) (M : List Cm), k ≤ l.length ∧ i = .int .i64 k ∧ dv = s4 ∧ St w0 w0.heap.size k wr dv vq M) (fun _ i _ => l.length - (intOf i).toNat)
  case atStart => exact ⟨0, _, _, [], Nat.zero_le _, rfl, rfl, S1⟩
  case round =>
    clear S1
    obtain ⟨k, dv, vq, M, hk, rfl, rfl, s⟩ := hrel
    by_cases hlt : k < l.length
    · have hd : decide ((k : Int) < (l.length : Int)) = true := decide_eq_true (by omega)
      have hd' : decide (k < l.length) = true := decide_eq_true hlt
      obtain ⟨lb, off, e0, g⟩ := (HV.out.below s.bel (Nat.le_refl _)).at 9 (by decide) Ac.cells_len k hlt
      subst e0
      have hao := (HOK.out l[k] (List.getElem_mem hlt)).2
      obtain ⟨a, ha⟩ : ∃ a, l[k] = a := ⟨_, rfl⟩
      rw [ha] at g hao
      clear ha
      have g0 := g 0 (by decide)
      have g1 := g 1 (by decide)
      have g2 := g 2 (by decide)
      have g3 := g 3 (by decide)
      have g4 := g 4 (by decide)
      have g5 := g 5 (by decide)
      have g6 := g 6 (by decide)
      have g7 := g 7 (by decide)
      have g8 := g 8 (by decide)
      simp only [Ac.cells, Nat.add_zero] at g0 g1 g2 g3 g4 g5 g6 g7 g8
      clear g
      have s1 := s.later (below1 wr (.cells #[.int .u8 a.d, .int .i64 a.n, .int .u8 a.c.cl, .int .u32 a.c.sq, .int .u8 a.c.kd, .string a.c.key, .string a.c.old, .string a.c.new, .int .u8 a.c.set] 32))
      have kA := Blk.new wr (.cells #[.int .u8 a.d, .int .i64 a.n, .int .u8 a.c.cl, .int .u32 a.c.sq, .int .u8 a.c.kd, .string a.c.key, .string a.c.old, .string a.c.new, .int .u8 a.c.set] 32)
      have zq := s.q.blk.lt
      have zv : ∀ b, vq.ownBlock = some b → b < wr.heap.size := fun b hb => (s.q.row.lt b hb).2
      have hne1 : wr.heap.size ≠ w0.heap.size := by omega
      have hne2 : some wr.heap.size ≠ vq.ownBlock := fun e => by have := zv _ e.symm; omega
      go_upto_block 2 with (fail)
      clear g0 g1 g2 g3 g4 g5 g6 g7 g8 s
      generalize wr.alloc (.cells #[.int .u8 a.d, .int .i64 a.n, .int .u8 a.c.cl, .int .u32 a.c.sq, .int .u8 a.c.kd, .string a.c.key, .string a.c.old, .string a.c.new, .int .u8 a.c.set] 32) = W at *
      go_cut [4] (fun s4 wx => ∃ (dv2 vq2 : Value) (M2 : List Cm), dv2 = s4 ∧ St w0 w0.heap.size (k + 1) wx dv2 vq2 M2)
      case first =>
        by_cases d0 : a.d = 0
        · have t1 : ((a.d : Int) == 0) = true := by simp [d0]
          clear d0
          have c1 := kA.cell 1
          go_wp2_with fail
          refine (qtake_any _ _ vq M (by have := s1.len; omega) a.n W s1.q).mono ?_
          rintro e w2 ⟨o1, v1, rfl, hh, q2, m2, f2, a2⟩
          have kA2 := m2.blk kA hne1 hne2
          have rd2 := m2.rd s1.rd s1.ne s1.ap
          have bel2 := s1.q.moved m2 s1.bel (Nat.le_refl _) (Nat.le_of_lt s1.q.blk.lt)
          have lt2 : ∀ b, dv.ownBlock = some b → b < w2.heap.size := fun b hb => Nat.lt_of_lt_of_le (s1.lt b hb) m2.size
          have hgv0 : ∀ g, o1.ownBlock = some g → some g ≠ v1.ownBlock := fun g hg e => by
            have h1 := f2 g e.symm
            rcases a2 with e2 | e2
            · rw [e2] at hg; cases hg
            · rw [e2] at hg; have := (s1.q.row.lt g hg).2; omega
          have hgd0 : ∀ g, o1.ownBlock = some g → some g ≠ dv.ownBlock := fun g hg e => by
            rcases a2 with e2 | e2
            · rw [e2] at hg; cases hg
            · rw [e2] at hg
              rcases s1.ap with h | h
              · rw [h] at e; cases e
              · exact h (e.symm.trans hg.symm)
          have hgq0 : ∀ g, o1.ownBlock = some g → g ≠ w0.heap.size := fun g hg e => by
            rcases a2 with e2 | e2
            · rw [e2] at hg; cases hg
            · rw [e2] at hg; exact s1.q.apart (by rw [hg, e])
          clear kA m2
          have c2 := kA2.cell 1
          go_wp2_with fail
          refine (rtake_any dv M (by have := s1.len; omega) a.n w2 rd2 s1.fits).mono ?_
          rintro e w3 ⟨a3, b3, rfl, ra, rb, bb3, fa, fb, oa, ob⟩
          have q3 := q2.below bb3
          have hh3 := hh.later bb3
          clear hh q2 rd2 c2 kA2
          go_wp2_with fail
          refine (same_any o1 a3 (M.take (nTake M a.n)) w3 hh3.rd ra).mono ?_
          rintro e w4 ⟨rfl, b4⟩
          have hh4 := hh3.later b4
          have S4 : St w0 w0.heap.size (k + 1) w4 b3 v1 (M.drop (nTake M a.n)) := ⟨q3.below b4, rb.later b4, fb, s1.u.drop _, by have := s1.len; rw [List.length_drop]; omega,
            (fun b hb => by
              rcases ob with e | e
              · rw [e] at hb; cases hb
              · rw [e] at hb; exact Nat.lt_of_lt_of_le (lt2 b hb) (Nat.le_trans bb3.size b4.size)),
            take_ne ob s1.ne, apart_lt (n := W.heap.size) (fun b hb => by
              rcases ob with e | e
              · rw [e] at hb; cases hb
              · rw [e] at hb; exact s1.lt b hb) f2, Below.later (Below.later bel2 bb3 (by have := bel2.size; omega)) b4 (by have := bel2.size; have := bb3.size; omega)⟩
          have hgd1 : ∀ g, o1.ownBlock = some g → some g ≠ b3.ownBlock := fun g hg e => by
            rcases ob with e2 | e2
            · rw [e2] at e; cases e
            · exact hgd0 g hg (by rw [← e2]; exact e)
          obtain ⟨T, hT⟩ : ∃ T, M.take (nTake M a.n) = T := ⟨_, rfl⟩
          rw [hT] at hh4
          clear hh3 hT ra rb bb3 b4 q3 oa ob fa fb bel2 lt2 hgd0 c1 f2 a2
          rcases hh4 with ⟨rfl, _⟩ | ⟨g, cg, cu, rfl, hgb, kG, hsz, _, _⟩
          · clear hgd1 hgq0 hgv0
            go_wp2_with fail
            go_loopw [10] (fun i wr2 => i = .int .i64 0 ∧ w4 = wr2) (fun _ _ => 0)
            case atStart => exact ⟨rfl, rfl⟩
            case round =>
              obtain ⟨rfl, rfl⟩ := hrel
              go_wp2_with fail
              go_meet
              exact ⟨b3, v1, _, rfl, S4⟩
          · have hgd := hgd1 g rfl
            have hgq : w0.heap.size < g := Nat.lt_of_le_of_ne hgb (fun e => hgq0 g rfl e.symm)
            have hgv := hgv0 g rfl
            clear hgd1 hgq0 hgv0
            go_wp2_with fail
            go_loopw [10] (fun i wr2 => ∃ (k2 : Nat) (cu2 : Array Value), k2 ≤ T.length ∧ i = .int .i64 k2 ∧ Blk wr2 g (.cells cu2 30) ∧ T.length * 7 ≤ cu2.size ∧ w4.grownBy wr2 (some g)) (fun i _ => T.length - (intOf i).toNat)
            case atStart => exact ⟨0, cu, Nat.zero_le _, rfl, kG, hsz, gbelow (Below.refl _ _)⟩
            case round =>
              clear kG hsz
              obtain ⟨k2, cu2, hk2, rfl, kC, hsz2, GG⟩ := hrel
              by_cases h2 : k2 < T.length
              · have hd2 : decide ((k2 : Int) < (T.length : Int)) = true := decide_eq_true (by omega)
                have hd3 : decide (k2 < T.length) = true := decide_eq_true h2
                have hget := fun m (hm : m < 7) => (kC.cell (k2 * 7 + m)).trans (Array.getElem?_eq_getElem (show k2 * 7 + m < cu2.size by omega))
                have z0 := hget 0 (by decide)
                have z1 := hget 1 (by decide)
                have z2 := hget 2 (by decide)
                have z3 := hget 3 (by decide)
                have z4 := hget 4 (by decide)
                have z5 := hget 5 (by decide)
                have z6 := hget 6 (by decide)
                have y0 := kC.frozen (k2 * 7)
                have y1 := kC.frozen (k2 * 7 + 1)
                have y2 := kC.frozen (k2 * 7 + 2)
                have y3 := kC.frozen (k2 * 7 + 3)
                have y4 := kC.frozen (k2 * 7 + 4)
                have y5 := kC.frozen (k2 * 7 + 5)
                have y6 := kC.frozen (k2 * 7 + 6)
                simp only [Nat.add_zero] at z0
                clear hget
                go_wp2_with fail
                go_roundw
                case rel => exact ⟨k2 + 1, put7 cu2 (k2 * 7) Cm.zero, by omega, by go_num, putw_blk (k2 * 7) Cm.zero kC, by rw [put7_size]; exact hsz2, gtrans GG (putw_grown wr g (k2 * 7) Cm.zero)⟩
                case measure => simp [intOf]; omega
              · have hd2 : decide ((k2 : Int) < (T.length : Int)) = false := decide_eq_false (by omega)
                have hd3 : decide (k2 < T.length) = false := decide_eq_false h2
                clear kC hsz2 hk2 h2
                go_wp2_with fail
                go_meet
                exact ⟨b3, v1, _, rfl, S4.grow GG hgq hgd hgv⟩
        · by_cases d1 : a.d = 1
          · have t0 : ((a.d : Int) == 0) = false := by rw [beq_eq_false_iff_ne]; omega
            have t1 : ((a.d : Int) == 1) = true := by simp [d1]
            clear d0 d1
            have c2 := kA.cell 2
            have c3 := kA.cell 3
            go_wp2_with fail
            refine (qdone_any _ _ vq M (by have := s1.len; omega) a.c.cl a.c.sq W s1.q).mono ?_
            rintro e w2 ⟨rfl, v1, q2, m2⟩
            have kA2 := m2.blk kA hne1 hne2
            have rd2 := m2.rd s1.rd s1.ne s1.ap
            have bel2 := s1.q.moved m2 s1.bel (Nat.le_refl _) (Nat.le_of_lt s1.q.blk.lt)
            have lt2 : ∀ b, dv.ownBlock = some b → b < w2.heap.size := fun b hb => Nat.lt_of_lt_of_le (s1.lt b hb) m2.size
            have ap2 := moved_ap m2 s1.ap s1.lt
            clear kA m2 c2 c3
            have c2 := kA2.cell 2
            have c3 := kA2.cell 3
            go_wp2_with fail
            refine (rdone_any dv M (by have := s1.len; omega) s1.u a.c.cl a.c.sq w2 rd2 s1.fits lt2).mono ?_
            rintro e w3 ⟨v3, rfl, rd3, b3, f3, fr3, lt3⟩
            have hlen : (qDone M a.c.cl a.c.sq).length ≤ M.length := List.length_filter_le _ _
            have S4 : St w0 w0.heap.size (k + 1) w3 v3 v1 (qDone M a.c.cl a.c.sq) := ⟨q2.below b3, rd3, f3, s1.u.done _ _, by have := s1.len; omega, lt3, from_ne fr3 s1.ne q2.blk.lt, from_ap fr3 ap2 (fun b hb => (q2.row.lt b hb).2), Below.later bel2 b3 (Nat.le_of_lt q2.blk.lt)⟩
            clear q2 rd2 rd3 fr3 lt2 lt3 bel2 c2 c3 kA2 b3 ap2
            go_wp2
            go_meet
            exact ⟨v3, v1, _, rfl, S4⟩
          · have t0 : ((a.d : Int) == 0) = false := by rw [beq_eq_false_iff_ne]; omega
            have t1 : ((a.d : Int) == 1) = false := by rw [beq_eq_false_iff_ne]; omega
            clear d0 d1
            have c2 := kA.cell 2
            have c3 := kA.cell 3
            have c4 := kA.cell 4
            have c5 := kA.cell 5
            have c6 := kA.cell 6
            have c7 := kA.cell 7
            have c8 := kA.cell 8
            go_wp2_with fail
            refine (rput_any dv M (by have := s1.len; omega) s1.u a.c W s1.rd s1.fits s1.lt).mono ?_
            rintro e w2 ⟨v3, rfl, rd2, b2, f3, fr3, lt3⟩
            have kA2 := kA.later b2
            have q2 := s1.q.below b2
            have bel2 := Below.later s1.bel b2 (Nat.le_of_lt s1.q.blk.lt)
            have ne2 := from_ne fr3 s1.ne s1.q.blk.lt
            have ap2 := from_ap fr3 s1.ap (fun b hb => (s1.q.row.lt b hb).2)
            obtain ⟨p3, k3, e3, _⟩ := rd2.len
            subst e3
            clear c2 c3 c4 c5 c6 c7 c8 kA
            have c2 := kA2.cell 2
            have c3 := kA2.cell 3
            have c4 := kA2.cell 4
            have c5 := kA2.cell 5
            have c6 := kA2.cell 6
            have c7 := kA2.cell 7
            have c8 := kA2.cell 8
            go_wp2_with fail
            refine (put_any _ _ vq M (by have := s1.len; omega) a.c hao w2 q2).mono ?_
            rintro e w3 ⟨v1, rfl, q3, m3⟩
            have rd3 := m3.rd rd2 ne2 ap2
            have hlen := qPut_len M a.c
            have S4 : St w0 w0.heap.size (k + 1) w3 (.slice p3 (qPut M a.c).1.length k3) v1 (qPut M a.c).1 := ⟨q3, rd3, f3, s1.u.put _, by have := s1.len; omega, fun b hb => Nat.lt_of_lt_of_le (lt3 b hb) m3.size, ne2, moved_ap m3 ap2 lt3, q2.moved m3 bel2 (Nat.le_refl _) (Nat.le_of_lt q2.blk.lt)⟩
            obtain ⟨E, hE⟩ : ∃ E, (qPut M a.c).2 = E := ⟨_, rfl⟩
            rw [hE]
            have te : (E != E) = false := by simp
            clear hE q2 q3 rd2 rd3 fr3 lt3 bel2 m3 ap2 ne2 kA2 b2 c2 c3 c4 c5 c6 c7 c8
            go_wp2
            go_meet
            exact ⟨_, v1, _, rfl, S4⟩
      case rest =>
        obtain ⟨dv2, vq2, M2, rfl, S5⟩ := hcut
        go_wp2_with fail
        refine (all_any _ _ vq2 M2 (by have := S5.len; omega) wc S5.q).mono ?_
        rintro e w6 ⟨o5, rfl, h5, b6⟩
        have S6 := S5.later b6
        have lto := fun b (hb : o5.ownBlock = some b) => own_base h5 b hb
        have hgd0 : ∀ g, o5.ownBlock = some g → some g ≠ dv2.ownBlock := fun g hg e => by have h1 := lto g hg; have h2 := S5.lt g e.symm; omega
        have hgv0 : ∀ g, o5.ownBlock = some g → some g ≠ vq2.ownBlock := fun g hg e => by have h1 := lto g hg; have h2 := (S5.q.row.lt g e.symm).2; omega
        have hgq0 : ∀ g, o5.ownBlock = some g → w0.heap.size < g := fun g hg => by have h1 := lto g hg; have h2 := S5.q.blk.lt; omega
        obtain ⟨po, co, eo, _⟩ := RdV.owns h5
        subst eo
        go_wp2_with fail
        refine (same_any _ dv2 M2 w6 (RdT.owns h5) S6.rd).mono ?_
        rintro e w7 ⟨rfl, b7⟩
        have S7 := S6.later b7
        have hh7 := (held_own h5).later b7
        clear S5 S6 h5 b6 b7 lto
        rcases hh7 with ⟨e, hM⟩ | ⟨g, cg, cu, e, _, kG, hsz, _, _⟩
        · subst hM
          clear e hgd0 hgv0 hgq0
          go_wp2_with fail
          go_loopw [14] (fun i wr2 => i = .int .i64 0 ∧ w7 = wr2) (fun _ _ => 0)
          case atStart => exact ⟨rfl, rfl⟩
          case round =>
            obtain ⟨rfl, rfl⟩ := hrel
            go_wp2_with fail
            go_roundw
            case rel => exact ⟨k + 1, dv2, vq2, [], by omega, by go_num, rfl, S7⟩
            case measure => simp [intOf]; omega
        · injection e with e1 _ e3
          subst e1
          subst e3
          have hgd := hgd0 g rfl
          have hgq := hgq0 g rfl
          have hgv := hgv0 g rfl
          clear hgd0 hgv0 hgq0
          go_wp2_with fail
          go_loopw [14] (fun i wr2 => ∃ (k2 : Nat) (cu2 : Array Value), k2 ≤ M2.length ∧ i = .int .i64 k2 ∧ Blk wr2 g (.cells cu2 30) ∧ M2.length * 7 ≤ cu2.size ∧ w7.grownBy wr2 (some g)) (fun i _ => M2.length - (intOf i).toNat)
          case atStart => exact ⟨0, cu, Nat.zero_le _, rfl, kG, hsz, gbelow (Below.refl _ _)⟩
          case round =>
            clear kG hsz
            obtain ⟨k2, cu2, hk2, rfl, kC, hsz2, GG⟩ := hrel
            by_cases h2 : k2 < M2.length
            · have hd2 : decide ((k2 : Int) < (M2.length : Int)) = true := decide_eq_true (by omega)
              have hd3 : decide (k2 < M2.length) = true := decide_eq_true h2
              have hget := fun m (hm : m < 7) => (kC.cell (k2 * 7 + m)).trans (Array.getElem?_eq_getElem (show k2 * 7 + m < cu2.size by omega))
              have z0 := hget 0 (by decide)
              have z1 := hget 1 (by decide)
              have z2 := hget 2 (by decide)
              have z3 := hget 3 (by decide)
              have z4 := hget 4 (by decide)
              have z5 := hget 5 (by decide)
              have z6 := hget 6 (by decide)
              have y0 := kC.frozen (k2 * 7)
              have y1 := kC.frozen (k2 * 7 + 1)
              have y2 := kC.frozen (k2 * 7 + 2)
              have y3 := kC.frozen (k2 * 7 + 3)
              have y4 := kC.frozen (k2 * 7 + 4)
              have y5 := kC.frozen (k2 * 7 + 5)
              have y6 := kC.frozen (k2 * 7 + 6)
              simp only [Nat.add_zero] at z0
              clear hget
              go_wp2_with fail
              go_roundw
              case rel => exact ⟨k2 + 1, put7 cu2 (k2 * 7) Cm.zero, by omega, by go_num, putw_blk (k2 * 7) Cm.zero kC, by rw [put7_size]; exact hsz2, gtrans GG (putw_grown wr g (k2 * 7) Cm.zero)⟩
              case measure => simp [intOf]; omega
            · have hd2 : decide ((k2 : Int) < (M2.length : Int)) = false := decide_eq_false (by omega)
              have hd3 : decide (k2 < M2.length) = false := decide_eq_false h2
              clear kC hsz2 hk2 h2
              go_wp2_with fail
              go_roundw
              case rel => exact ⟨k + 1, dv2, vq2, M2, by omega, by go_num, rfl, S7.grow GG hgq hgd hgv⟩
              case measure => simp [intOf]; omega
    · have hd : decide ((k : Int) < (l.length : Int)) = false := decide_eq_false (by omega)
      have hd' : decide (k < l.length) = false := decide_eq_false hlt
      go_wp2_with fail
      refine (all_any _ _ vq M (by have := s.len; omega) wr s.q).mono ?_
      rintro e w6 ⟨o5, rfl, h5, b6⟩
      have S6 := s.later b6
      go_wp2_with fail
      refine (same_any o5 _ M w6 (RdT.owns h5) S6.rd).mono ?_
      rintro e w7 ⟨rfl, b7⟩
      have S7 := S6.later b7
      go_wp2_with fail
      refine (wakes_any _).mono ?_
      rintro e w8 ⟨rfl, b8⟩
      go_wp2
      go_ret
      exact ⟨rfl, Below.later' b0 (S7.later b8).bel⟩
set_option maxRecDepth 100000 in
theorem plays_great (v : Value) (l : List Ac) (w : World) (hv : RdT Ac.cells w v l) (hg : greatA l = true) :
    Calls Try.prog 3 #[v] w fun e w' => e = .returned (.bool true) ∧ Below w.heap.size w w' := by
  have HV := Lib.hid hv
  obtain ⟨p, cap, rfl, _⟩ := hv.len
  clear hv
  go_enter Try.func3, Try.ntmps3
  go_wp2_with fail
  refine (great_any _ l w HV.out).mono ?_
  rintro e w0 ⟨rfl, b0⟩
  rw [hg]
  go_wp2_with fail
  refine (wakes_any _).mono ?_
  rintro e w5 ⟨rfl, b5⟩
  go_wp2
  go_ret
  exact ⟨rfl, Below.later' b0 b5⟩
theorem plays_law {H : Type} {enc : TypeId × Value → H} {base : Nat} {d : DataW H} {ps : List MemPlace} (v : Value) (w : World)
    (hok : Value.okWide Try.prog w .any base 22 v) (ht : DataW.Trod enc Try.prog w 0 (fun _ => true) true 22 v d ps) :
    Calls Try.prog 3 #[v] w fun e w' => e = .returned (.bool true) ∧ Below w.heap.size w w' := by
  obtain ⟨l, hl, ho⟩ := open_acts hok ht
  cases hg : greatA l
  · exact plays_walk v l ho w hl hg
  · exact plays_great v l w hl hg
end Bat
end Go.Proofs.Ytcfcikpehekfbaa
