/- The document's scanner: word 60. -/
import Derived.Test.YtojdjhicjhhblaaRsP
import Derived.Deep.LoopGhost
namespace Go.Proofs.Ytojdjhicjhhblaa
open Go Go.RowKit
theorem rends_q (w : World) (n : Nat) (b : UInt8) : Calls Try.prog 64 #[.int .u8 b.toNat] (w.drewN n) fun e w'' => e = .returned (.bool (stopB b)) ∧ ∃ m, w'' = w.drewN m := (rends_any _ b).mono fun _ _ h => ⟨h.1, n, h.2.symm⟩
theorem rblank_q (w : World) (n : Nat) (b : UInt8) : Calls Try.prog 58 #[.int .u8 b.toNat] (w.drewN n) fun e w'' => e = .returned (.bool (blankB b)) ∧ ∃ m, w'' = w.drewN m := (rblank_any _ b).mono fun _ _ h => ⟨h.1, n, h.2.symm⟩
/-- what a step leaves -/
def StepP (B g : Nat) (s : List UInt8) (i : Nat) (R : List Ent × (Int × Int)) (w : World) : Prop :=
  (∃ j c2 q2, i < j ∧ j ≤ s.length ∧ RM B g s j c2 q2 w ∧ c2.fresh = false ∧ c2.st = 0 ∧ Bnd j c2 ∧ prun (linesOf s) (s.drop j) c2 = R) ∨ (R.1 = [] ∧ R.2.1 ≠ 0 ∧ RF g R.2 w)
theorem RFA.grown {g : Nat} {s : List UInt8} {i : Nat} {f : Int × Int} {w w2 : World} (h : RFA g s i f w) (hb : Below w.heap.size w w2) : RFA g s i f w2 := by
  obtain ⟨x2, x3, x4, x5, x6, x7, x8, h⟩ := h
  exact ⟨x2, x3, x4, x5, x6, x7, x8, h.below hb h.lt⟩

set_option maxHeartbeats 8000000 in
set_option maxRecDepth 100000 in
theorem rput_fault {g : Nat} {s : List UInt8} {i : Nat} {f : Int × Int} {w : World} (t : List UInt8) (qd : Bool) (h : RFA g s i f w) (hf : f.1 ≠ 0) :
    Calls Try.prog 65 #[.pointer (some ⟨g, 0, none⟩), .agg #[.string (mk t), .bool qd]] w fun e w' => e = .returned (.tuple #[]) ∧ Below w.heap.size w w' ∧ RFA g s i f w' := by
  obtain ⟨f1, f2⟩ := f
  dsimp only at hf
  obtain ⟨W1, hW1⟩ : ∃ W, w.alloc (.cells #[.string (mk t), .bool qd] 27) = W := ⟨_, rfl⟩
  have kw : Below w.heap.size w W1 := by rw [← hW1]; exact alloc_bel _ _
  have F0 := Lib.hid (h.grown kw)
  have k0 := Lib.hid kw
  obtain ⟨x2, x3, x4, x5, x6, x7, x8, hB⟩ := h.grown kw
  have c9 : W1.cell? ⟨g, 9, none⟩ = some (.int .i64 f1) := (hB.cell 9).trans rfl
  have e0 : (f1 == 0) = false := by rw [beq_eq_false_iff_ne]; exact hf
  have e1 : (f1 != 0) = true := by rw [bne_iff_ne]; exact hf
  clear h kw hB hf
  go_enter Try.func65, Try.ntmps65
  go_upto_region 1 with (fail)
  clear hW1
  go_wp2_with fail
  ((try simp only [Exit.inBlock, Exit.then]); refine bodyPost_ret (results_none rfl _ _ _) rfl ?_)
  exact ⟨rfl, k0.out, F0.out⟩
/-- the word's loop: at j, all well -/
structure WI (B g : Nat) (s : List UInt8) (i : Nat) (c : Sc) (q : RV) (R : List Ent × (Int × Int)) (j : Nat) (w wr : World) : Prop where
  rm : RM B g s j c q wr
  bel : Below B w wr
  ij : i ≤ j
  le : j ≤ s.length
  bnd : Bnd j c
  eq : prun (linesOf s) (s.drop j) { c with st := 1, cur := (s.take j).drop i, begun := c.line } = R
/-- .. or a fault, at a backslash -/
structure WF (B g : Nat) (s : List UInt8) (i : Nat) (R : List Ent × (Int × Int)) (j : Nat) (w wr : World) : Prop where
  rf : RFA g s j R.2 wr
  bel : Below B w wr
  ij : i ≤ j
  lt : j < s.length
  bs : s[j] = 92
  r1 : R.1 = []
  r2 : R.2.1 ≠ 0
set_option maxHeartbeats 8000000 in
set_option maxRecDepth 100000 in
theorem rword_any {B g : Nat} {s : List UInt8} {i : Nat} {c : Sc} {q : RV} {w : World} {R : List Ent × (Int × Int)} (h : RM B g s i c q w) (hfr : c.fresh = false) (h0 : c.st = 0) (hb : Bnd i c) (hs : s.length ≤ 65536) (hi : i < s.length) (hstop : stopB s[i] = false) (h34 : ¬ s[i] = 34) (hR : prun (linesOf s) (s.drop i) c = R) :
    Calls Try.prog 60 #[.pointer (some ⟨g, 0, none⟩)] w fun e w' => e = .returned (.tuple #[]) ∧ Below B w w' ∧ StepP B g s i R w' := by
  have HI : Hid (WI B g s i c q R i w w) := Lib.hid ⟨h, Below.refl _ _, Nat.le_refl _, Nat.le_of_lt hi, hb, by
    rw [cur_none, List.drop_eq_getElem_cons hi, word_start hfr h0 hstop h34, ← List.drop_eq_getElem_cons hi]; exact hR⟩
  have hfr1 := Lib.hid hfr
  have h01 := Lib.hid h0
  have hs1 := Lib.hid hs
  have hi1 := Lib.hid hi
  have hst1 := Lib.hid hstop
  have hsI : (s.length : Int) ≤ 65536 := by omega
  have hiI : (i : Int) < s.length := by omega
  have c1 : w.cell? ⟨g, 1, none⟩ = some (.int .i64 i) := (h.blk.cell 1).trans rfl
  have hBg := Lib.hid h.hB
  have hBw := Lib.hid (Nat.le_trans h.lo h.hi)
  clear h hfr h0 hb hs hstop h34 hR
  go_enter Try.func60, Try.ntmps60
  go_wp2_with fail
  clear c1
  go_loopg [] (s.length + 1 - i) (fun k wr => ∃ j, Hid ((k = s.length + 1 - j ∧ ∃ q2, WI B g s i c q2 R j w wr) ∨ (k = 0 ∧ WF B g s i R j w wr)))
  case atStart => exact ⟨i, Lib.hid (.inl ⟨rfl, q, HI.out⟩)⟩
  case round =>
    obtain ⟨j, hrel⟩ := hrel
    clear HI
    obtain ⟨line, st, deep, cur, begun, eline, blank, words, fresh, out⟩ := c
    rcases hrel.out with ⟨hgk, q2, HW⟩ | ⟨hgk, HW⟩
    · replace HW := Lib.hid HW
      replace hgk := Lib.hid hgk
      clear hrel
      have hij := HW.out.ij
      have hjl := HW.out.le
      replace hij := Lib.hid hij
      have hbn := Lib.hid HW.out.bnd
      have hE := Lib.hid HW.out.eq
      have S0 := Lib.hid HW.out.rm
      have k0 := Lib.hid HW.out.bel
      dsimp only at hE
      have hfr2 := hfr1
      have h02 := h01
      obtain ⟨wa, wn, wk, oa, on, oc, eds, m⟩ := q2
      by_cases hlt : j < s.length
      · have hltI : (j : Int) < s.length := by omega
        obtain ⟨b, hbj⟩ : ∃ b, s[j] = b := ⟨_, rfl⟩
        have hb1 := Lib.hid hbj
        have hlt1 := Lib.hid hlt
        have hdr : Hid (s.drop j = b :: s.drop (j + 1)) := Lib.hid (by rw [List.drop_eq_getElem_cons hlt, hbj])
        by_cases hsb : stopB b = true
        · have hsb1 := Lib.hid hsb
          have hlt9 : Hid (i < j) := Lib.hid (by
      rcases Nat.lt_or_ge i j with h | h
      · exact h
      · exfalso
        obtain rfl : i = j := by have := hij.out; omega
        have h2 := hst1.out
        rw [hbj, hsb] at h2
        cases h2)
          have c0 : wr.cell? ⟨g, 0, none⟩ = some (.string (mk s)) := (S0.out.blk.cell 0).trans rfl
          have c1 : wr.cell? ⟨g, 1, none⟩ = some (.int .i64 j) := (S0.out.blk.cell 1).trans rfl
          have z1 : wr.frozen? ⟨g, 1, none⟩ = false := by rw [S0.out.blk.frozen]; rfl
          have c9 : wr.cell? ⟨g, 9, none⟩ = some (.int .i64 0) := (S0.out.blk.cell 9).trans rfl
          have z9 : wr.frozen? ⟨g, 9, none⟩ = false := by rw [S0.out.blk.frozen]; rfl
          try go_wp2_with fail
          go_quiet ((go_at_call 64; exact rends_q _ _ b))
          have S1_ := Lib.hid (S0.out.drew nq)
          have k1_ := Lib.hid (bel_drewN k0.out nq)
          clear c0 c1 z1 c9 z9
          clear S0 k0
          generalize wr.drewN nq = w1_ at *
          clear nq
          clear hgk
          have hcut := cut_str (P := Try.prog) Try.underlying9 s i j hij.out (by first | exact Nat.le_refl _ | omega)
          go_upto_region 7 with (fail)
          have c0 : w1_.drew.cell? ⟨g, 0, none⟩ = some (.string (mk s)) := (S1_.out.blk.cell 0).trans rfl
          have c1 : w1_.drew.cell? ⟨g, 1, none⟩ = some (.int .i64 j) := (S1_.out.blk.cell 1).trans rfl
          refine wp_region_still_tail 12 (by kernel_rfl) (by kernel_rfl) ?_
          simp only [List.take_succ_cons, List.take_zero, List.drop_succ_cons, List.drop_zero]
          change wpStill _ _ w1_.drew _ _ _
          iterate 12 still_step
          refine wpStill_nil ?_
          change wpList _ _ _ _ _ w1_.drew
          clear hcut c0 c1
          have SZ := Lib.hid (S1_.out.drew 1)
          change Hid (RM _ _ _ _ _ _ w1_.drew) at SZ
          have kZ := Lib.hid (bel_drewN k1_.out 1)
          change Hid (Below _ _ w1_.drew) at kZ
          clear S1_ k1_
          generalize w1_.drew = Z at *
          go_wp2_with fail
          have SY : Hid (RM B g s j (⟨line, st, deep, (s.take j).drop i, line, eline, blank, words, fresh, out⟩ : Sc) ⟨wa, wn, wk, oa, on, oc, eds, m⟩ Z) := Lib.hid (SZ.out.more rfl rfl rfl)
          refine (rput_any ((s.take j).drop i) false SY.out hbn.out.words).mono ?_
          rintro e w6 ⟨rfl, k6, hP⟩
          replace k6 := Lib.hid k6
          replace hP := Lib.hid hP
          go_wp2_with fail
          go_end0
          refine ⟨rfl, kZ.out.trans k6.out, ?_⟩
          have hq := word_end (tot := linesOf s) (r := s.drop j) (c := (⟨line, st, deep, (s.take j).drop i, line, eline, blank, words, fresh, out⟩ : Sc)) hfr2.out h02.out rfl (nextBad_drop fun hj => by rw [hb1.out]; exact hsb1.out)
          rw [show ({ (⟨line, st, deep, (s.take j).drop i, line, eline, blank, words, fresh, out⟩ : Sc) with st := 1 } : Sc) = ⟨line, 1, deep, (s.take j).drop i, line, eline, blank, words, fresh, out⟩ from rfl, hE.out] at hq
          dsimp only at hq
          rcases hP.out with ⟨c2, q3, h2, R2⟩ | ⟨x, h2, hx, F2⟩
          · rw [h2] at hq
            obtain ⟨t1, t2, t3, t4, t5, t6, t7⟩ := put_ok h2
            exact .inl ⟨j, c2, q3, hlt9.out, by omega, R2, t5.trans hfr2.out, t1.trans h02.out, put_bnd (i := j) (c := (⟨line, st, deep, (s.take j).drop i, line, eline, blank, words, fresh, out⟩ : Sc)) ⟨hbn.out.st, hbn.out.words, hbn.out.deep, hbn.out.lo, hbn.out.hi, hbn.out.out⟩ h2, hq.symm⟩
          · rw [h2] at hq
            rw [hq]
            exact .inr ⟨rfl, by show x.1 ≠ 0; rw [hx]; decide, F2⟩
        · replace hsb : stopB b = false := by simpa using hsb
          have hsb1 := Lib.hid hsb
          by_cases b92 : b = 92
          · have e92 : ((b.toNat : Int) == 92) = true := u8_beq (k := 92) b92 (by decide)
            replace b92 := Lib.hid b92
            have c0 : wr.cell? ⟨g, 0, none⟩ = some (.string (mk s)) := (S0.out.blk.cell 0).trans rfl
            have c1 : wr.cell? ⟨g, 1, none⟩ = some (.int .i64 j) := (S0.out.blk.cell 1).trans rfl
            have z1 : wr.frozen? ⟨g, 1, none⟩ = false := by rw [S0.out.blk.frozen]; rfl
            have c9 : wr.cell? ⟨g, 9, none⟩ = some (.int .i64 0) := (S0.out.blk.cell 9).trans rfl
            have z9 : wr.frozen? ⟨g, 9, none⟩ = false := by rw [S0.out.blk.frozen]; rfl
            try go_wp2_with fail
            go_quiet ((go_at_call 64; exact rends_q _ _ b))
            have S2_ := Lib.hid (S0.out.drew nq)
            have k2_ := Lib.hid (bel_drewN k0.out nq)
            clear c0 c1 z1 c9 z9
            clear S0 k0
            generalize wr.drewN nq = w2_ at *
            clear nq
            have c0 : w2_.cell? ⟨g, 0, none⟩ = some (.string (mk s)) := (S2_.out.blk.cell 0).trans rfl
            have c1 : w2_.cell? ⟨g, 1, none⟩ = some (.int .i64 j) := (S2_.out.blk.cell 1).trans rfl
            have z1 : w2_.frozen? ⟨g, 1, none⟩ = false := by rw [S2_.out.blk.frozen]; rfl
            have c2 : w2_.cell? ⟨g, 2, none⟩ = some (.int .i64 line) := (S2_.out.blk.cell 2).trans rfl
            have z2 : w2_.frozen? ⟨g, 2, none⟩ = false := by rw [S2_.out.blk.frozen]; rfl
            have c9 : w2_.cell? ⟨g, 9, none⟩ = some (.int .i64 0) := (S2_.out.blk.cell 9).trans rfl
            have z9 : w2_.frozen? ⟨g, 9, none⟩ = false := by rw [S2_.out.blk.frozen]; rfl
            go_wp2_with fail
            try go_wp2_with fail
            go_quiet (fail)
            have S3_ := Lib.hid (S2_.out.drew nq)
            have k3_ := Lib.hid (bel_drewN k2_.out nq)
            clear c0 c1 z1 c2 z2 c9 z9
            clear S2_ k2_
            generalize w2_.drewN nq = w3_ at *
            clear nq
            go_wp2_with fail
            refine (pair_any S3_.out hlt hs1.out).mono ?_
            rintro e w6 ⟨k6, hP⟩
            replace k6 := Lib.hid k6
            rcases hP with ⟨h1, h2, rfl, R6⟩ | ⟨h1, h2, rfl, F6⟩ | ⟨h1, rfl, F6⟩
            · replace h2 := Lib.hid h2
              replace R6 := Lib.hid R6
              go_wp2_with fail
              go_roundg (s.length + 1 - (j + 2))
              case measure => (have := hgk.out; omega)
              case rel =>
                refine ⟨j + 2, Lib.hid (.inl ⟨rfl, _, R6.out, k3_.out.trans k6.out, by have := hij.out; omega, by omega, hbn.out.more (by omega), ?_⟩)⟩
                have hE0 := hE.out; rw [hdr.out, b92.out, List.drop_eq_getElem_cons h1, prun_bs (by rw [see_not (by exact hfr2.out)]; simp) (by rw [see_not (by exact hfr2.out)]; simp) h2.out, see_not (by exact hfr2.out)] at hE0; rw [← hE0, cur_two hij.out h1, hb1.out, b92.out]; rfl
            · replace F6 := Lib.hid F6
              have h3 := Lib.hid (h1)
              replace h2 := Lib.hid h2
              have hRR : Hid (R = ([], (230, line))) := Lib.hid (by have hE0 := hE.out; rw [hdr.out, b92.out, List.drop_eq_getElem_cons h1, h2.out, prun_bsn (by rw [see_not (by exact hfr2.out)]; simp) (by rw [see_not (by exact hfr2.out)]; simp)] at hE0; exact hE0.symm)
              go_wp2_with fail
              go_roundg 0
              case measure => (have := hgk.out; omega)
              case rel =>
                refine ⟨j, Lib.hid (.inr ⟨rfl, ?_, k3_.out.trans k6.out, hij.out, hlt1.out, by rw [hb1.out]; exact b92.out, by rw [hRR.out], by rw [hRR.out]; show (230 : Int) ≠ 0; decide⟩)⟩
                rw [hRR.out]
                exact F6.out
            · replace F6 := Lib.hid F6
              have h3 := Lib.hid (h1)
              have hRR : Hid (R = ([], (230, linesOf s))) := Lib.hid (by have hE0 := hE.out; rw [hdr.out, b92.out, List.drop_eq_nil_of_le (by omega), prun_bs0 (by rw [see_not (by exact hfr2.out)]; simp) (by rw [see_not (by exact hfr2.out)]; simp)] at hE0; exact hE0.symm)
              replace h1 := Lib.hid h1
              go_wp2_with fail
              go_roundg 0
              case measure => (have := hgk.out; omega)
              case rel =>
                refine ⟨j, Lib.hid (.inr ⟨rfl, ?_, k3_.out.trans k6.out, hij.out, hlt1.out, by rw [hb1.out]; exact b92.out, by rw [hRR.out], by rw [hRR.out]; show (230 : Int) ≠ 0; decide⟩)⟩
                rw [hRR.out]
                exact F6.out
          · have e92 : ((b.toNat : Int) == 92) = false := u8_ne (k := 92) b92
            replace b92 := Lib.hid b92
            by_cases b34 : b = 34
            · have e34 : ((b.toNat : Int) == 34) = true := u8_beq (k := 34) b34 (by decide)
              replace b34 := Lib.hid b34
              have c0 : wr.cell? ⟨g, 0, none⟩ = some (.string (mk s)) := (S0.out.blk.cell 0).trans rfl
              have c1 : wr.cell? ⟨g, 1, none⟩ = some (.int .i64 j) := (S0.out.blk.cell 1).trans rfl
              have z1 : wr.frozen? ⟨g, 1, none⟩ = false := by rw [S0.out.blk.frozen]; rfl
              have c9 : wr.cell? ⟨g, 9, none⟩ = some (.int .i64 0) := (S0.out.blk.cell 9).trans rfl
              have z9 : wr.frozen? ⟨g, 9, none⟩ = false := by rw [S0.out.blk.frozen]; rfl
              try go_wp2_with fail
              go_quiet ((go_at_call 64; exact rends_q _ _ b))
              have S4_ := Lib.hid (S0.out.drew nq)
              have k4_ := Lib.hid (bel_drewN k0.out nq)
              clear c0 c1 z1 c9 z9
              clear S0 k0
              generalize wr.drewN nq = w4_ at *
              clear nq
              have c0 : w4_.cell? ⟨g, 0, none⟩ = some (.string (mk s)) := (S4_.out.blk.cell 0).trans rfl
              have c1 : w4_.cell? ⟨g, 1, none⟩ = some (.int .i64 j) := (S4_.out.blk.cell 1).trans rfl
              have z1 : w4_.frozen? ⟨g, 1, none⟩ = false := by rw [S4_.out.blk.frozen]; rfl
              have c2 : w4_.cell? ⟨g, 2, none⟩ = some (.int .i64 line) := (S4_.out.blk.cell 2).trans rfl
              have z2 : w4_.frozen? ⟨g, 2, none⟩ = false := by rw [S4_.out.blk.frozen]; rfl
              have c9 : w4_.cell? ⟨g, 9, none⟩ = some (.int .i64 0) := (S4_.out.blk.cell 9).trans rfl
              have z9 : w4_.frozen? ⟨g, 9, none⟩ = false := by rw [S4_.out.blk.frozen]; rfl
              go_wp2_with fail
              try go_wp2_with fail
              go_quiet (fail)
              have S5_ := Lib.hid (S4_.out.drew nq)
              have k5_ := Lib.hid (bel_drewN k4_.out nq)
              clear c0 c1 z1 c2 z2 c9 z9
              clear S4_ k4_
              generalize w4_.drewN nq = w5_ at *
              clear nq
              have c0 : w5_.cell? ⟨g, 0, none⟩ = some (.string (mk s)) := (S5_.out.blk.cell 0).trans rfl
              have c1 : w5_.cell? ⟨g, 1, none⟩ = some (.int .i64 j) := (S5_.out.blk.cell 1).trans rfl
              have z1 : w5_.frozen? ⟨g, 1, none⟩ = false := by rw [S5_.out.blk.frozen]; rfl
              have c2 : w5_.cell? ⟨g, 2, none⟩ = some (.int .i64 line) := (S5_.out.blk.cell 2).trans rfl
              have z2 : w5_.frozen? ⟨g, 2, none⟩ = false := by rw [S5_.out.blk.frozen]; rfl
              have c9 : w5_.cell? ⟨g, 9, none⟩ = some (.int .i64 0) := (S5_.out.blk.cell 9).trans rfl
              have z9 : w5_.frozen? ⟨g, 9, none⟩ = false := by rw [S5_.out.blk.frozen]; rfl
              go_wp2_with fail
              try go_wp2_with fail
              go_quiet (fail)
              have S6_ := Lib.hid (S5_.out.drew nq)
              have k6_ := Lib.hid (bel_drewN k5_.out nq)
              clear c0 c1 z1 c2 z2 c9 z9
              clear S5_ k5_
              generalize w5_.drewN nq = w6_ at *
              clear nq
              have c0 : w6_.cell? ⟨g, 0, none⟩ = some (.string (mk s)) := (S6_.out.blk.cell 0).trans rfl
              have c1 : w6_.cell? ⟨g, 1, none⟩ = some (.int .i64 j) := (S6_.out.blk.cell 1).trans rfl
              have z1 : w6_.frozen? ⟨g, 1, none⟩ = false := by rw [S6_.out.blk.frozen]; rfl
              have c2 : w6_.cell? ⟨g, 2, none⟩ = some (.int .i64 line) := (S6_.out.blk.cell 2).trans rfl
              have z2 : w6_.frozen? ⟨g, 2, none⟩ = false := by rw [S6_.out.blk.frozen]; rfl
              have c9 : w6_.cell? ⟨g, 9, none⟩ = some (.int .i64 0) := (S6_.out.blk.cell 9).trans rfl
              have z9 : w6_.frozen? ⟨g, 9, none⟩ = false := by rw [S6_.out.blk.frozen]; rfl
              go_wp2_with fail
              refine (fault_any 230 line S6_.out.blk).mono ?_
              rintro e w6 ⟨rfl, g6, b6⟩
              replace g6 := Lib.hid g6
              replace b6 := Lib.hid b6
              clear c0 c1 z1 c2 z2 c9 z9
              go_wp2_with fail
              ((try simp only [Exit.inBlock, Exit.then]); refine bodyPost_ret (results_none rfl _ _ _) rfl ?_)
              refine ⟨rfl, k6_.out.trans (S6_.out.below g6.out), .inr ?_⟩
              have hRR : R = ([], (230, line)) := by have hE0 := hE.out; rw [hdr.out, b34.out, prun_in (by rw [see_not (by exact hfr2.out)])] at hE0; exact hE0.symm
              rw [hRR]
              exact ⟨rfl, by show (230 : Int) ≠ 0; decide, RF.of b6.out⟩
            · have e34 : ((b.toNat : Int) == 34) = false := u8_ne (k := 34) b34
              replace b34 := Lib.hid b34
              have c0 : wr.cell? ⟨g, 0, none⟩ = some (.string (mk s)) := (S0.out.blk.cell 0).trans rfl
              have c1 : wr.cell? ⟨g, 1, none⟩ = some (.int .i64 j) := (S0.out.blk.cell 1).trans rfl
              have z1 : wr.frozen? ⟨g, 1, none⟩ = false := by rw [S0.out.blk.frozen]; rfl
              have c9 : wr.cell? ⟨g, 9, none⟩ = some (.int .i64 0) := (S0.out.blk.cell 9).trans rfl
              have z9 : wr.frozen? ⟨g, 9, none⟩ = false := by rw [S0.out.blk.frozen]; rfl
              try go_wp2_with fail
              go_quiet ((go_at_call 64; exact rends_q _ _ b))
              have S7_ := Lib.hid (S0.out.drew nq)
              have k7_ := Lib.hid (bel_drewN k0.out nq)
              clear c0 c1 z1 c9 z9
              clear S0 k0
              generalize wr.drewN nq = w7_ at *
              clear nq
              have c0 : w7_.cell? ⟨g, 0, none⟩ = some (.string (mk s)) := (S7_.out.blk.cell 0).trans rfl
              have c1 : w7_.cell? ⟨g, 1, none⟩ = some (.int .i64 j) := (S7_.out.blk.cell 1).trans rfl
              have z1 : w7_.frozen? ⟨g, 1, none⟩ = false := by rw [S7_.out.blk.frozen]; rfl
              have c2 : w7_.cell? ⟨g, 2, none⟩ = some (.int .i64 line) := (S7_.out.blk.cell 2).trans rfl
              have z2 : w7_.frozen? ⟨g, 2, none⟩ = false := by rw [S7_.out.blk.frozen]; rfl
              have c9 : w7_.cell? ⟨g, 9, none⟩ = some (.int .i64 0) := (S7_.out.blk.cell 9).trans rfl
              have z9 : w7_.frozen? ⟨g, 9, none⟩ = false := by rw [S7_.out.blk.frozen]; rfl
              go_wp2_with fail
              try go_wp2_with fail
              go_quiet (fail)
              have S8_ := Lib.hid (S7_.out.drew nq)
              have k8_ := Lib.hid (bel_drewN k7_.out nq)
              clear c0 c1 z1 c2 z2 c9 z9
              clear S7_ k7_
              generalize w7_.drewN nq = w8_ at *
              clear nq
              have c0 : w8_.cell? ⟨g, 0, none⟩ = some (.string (mk s)) := (S8_.out.blk.cell 0).trans rfl
              have c1 : w8_.cell? ⟨g, 1, none⟩ = some (.int .i64 j) := (S8_.out.blk.cell 1).trans rfl
              have z1 : w8_.frozen? ⟨g, 1, none⟩ = false := by rw [S8_.out.blk.frozen]; rfl
              have c2 : w8_.cell? ⟨g, 2, none⟩ = some (.int .i64 line) := (S8_.out.blk.cell 2).trans rfl
              have z2 : w8_.frozen? ⟨g, 2, none⟩ = false := by rw [S8_.out.blk.frozen]; rfl
              have c9 : w8_.cell? ⟨g, 9, none⟩ = some (.int .i64 0) := (S8_.out.blk.cell 9).trans rfl
              have z9 : w8_.frozen? ⟨g, 9, none⟩ = false := by rw [S8_.out.blk.frozen]; rfl
              go_wp2_with fail
              try go_wp2_with fail
              go_quiet (fail)
              have S9_ := Lib.hid (S8_.out.drew nq)
              have k9_ := Lib.hid (bel_drewN k8_.out nq)
              clear c0 c1 z1 c2 z2 c9 z9
              clear S8_ k8_
              generalize w8_.drewN nq = w9_ at *
              clear nq
              have c0 : w9_.cell? ⟨g, 0, none⟩ = some (.string (mk s)) := (S9_.out.blk.cell 0).trans rfl
              have c1 : w9_.cell? ⟨g, 1, none⟩ = some (.int .i64 j) := (S9_.out.blk.cell 1).trans rfl
              have z1 : w9_.frozen? ⟨g, 1, none⟩ = false := by rw [S9_.out.blk.frozen]; rfl
              have c2 : w9_.cell? ⟨g, 2, none⟩ = some (.int .i64 line) := (S9_.out.blk.cell 2).trans rfl
              have z2 : w9_.frozen? ⟨g, 2, none⟩ = false := by rw [S9_.out.blk.frozen]; rfl
              have c9 : w9_.cell? ⟨g, 9, none⟩ = some (.int .i64 0) := (S9_.out.blk.cell 9).trans rfl
              have z9 : w9_.frozen? ⟨g, 9, none⟩ = false := by rw [S9_.out.blk.frozen]; rfl
              go_wp2_with fail
              have G9 : Hid (w9_.grownBy (w9_.setCell ⟨g, 1, none⟩ (.int .i64 ((j : Int) + 1))) (some g)) := Lib.hid (grown_set _ _ _ _)
              go_roundg (s.length + 1 - (j + 1))
              case measure => (have := hgk.out; omega)
              case rel =>
                refine ⟨j + 1, Lib.hid (.inl ⟨rfl, ⟨wa, wn, wk, oa, on, oc, eds, m⟩, RM.upd S9_.out G9.out (by have h := S9_.out.blk.set 1 (.int .i64 ((j : Int) + 1)); exact h) rfl rfl, k9_.out.trans (S9_.out.below G9.out), by have := hij.out; omega, by omega, hbn.out.more (by omega), ?_⟩)⟩
                have hE0 := hE.out; rw [hdr.out, prun_w (by rw [see_not (by exact hfr2.out)]; simp) (by rw [see_not (by exact hfr2.out)]; simp) hsb1.out b34.out b92.out, see_not (by exact hfr2.out)] at hE0; rw [← hE0, cur_one hij.out hlt1.out, hb1.out]; rfl
      · obtain rfl : j = s.length := by omega
        have hlt9 : Hid (i < s.length) := Lib.hid hi
        clear hlt
        have c0 : wr.cell? ⟨g, 0, none⟩ = some (.string (mk s)) := (S0.out.blk.cell 0).trans rfl
        have c1 : wr.cell? ⟨g, 1, none⟩ = some (.int .i64 s.length) := (S0.out.blk.cell 1).trans rfl
        have z1 : wr.frozen? ⟨g, 1, none⟩ = false := by rw [S0.out.blk.frozen]; rfl
        have c9 : wr.cell? ⟨g, 9, none⟩ = some (.int .i64 0) := (S0.out.blk.cell 9).trans rfl
        have z9 : wr.frozen? ⟨g, 9, none⟩ = false := by rw [S0.out.blk.frozen]; rfl
        try go_wp2_with fail
        go_quiet (fail)
        have S10_ := Lib.hid (S0.out.drew nq)
        have k10_ := Lib.hid (bel_drewN k0.out nq)
        clear c0 c1 z1 c9 z9
        clear S0 k0
        generalize wr.drewN nq = w10_ at *
        clear nq
        clear hgk
        replace hE : Hid (prun (linesOf s) (s.drop s.length) ⟨line, 1, deep, s.drop i, line, eline, blank, words, fresh, out⟩ = R) := Lib.hid (by have h := hE.out; rw [List.take_length] at h; exact h)
        have hcut := cut_str (P := Try.prog) Try.underlying9 s i s.length hij.out (by first | exact Nat.le_refl _ | omega)
        go_upto_region 7 with (fail)
        have c0 : w10_.drew.cell? ⟨g, 0, none⟩ = some (.string (mk s)) := (S10_.out.blk.cell 0).trans rfl
        have c1 : w10_.drew.cell? ⟨g, 1, none⟩ = some (.int .i64 s.length) := (S10_.out.blk.cell 1).trans rfl
        refine wp_region_still_tail 12 (by kernel_rfl) (by kernel_rfl) ?_
        simp only [List.take_succ_cons, List.take_zero, List.drop_succ_cons, List.drop_zero]
        change wpStill _ _ w10_.drew _ _ _
        iterate 12 still_step
        refine wpStill_nil ?_
        change wpList _ _ _ _ _ w10_.drew
        clear hcut c0 c1
        have SZ := Lib.hid (S10_.out.drew 1)
        change Hid (RM _ _ _ _ _ _ w10_.drew) at SZ
        have kZ := Lib.hid (bel_drewN k10_.out 1)
        change Hid (Below _ _ w10_.drew) at kZ
        clear S10_ k10_
        generalize w10_.drew = Z at *
        go_wp2_with fail
        have SY : Hid (RM B g s s.length (⟨line, st, deep, s.drop i, line, eline, blank, words, fresh, out⟩ : Sc) ⟨wa, wn, wk, oa, on, oc, eds, m⟩ Z) := Lib.hid (SZ.out.more rfl rfl rfl)
        refine (rput_any (s.drop i) false SY.out hbn.out.words).mono ?_
        rintro e w6 ⟨rfl, k6, hP⟩
        replace k6 := Lib.hid k6
        replace hP := Lib.hid hP
        go_wp2_with fail
        go_end0
        refine ⟨rfl, kZ.out.trans k6.out, ?_⟩
        have hq := word_end (tot := linesOf s) (r := s.drop s.length) (c := (⟨line, st, deep, s.drop i, line, eline, blank, words, fresh, out⟩ : Sc)) hfr2.out h02.out rfl (by rw [List.drop_length]; rfl)
        rw [show ({ (⟨line, st, deep, s.drop i, line, eline, blank, words, fresh, out⟩ : Sc) with st := 1 } : Sc) = ⟨line, 1, deep, s.drop i, line, eline, blank, words, fresh, out⟩ from rfl, hE.out] at hq
        dsimp only at hq
        rcases hP.out with ⟨c2, q3, h2, R2⟩ | ⟨x, h2, hx, F2⟩
        · rw [h2] at hq
          obtain ⟨t1, t2, t3, t4, t5, t6, t7⟩ := put_ok h2
          exact .inl ⟨s.length, c2, q3, hlt9.out, by omega, R2, t5.trans hfr2.out, t1.trans h02.out, put_bnd (i := s.length) (c := (⟨line, st, deep, s.drop i, line, eline, blank, words, fresh, out⟩ : Sc)) ⟨hbn.out.st, hbn.out.words, hbn.out.deep, hbn.out.lo, hbn.out.hi, hbn.out.out⟩ h2, hq.symm⟩
        · rw [h2] at hq
          rw [hq]
          exact .inr ⟨rfl, by show x.1 ≠ 0; rw [hx]; decide, F2⟩
    · replace HW := Lib.hid HW
      replace hgk := Lib.hid hgk
      clear hrel
      have hij := HW.out.ij
      replace hij := Lib.hid hij
      have hlt := HW.out.lt
      have hltI : (j : Int) < s.length := by omega
      have hbj : s[j] = 92 := HW.out.bs
      have hE := Lib.hid (And.intro HW.out.r1 HW.out.r2)
      have F0 := Lib.hid HW.out.rf
      have k0 := Lib.hid HW.out.bel
      clear HW hfr1 h01
      obtain ⟨R1, f1, f2⟩ := R
      obtain ⟨x2, x3, x4, x5, x6, x7, x8, hB⟩ := F0.out
      have S0 := Lib.hid hB
      clear hB
      have e0 : (f1 == 0) = false := by rw [beq_eq_false_iff_ne]; exact hE.out.2
      have e1 : (f1 != 0) = true := by rw [bne_iff_ne]; exact hE.out.2
      have hs92 : stopB 92 = false := by decide
      have c0 : wr.cell? ⟨g, 0, none⟩ = some (.string (mk s)) := (S0.out.cell 0).trans rfl
      have c1 : wr.cell? ⟨g, 1, none⟩ = some (.int .i64 j) := (S0.out.cell 1).trans rfl
      have z1 : wr.frozen? ⟨g, 1, none⟩ = false := by rw [S0.out.frozen]; rfl
      have c9 : wr.cell? ⟨g, 9, none⟩ = some (.int .i64 f1) := (S0.out.cell 9).trans rfl
      have z9 : wr.frozen? ⟨g, 9, none⟩ = false := by rw [S0.out.frozen]; rfl
      clear F0
      try go_wp2_with fail
      go_quiet ((go_at_call 64; exact rends_q _ _ 92))
      have S11_ := Lib.hid (blk_drewN S0.out nq)
      have k11_ := Lib.hid (bel_drewN k0.out nq)
      clear c0 c1 z1 c9 z9
      clear S0 k0
      generalize wr.drewN nq = w11_ at *
      clear nq
      clear hgk hs92
      have hcut := cut_str (P := Try.prog) Try.underlying9 s i j hij.out (by first | exact Nat.le_refl _ | omega)
      go_upto_region 7 with (fail)
      have c0 : w11_.drew.cell? ⟨g, 0, none⟩ = some (.string (mk s)) := (S11_.out.cell 0).trans rfl
      have c1 : w11_.drew.cell? ⟨g, 1, none⟩ = some (.int .i64 j) := (S11_.out.cell 1).trans rfl
      refine wp_region_still_tail 12 (by kernel_rfl) (by kernel_rfl) ?_
      simp only [List.take_succ_cons, List.take_zero, List.drop_succ_cons, List.drop_zero]
      change wpStill _ _ w11_.drew _ _ _
      iterate 12 still_step
      refine wpStill_nil ?_
      change wpList _ _ _ _ _ w11_.drew
      clear hcut c0 c1
      have SZ := Lib.hid (blk_drewN S11_.out 1)
      change Hid (Blk w11_.drew _ _ _ _) at SZ
      have kZ := Lib.hid (bel_drewN k11_.out 1)
      change Hid (Below _ _ w11_.drew) at kZ
      clear S11_ k11_
      generalize w11_.drew = Z at *
      go_wp2_with fail
      have FZ : Hid (RFA g s j (f1, f2) Z) := Lib.hid (RFA.of SZ.out)
      refine (rput_fault ((s.take j).drop i) false FZ.out hE.out.2).mono ?_
      rintro e w6 ⟨rfl, k6, F6⟩
      replace k6 := Lib.hid k6
      replace F6 := Lib.hid F6
      go_wp2_with fail
      go_end0
      exact ⟨rfl, kZ.out.trans (k6.out.mono (Nat.le_trans hBw.out kZ.out.size)), .inr ⟨hE.out.1, hE.out.2, F6.out.rf⟩⟩
end Go.Proofs.Ytojdjhicjhhblaa
