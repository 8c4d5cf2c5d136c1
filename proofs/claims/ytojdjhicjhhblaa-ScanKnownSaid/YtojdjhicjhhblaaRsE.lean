/- The document's scanner: quoted 59. -/
import Derived.Test.YtojdjhicjhhblaaRsD
namespace Go.Proofs.Ytojdjhicjhhblaa
open Go Go.RowKit
/-- the quoted word's loop: at j, all well -/
structure QI (B g : Nat) (s : List UInt8) (i : Nat) (c : Sc) (q : RV) (R : List Ent × (Int × Int)) (j : Nat) (w wr : World) : Prop where
  rm : RM B g s j c q wr
  bel : Below B w wr
  ij : i ≤ j
  le : j ≤ s.length
  bnd : Bnd j c
  eq : prun (linesOf s) (s.drop j) { c with st := 2, cur := (s.take j).drop i, begun := c.line } = R
set_option maxHeartbeats 8000000 in
set_option maxRecDepth 100000 in
theorem rquoted_any {B g : Nat} {s : List UInt8} {i : Nat} {c : Sc} {q : RV} {w : World} {R : List Ent × (Int × Int)} (h : RM B g s i c q w) (hfr : c.fresh = false) (h0 : c.st = 0) (hb : Bnd i c) (hs : s.length ≤ 65536) (hi : i < s.length) (h34 : s[i] = 34) (hR : prun (linesOf s) (s.drop i) c = R) :
    Calls Try.prog 59 #[.pointer (some ⟨g, 0, none⟩)] w fun e w' => e = .returned (.tuple #[]) ∧ Below B w w' ∧ StepP B g s i R w' := by
  have hsI : (s.length : Int) ≤ 65536 := by omega
  have hiI : (i : Int) < s.length := by omega
  have hE0 : Hid (prun (linesOf s) (s.drop (i + 1)) { c with st := 2, cur := [], begun := c.line } = R) := Lib.hid (by
    have e := hR
    rw [List.drop_eq_getElem_cons hi, h34, prun_open (by rw [see_not hfr, h0]; simp) (by rw [see_not hfr, h0]; simp) (by rw [see_not hfr, h0]; simp), see_not hfr] at e
    exact e)
  have hfr1 := Lib.hid hfr
  have h01 := Lib.hid h0
  have hs1 := Lib.hid hs
  have hi1 := Lib.hid hi
  have hb0 := Lib.hid hb
  obtain ⟨line, st, deep, cur, begun, eline, blank, words, fresh, out⟩ := c
  obtain ⟨wa, wn, wk, oa, on, oc, eds, m⟩ := q
  have S0 := Lib.hid h
  have hBg := Lib.hid h.hB
  have hBw := Lib.hid (Nat.le_trans h.lo h.hi)
  clear h hfr h0 hb hs h34 hR
  have c1 : w.cell? ⟨g, 1, none⟩ = some (.int .i64 i) := (S0.out.blk.cell 1).trans rfl
  have z1 : w.frozen? ⟨g, 1, none⟩ = false := by rw [S0.out.blk.frozen]; rfl
  go_enter Try.func59, Try.ntmps59
  go_upto_region 1 with (fail)
  obtain ⟨Y, hY⟩ : ∃ Y, w.setCell ⟨g, 1, none⟩ (.int .i64 ((i : Int) + 1)) = Y := ⟨_, rfl⟩
  rw [hY]
  have GY : Hid (w.grownBy Y (some g)) := Lib.hid (by rw [← hY]; exact grown_set _ _ _ _)
  have BY : Hid (Blk Y g 86 (0, 0) (rsC s (i + 1) ⟨line, st, deep, cur, begun, eline, blank, words, fresh, out⟩ ⟨wa, wn, wk, oa, on, oc, eds, m⟩)) := Lib.hid (by have h := S0.out.blk.set 1 (.int .i64 ((i : Int) + 1)); rw [hY] at h; exact h)
  have HI : Hid (QI B g s (i + 1) ⟨line, st, deep, cur, begun, eline, blank, words, fresh, out⟩ ⟨wa, wn, wk, oa, on, oc, eds, m⟩ R (i + 1) w Y) := Lib.hid ⟨S0.out.upd GY.out BY.out rfl rfl, S0.out.below GY.out, Nat.le_refl _, by omega, hb0.out.more (by omega), by rw [cur_none]; exact hE0.out⟩
  clear c1 z1
  clear hY S0 GY hE0 hb0
  obtain ⟨f0, hf0⟩ : ∃ f0, i + 1 = f0 := ⟨_, rfl⟩
  rw [hf0] at HI BY
  have hfI : (i : Int) + 1 = (f0 : Int) := by omega
  have hif : Hid (i < f0) := Lib.hid (by omega)
  have c1 : Y.cell? ⟨g, 1, none⟩ = some (.int .i64 f0) := (BY.out.cell 1).trans rfl
  clear BY
  simp only [hfI]
  go_wp2_with fail
  clear c1 hfI hf0
  go_loopg [] (s.length + 1 - f0) (fun k wr => ∃ j, Hid ((k = s.length + 1 - j ∧ ∃ q2, QI B g s f0 ⟨line, st, deep, cur, begun, eline, blank, words, fresh, out⟩ q2 R j w wr) ∨ (k = 0 ∧ WF B g s f0 R j w wr)))
  case atStart => exact ⟨f0, Lib.hid (.inl ⟨rfl, _, HI.out⟩)⟩
  case round =>
    obtain ⟨j, hrel⟩ := hrel
    clear HI
    rcases hrel.out with ⟨hgk, q2, HW⟩ | ⟨hgk, HW⟩
    · replace HW := Lib.hid HW
      replace hgk := Lib.hid hgk
      clear hrel
      have hij := HW.out.ij
      have hjl := HW.out.le
      replace hij := Lib.hid hij
      have hbn := Lib.hid HW.out.bnd
      have hE := Lib.hid HW.out.eq
      have S0 := Lib.hid HW.out.rm
      have k0 := Lib.hid HW.out.bel
      dsimp only at hE
      have hfr2 := hfr1
      have h02 := h01
      clear hfr1 h01
      obtain ⟨wa2, wn2, wk2, oa2, on2, oc2, eds2, m2⟩ := q2
      by_cases hlt : j < s.length
      · have hltI : (j : Int) < s.length := by omega
        obtain ⟨b, hbj⟩ : ∃ b, s[j] = b := ⟨_, rfl⟩
        have hjJ : decide (s.length ≤ j) = false := by simp; omega
        have hb1 := Lib.hid hbj
        have hlt1 := Lib.hid hlt
        have hdr : Hid (s.drop j = b :: s.drop (j + 1)) := Lib.hid (by rw [List.drop_eq_getElem_cons hlt, hbj])
        by_cases b10 : b = 10
        · skip
          have e10 : ((b.toNat : Int) == 10) = true := u8_beq (k := 10) b10 (by decide)
          replace b10 := Lib.hid b10
          have c0 : wr.cell? ⟨g, 0, none⟩ = some (.string (mk s)) := (S0.out.blk.cell 0).trans rfl
          have c1 : wr.cell? ⟨g, 1, none⟩ = some (.int .i64 j) := (S0.out.blk.cell 1).trans rfl
          have z1 : wr.frozen? ⟨g, 1, none⟩ = false := by rw [S0.out.blk.frozen]; rfl
          have c2 : wr.cell? ⟨g, 2, none⟩ = some (.int .i64 line) := (S0.out.blk.cell 2).trans rfl
          have z2 : wr.frozen? ⟨g, 2, none⟩ = false := by rw [S0.out.blk.frozen]; rfl
          have c9 : wr.cell? ⟨g, 9, none⟩ = some (.int .i64 0) := (S0.out.blk.cell 9).trans rfl
          have z9 : wr.frozen? ⟨g, 9, none⟩ = false := by rw [S0.out.blk.frozen]; rfl
          go_wp2_with fail
          try go_wp2_with fail
          go_quiet (fail)
          have S1_ := Lib.hid (S0.out.drew nq)
          have k1_ := Lib.hid (bel_drewN k0.out nq)
          clear c0 c1 z1 c2 z2 c9 z9
          clear S0 k0
          generalize wr.drewN nq = w1_ at *
          clear nq
          have c0 : w1_.cell? ⟨g, 0, none⟩ = some (.string (mk s)) := (S1_.out.blk.cell 0).trans rfl
          have c1 : w1_.cell? ⟨g, 1, none⟩ = some (.int .i64 j) := (S1_.out.blk.cell 1).trans rfl
          have z1 : w1_.frozen? ⟨g, 1, none⟩ = false := by rw [S1_.out.blk.frozen]; rfl
          have c2 : w1_.cell? ⟨g, 2, none⟩ = some (.int .i64 line) := (S1_.out.blk.cell 2).trans rfl
          have z2 : w1_.frozen? ⟨g, 2, none⟩ = false := by rw [S1_.out.blk.frozen]; rfl
          have c9 : w1_.cell? ⟨g, 9, none⟩ = some (.int .i64 0) := (S1_.out.blk.cell 9).trans rfl
          have z9 : w1_.frozen? ⟨g, 9, none⟩ = false := by rw [S1_.out.blk.frozen]; rfl
          go_wp2_with fail
          try go_wp2_with fail
          go_quiet (fail)
          have S2_ := Lib.hid (S1_.out.drew nq)
          have k2_ := Lib.hid (bel_drewN k1_.out nq)
          clear c0 c1 z1 c2 z2 c9 z9
          clear S1_ k1_
          generalize w1_.drewN nq = w2_ at *
          clear nq
          have c0 : w2_.cell? ⟨g, 0, none⟩ = some (.string (mk s)) := (S2_.out.blk.cell 0).trans rfl
          have c1 : w2_.cell? ⟨g, 1, none⟩ = some (.int .i64 j) := (S2_.out.blk.cell 1).trans rfl
          have z1 : w2_.frozen? ⟨g, 1, none⟩ = false := by rw [S2_.out.blk.frozen]; rfl
          have c2 : w2_.cell? ⟨g, 2, none⟩ = some (.int .i64 line) := (S2_.out.blk.cell 2).trans rfl
          have z2 : w2_.frozen? ⟨g, 2, none⟩ = false := by rw [S2_.out.blk.frozen]; rfl
          have c9 : w2_.cell? ⟨g, 9, none⟩ = some (.int .i64 0) := (S2_.out.blk.cell 9).trans rfl
          have z9 : w2_.frozen? ⟨g, 9, none⟩ = false := by rw [S2_.out.blk.frozen]; rfl
          go_wp2_with fail
          refine (fault_any 230 line S2_.out.blk).mono ?_
          rintro e w6 ⟨rfl, g6, b6⟩
          replace g6 := Lib.hid g6
          replace b6 := Lib.hid b6
          clear c0 c1 z1 c2 z2 c9 z9
          go_wp2_with fail
          ((try simp only [Exit.inBlock, Exit.then]); refine bodyPost_ret (results_none rfl _ _ _) rfl ?_)
          refine ⟨rfl, k2_.out.trans (S2_.out.below g6.out), .inr ?_⟩
          have hRR : R = ([], (230, line)) := by have hE0 := hE.out; rw [hdr.out, b10.out, prun_qnl (by rw [see_not (by exact hfr2.out)])] at hE0; exact hE0.symm
          rw [hRR]
          exact ⟨rfl, by show (230 : Int) ≠ 0; decide, RF.of b6.out⟩
        · skip
          have e10 : ((b.toNat : Int) == 10) = false := u8_ne (k := 10) b10
          replace b10 := Lib.hid b10
          by_cases b34 : b = 34
          · skip
            have e34 : ((b.toNat : Int) == 34) = true := u8_beq (k := 34) b34 (by decide)
            replace b34 := Lib.hid b34
            by_cases hj2 : j + 1 < s.length
            · obtain ⟨x, hbx⟩ : ∃ x, s[j + 1] = x := ⟨_, rfl⟩
              have hj2I : (j : Int) + 1 < s.length := by omega
              have hbx2 := Lib.hid hbx
              have hdr2 : Hid (s.drop (j + 1) = x :: s.drop (j + 2)) := Lib.hid (by rw [List.drop_eq_getElem_cons hj2, hbx])
              have hn1 : ((j : Int) + 1).toNat = j + 1 := by omega
              have hn0 : (0 : Int) ≤ (j : Int) + 1 := by omega
              by_cases hsx : stopB x = true
              · have hsx1 := Lib.hid hsx
                have c0 : wr.cell? ⟨g, 0, none⟩ = some (.string (mk s)) := (S0.out.blk.cell 0).trans rfl
                have c1 : wr.cell? ⟨g, 1, none⟩ = some (.int .i64 j) := (S0.out.blk.cell 1).trans rfl
                have z1 : wr.frozen? ⟨g, 1, none⟩ = false := by rw [S0.out.blk.frozen]; rfl
                have c2 : wr.cell? ⟨g, 2, none⟩ = some (.int .i64 line) := (S0.out.blk.cell 2).trans rfl
                have z2 : wr.frozen? ⟨g, 2, none⟩ = false := by rw [S0.out.blk.frozen]; rfl
                have c9 : wr.cell? ⟨g, 9, none⟩ = some (.int .i64 0) := (S0.out.blk.cell 9).trans rfl
                have z9 : wr.frozen? ⟨g, 9, none⟩ = false := by rw [S0.out.blk.frozen]; rfl
                go_wp2_with fail
                try go_wp2_with fail
                go_quiet (fail)
                have S3_ := Lib.hid (S0.out.drew nq)
                have k3_ := Lib.hid (bel_drewN k0.out nq)
                clear c0 c1 z1 c2 z2 c9 z9
                clear S0 k0
                generalize wr.drewN nq = w3_ at *
                clear nq
                have c0 : w3_.cell? ⟨g, 0, none⟩ = some (.string (mk s)) := (S3_.out.blk.cell 0).trans rfl
                have c1 : w3_.cell? ⟨g, 1, none⟩ = some (.int .i64 j) := (S3_.out.blk.cell 1).trans rfl
                have z1 : w3_.frozen? ⟨g, 1, none⟩ = false := by rw [S3_.out.blk.frozen]; rfl
                have c2 : w3_.cell? ⟨g, 2, none⟩ = some (.int .i64 line) := (S3_.out.blk.cell 2).trans rfl
                have z2 : w3_.frozen? ⟨g, 2, none⟩ = false := by rw [S3_.out.blk.frozen]; rfl
                have c9 : w3_.cell? ⟨g, 9, none⟩ = some (.int .i64 0) := (S3_.out.blk.cell 9).trans rfl
                have z9 : w3_.frozen? ⟨g, 9, none⟩ = false := by rw [S3_.out.blk.frozen]; rfl
                go_wp2_with fail
                try go_wp2_with fail
                go_quiet (fail)
                have S4_ := Lib.hid (S3_.out.drew nq)
                have k4_ := Lib.hid (bel_drewN k3_.out nq)
                clear c0 c1 z1 c2 z2 c9 z9
                clear S3_ k3_
                generalize w3_.drewN nq = w4_ at *
                clear nq
                have c0 : w4_.cell? ⟨g, 0, none⟩ = some (.string (mk s)) := (S4_.out.blk.cell 0).trans rfl
                have c1 : w4_.cell? ⟨g, 1, none⟩ = some (.int .i64 j) := (S4_.out.blk.cell 1).trans rfl
                have z1 : w4_.frozen? ⟨g, 1, none⟩ = false := by rw [S4_.out.blk.frozen]; rfl
                have c2 : w4_.cell? ⟨g, 2, none⟩ = some (.int .i64 line) := (S4_.out.blk.cell 2).trans rfl
                have z2 : w4_.frozen? ⟨g, 2, none⟩ = false := by rw [S4_.out.blk.frozen]; rfl
                have c9 : w4_.cell? ⟨g, 9, none⟩ = some (.int .i64 0) := (S4_.out.blk.cell 9).trans rfl
                have z9 : w4_.frozen? ⟨g, 9, none⟩ = false := by rw [S4_.out.blk.frozen]; rfl
                go_wp2_with fail
                have hcut := cut_str (P := Try.prog) Try.underlying9 s f0 j hij.out (by omega)
                try go_wp2_with fail
                go_quiet (fail)
                have S5_ := Lib.hid (S4_.out.drew nq)
                have k5_ := Lib.hid (bel_drewN k4_.out nq)
                clear c0 c1 z1 c2 z2 c9 z9
                clear S4_ k4_
                generalize w4_.drewN nq = w5_ at *
                clear nq
                have c0 : w5_.cell? ⟨g, 0, none⟩ = some (.string (mk s)) := (S5_.out.blk.cell 0).trans rfl
                have c1 : w5_.cell? ⟨g, 1, none⟩ = some (.int .i64 j) := (S5_.out.blk.cell 1).trans rfl
                have z1 : w5_.frozen? ⟨g, 1, none⟩ = false := by rw [S5_.out.blk.frozen]; rfl
                have c2 : w5_.cell? ⟨g, 2, none⟩ = some (.int .i64 line) := (S5_.out.blk.cell 2).trans rfl
                have z2 : w5_.frozen? ⟨g, 2, none⟩ = false := by rw [S5_.out.blk.frozen]; rfl
                have c9 : w5_.cell? ⟨g, 9, none⟩ = some (.int .i64 0) := (S5_.out.blk.cell 9).trans rfl
                have z9 : w5_.frozen? ⟨g, 9, none⟩ = false := by rw [S5_.out.blk.frozen]; rfl
                clear hcut
                go_upto_region 15 with (fail)
                obtain ⟨U, hU⟩ : ∃ U, w5_.setCell ⟨g, 1, none⟩ (.int .i64 ((j : Int) + 1)) = U := ⟨_, rfl⟩
                rw [hU]
                have GU : Hid (w5_.grownBy U (some g)) := Lib.hid (by rw [← hU]; exact grown_set _ _ _ _)
                have SU : Hid (RM B g s (j + 1) ⟨line, st, deep, cur, begun, eline, blank, words, fresh, out⟩ ⟨wa2, wn2, wk2, oa2, on2, oc2, eds2, m2⟩ U) := Lib.hid (S5_.out.upd GU.out (by have h := S5_.out.blk.set 1 (.int .i64 ((j : Int) + 1)); rw [hU] at h; exact h) rfl rfl)
                have kU : Hid (Below B w U) := Lib.hid (k5_.out.trans (S5_.out.below GU.out))
                clear c0 c1 z1 c2 z2 c9 z9
                clear hU GU S5_ k5_
                have c0 : U.cell? ⟨g, 0, none⟩ = some (.string (mk s)) := (SU.out.blk.cell 0).trans rfl
                have c1 : U.cell? ⟨g, 1, none⟩ = some (.int .i64 ((j : Int) + 1)) := (SU.out.blk.cell 1).trans rfl
                have z1 : U.frozen? ⟨g, 1, none⟩ = false := by rw [SU.out.blk.frozen]; rfl
                have c2 : U.cell? ⟨g, 2, none⟩ = some (.int .i64 line) := (SU.out.blk.cell 2).trans rfl
                have z2 : U.frozen? ⟨g, 2, none⟩ = false := by rw [SU.out.blk.frozen]; rfl
                have c9 : U.cell? ⟨g, 9, none⟩ = some (.int .i64 0) := (SU.out.blk.cell 9).trans rfl
                have z9 : U.frozen? ⟨g, 9, none⟩ = false := by rw [SU.out.blk.frozen]; rfl
                try go_wp2_with fail
                go_quiet ((go_at_call 64; exact rends_q _ _ x))
                have S6_ := Lib.hid (SU.out.drew nq)
                have k6_ := Lib.hid (bel_drewN kU.out nq)
                clear c0 c1 z1 c2 z2 c9 z9
                clear SU kU
                generalize U.drewN nq = w6_ at *
                clear nq
                have c0 : w6_.cell? ⟨g, 0, none⟩ = some (.string (mk s)) := (S6_.out.blk.cell 0).trans rfl
                have c1 : w6_.cell? ⟨g, 1, none⟩ = some (.int .i64 ((j : Int) + 1)) := (S6_.out.blk.cell 1).trans rfl
                have z1 : w6_.frozen? ⟨g, 1, none⟩ = false := by rw [S6_.out.blk.frozen]; rfl
                have c2 : w6_.cell? ⟨g, 2, none⟩ = some (.int .i64 line) := (S6_.out.blk.cell 2).trans rfl
                have z2 : w6_.frozen? ⟨g, 2, none⟩ = false := by rw [S6_.out.blk.frozen]; rfl
                have c9 : w6_.cell? ⟨g, 9, none⟩ = some (.int .i64 0) := (S6_.out.blk.cell 9).trans rfl
                have z9 : w6_.frozen? ⟨g, 9, none⟩ = false := by rw [S6_.out.blk.frozen]; rfl
                go_wp2_with fail
                have SY : Hid (RM B g s (j + 1) (⟨line, st, deep, (s.take j).drop f0, line, eline, blank, words, fresh, out⟩ : Sc) ⟨wa2, wn2, wk2, oa2, on2, oc2, eds2, m2⟩ w6_) := Lib.hid (S6_.out.more rfl rfl rfl)
                have kY := k6_
                clear c0 c1 z1 c2 z2 c9 z9
                go_wp2_with fail
                refine (rput_any ((s.take j).drop f0) true SY.out hbn.out.words).mono ?_
                rintro e w6 ⟨rfl, k6, hP⟩
                replace k6 := Lib.hid k6
                replace hP := Lib.hid hP
                go_wp2_with fail
                go_end0
                refine ⟨rfl, kY.out.trans k6.out, ?_⟩
                have hq := quote_end (tot := linesOf s) (r := s.drop (j + 1)) (c := (⟨line, st, deep, (s.take j).drop f0, line, eline, blank, words, fresh, out⟩ : Sc)) hfr2.out h02.out rfl (by rw [hdr2.out]; show (!stopB x) = false; rw [hsx1.out]; rfl)
                have hE1 := hE.out
                rw [hdr.out, b34.out] at hE1
                rw [show ({ (⟨line, st, deep, (s.take j).drop f0, line, eline, blank, words, fresh, out⟩ : Sc) with st := 2 } : Sc) = ⟨line, 2, deep, (s.take j).drop f0, line, eline, blank, words, fresh, out⟩ from rfl, hE1] at hq
                dsimp only at hq
                rcases hP.out with ⟨c2, q3, h2, R2⟩ | ⟨x, h2, hx, F2⟩
                · rw [h2] at hq
                  obtain ⟨t1, t2, t3, t4, t5, t6, t7⟩ := put_ok h2
                  exact .inl ⟨j + 1, c2, q3, by have := hij.out; have := hif.out; omega, by omega, R2, t5.trans hfr2.out, t1.trans h02.out, put_bnd (i := j + 1) (c := (⟨line, st, deep, (s.take j).drop f0, line, eline, blank, words, fresh, out⟩ : Sc)) (by have h9 := hbn.out.more (j := j + 1) (by omega); exact ⟨h9.st, h9.words, h9.deep, h9.lo, h9.hi, h9.out⟩) h2, hq.symm⟩
                · rw [h2] at hq
                  rw [hq]
                  exact .inr ⟨rfl, by show x.1 ≠ 0; rw [hx]; decide, F2⟩
              · replace hsx : stopB x = false := by simpa using hsx
                have hsx1 := Lib.hid hsx
                have c0 : wr.cell? ⟨g, 0, none⟩ = some (.string (mk s)) := (S0.out.blk.cell 0).trans rfl
                have c1 : wr.cell? ⟨g, 1, none⟩ = some (.int .i64 j) := (S0.out.blk.cell 1).trans rfl
                have z1 : wr.frozen? ⟨g, 1, none⟩ = false := by rw [S0.out.blk.frozen]; rfl
                have c2 : wr.cell? ⟨g, 2, none⟩ = some (.int .i64 line) := (S0.out.blk.cell 2).trans rfl
                have z2 : wr.frozen? ⟨g, 2, none⟩ = false := by rw [S0.out.blk.frozen]; rfl
                have c9 : wr.cell? ⟨g, 9, none⟩ = some (.int .i64 0) := (S0.out.blk.cell 9).trans rfl
                have z9 : wr.frozen? ⟨g, 9, none⟩ = false := by rw [S0.out.blk.frozen]; rfl
                go_wp2_with fail
                try go_wp2_with fail
                go_quiet (fail)
                have S7_ := Lib.hid (S0.out.drew nq)
                have k7_ := Lib.hid (bel_drewN k0.out nq)
                clear c0 c1 z1 c2 z2 c9 z9
                clear S0 k0
                generalize wr.drewN nq = w7_ at *
                clear nq
                have c0 : w7_.cell? ⟨g, 0, none⟩ = some (.string (mk s)) := (S7_.out.blk.cell 0).trans rfl
                have c1 : w7_.cell? ⟨g, 1, none⟩ = some (.int .i64 j) := (S7_.out.blk.cell 1).trans rfl
                have z1 : w7_.frozen? ⟨g, 1, none⟩ = false := by rw [S7_.out.blk.frozen]; rfl
                have c2 : w7_.cell? ⟨g, 2, none⟩ = some (.int .i64 line) := (S7_.out.blk.cell 2).trans rfl
                have z2 : w7_.frozen? ⟨g, 2, none⟩ = false := by rw [S7_.out.blk.frozen]; rfl
                have c9 : w7_.cell? ⟨g, 9, none⟩ = some (.int .i64 0) := (S7_.out.blk.cell 9).trans rfl
                have z9 : w7_.frozen? ⟨g, 9, none⟩ = false := by rw [S7_.out.blk.frozen]; rfl
                go_wp2_with fail
                try go_wp2_with fail
                go_quiet (fail)
                have S8_ := Lib.hid (S7_.out.drew nq)
                have k8_ := Lib.hid (bel_drewN k7_.out nq)
                clear c0 c1 z1 c2 z2 c9 z9
                clear S7_ k7_
                generalize w7_.drewN nq = w8_ at *
                clear nq
                have c0 : w8_.cell? ⟨g, 0, none⟩ = some (.string (mk s)) := (S8_.out.blk.cell 0).trans rfl
                have c1 : w8_.cell? ⟨g, 1, none⟩ = some (.int .i64 j) := (S8_.out.blk.cell 1).trans rfl
                have z1 : w8_.frozen? ⟨g, 1, none⟩ = false := by rw [S8_.out.blk.frozen]; rfl
                have c2 : w8_.cell? ⟨g, 2, none⟩ = some (.int .i64 line) := (S8_.out.blk.cell 2).trans rfl
                have z2 : w8_.frozen? ⟨g, 2, none⟩ = false := by rw [S8_.out.blk.frozen]; rfl
                have c9 : w8_.cell? ⟨g, 9, none⟩ = some (.int .i64 0) := (S8_.out.blk.cell 9).trans rfl
                have z9 : w8_.frozen? ⟨g, 9, none⟩ = false := by rw [S8_.out.blk.frozen]; rfl
                go_wp2_with fail
                have hcut := cut_str (P := Try.prog) Try.underlying9 s f0 j hij.out (by omega)
                try go_wp2_with fail
                go_quiet (fail)
                have S9_ := Lib.hid (S8_.out.drew nq)
                have k9_ := Lib.hid (bel_drewN k8_.out nq)
                clear c0 c1 z1 c2 z2 c9 z9
                clear S8_ k8_
                generalize w8_.drewN nq = w9_ at *
                clear nq
                have c0 : w9_.cell? ⟨g, 0, none⟩ = some (.string (mk s)) := (S9_.out.blk.cell 0).trans rfl
                have c1 : w9_.cell? ⟨g, 1, none⟩ = some (.int .i64 j) := (S9_.out.blk.cell 1).trans rfl
                have z1 : w9_.frozen? ⟨g, 1, none⟩ = false := by rw [S9_.out.blk.frozen]; rfl
                have c2 : w9_.cell? ⟨g, 2, none⟩ = some (.int .i64 line) := (S9_.out.blk.cell 2).trans rfl
                have z2 : w9_.frozen? ⟨g, 2, none⟩ = false := by rw [S9_.out.blk.frozen]; rfl
                have c9 : w9_.cell? ⟨g, 9, none⟩ = some (.int .i64 0) := (S9_.out.blk.cell 9).trans rfl
                have z9 : w9_.frozen? ⟨g, 9, none⟩ = false := by rw [S9_.out.blk.frozen]; rfl
                clear hcut
                go_upto_region 15 with (fail)
                obtain ⟨U, hU⟩ : ∃ U, w9_.setCell ⟨g, 1, none⟩ (.int .i64 ((j : Int) + 1)) = U := ⟨_, rfl⟩
                rw [hU]
                have GU : Hid (w9_.grownBy U (some g)) := Lib.hid (by rw [← hU]; exact grown_set _ _ _ _)
                have SU : Hid (RM B g s (j + 1) ⟨line, st, deep, cur, begun, eline, blank, words, fresh, out⟩ ⟨wa2, wn2, wk2, oa2, on2, oc2, eds2, m2⟩ U) := Lib.hid (S9_.out.upd GU.out (by have h := S9_.out.blk.set 1 (.int .i64 ((j : Int) + 1)); rw [hU] at h; exact h) rfl rfl)
                have kU : Hid (Below B w U) := Lib.hid (k9_.out.trans (S9_.out.below GU.out))
                clear c0 c1 z1 c2 z2 c9 z9
                clear hU GU S9_ k9_
                have c0 : U.cell? ⟨g, 0, none⟩ = some (.string (mk s)) := (SU.out.blk.cell 0).trans rfl
                have c1 : U.cell? ⟨g, 1, none⟩ = some (.int .i64 ((j : Int) + 1)) := (SU.out.blk.cell 1).trans rfl
                have z1 : U.frozen? ⟨g, 1, none⟩ = false := by rw [SU.out.blk.frozen]; rfl
                have c2 : U.cell? ⟨g, 2, none⟩ = some (.int .i64 line) := (SU.out.blk.cell 2).trans rfl
                have z2 : U.frozen? ⟨g, 2, none⟩ = false := by rw [SU.out.blk.frozen]; rfl
                have c9 : U.cell? ⟨g, 9, none⟩ = some (.int .i64 0) := (SU.out.blk.cell 9).trans rfl
                have z9 : U.frozen? ⟨g, 9, none⟩ = false := by rw [SU.out.blk.frozen]; rfl
                try go_wp2_with fail
                go_quiet ((go_at_call 64; exact rends_q _ _ x))
                have S10_ := Lib.hid (SU.out.drew nq)
                have k10_ := Lib.hid (bel_drewN kU.out nq)
                clear c0 c1 z1 c2 z2 c9 z9
                clear SU kU
                generalize U.drewN nq = w10_ at *
                clear nq
                have c0 : w10_.cell? ⟨g, 0, none⟩ = some (.string (mk s)) := (S10_.out.blk.cell 0).trans rfl
                have c1 : w10_.cell? ⟨g, 1, none⟩ = some (.int .i64 ((j : Int) + 1)) := (S10_.out.blk.cell 1).trans rfl
                have z1 : w10_.frozen? ⟨g, 1, none⟩ = false := by rw [S10_.out.blk.frozen]; rfl
                have c2 : w10_.cell? ⟨g, 2, none⟩ = some (.int .i64 line) := (S10_.out.blk.cell 2).trans rfl
                have z2 : w10_.frozen? ⟨g, 2, none⟩ = false := by rw [S10_.out.blk.frozen]; rfl
                have c9 : w10_.cell? ⟨g, 9, none⟩ = some (.int .i64 0) := (S10_.out.blk.cell 9).trans rfl
                have z9 : w10_.frozen? ⟨g, 9, none⟩ = false := by rw [S10_.out.blk.frozen]; rfl
                go_wp2_with fail
                refine (fault_any 230 line S10_.out.blk).mono ?_
                rintro e w6 ⟨rfl, g6, b6⟩
                replace g6 := Lib.hid g6
                replace b6 := Lib.hid b6
                clear c0 c1 z1 c2 z2 c9 z9
                go_wp2_with fail
                ((try simp only [Exit.inBlock, Exit.then]); refine bodyPost_ret (results_none rfl _ _ _) rfl ?_)
                refine ⟨rfl, k10_.out.trans (S10_.out.below g6.out), .inr ?_⟩
                have hRR : R = ([], (230, line)) := by have hE0 := hE.out; rw [hdr.out, b34.out, hdr2.out, prun_qbad (by rw [see_not (by exact hfr2.out)]) hsx1.out] at hE0; exact hE0.symm
                rw [hRR]
                exact ⟨rfl, by show (230 : Int) ≠ 0; decide, RF.of b6.out⟩
            · have hj3 : s.length = j + 1 := by omega
              have hdr2 : Hid (s.drop (j + 1) = []) := Lib.hid (List.drop_eq_nil_of_le (by omega))
              have hlenI : (s.length : Int) = (j : Int) + 1 := by omega
              have hl1 := Lib.hid hlenI
              have hl2 := Lib.hid hj3
              clear hlenI hj3
              have c0 : wr.cell? ⟨g, 0, none⟩ = some (.string (mk s)) := (S0.out.blk.cell 0).trans rfl
              have c1 : wr.cell? ⟨g, 1, none⟩ = some (.int .i64 j) := (S0.out.blk.cell 1).trans rfl
              have z1 : wr.frozen? ⟨g, 1, none⟩ = false := by rw [S0.out.blk.frozen]; rfl
              have c2 : wr.cell? ⟨g, 2, none⟩ = some (.int .i64 line) := (S0.out.blk.cell 2).trans rfl
              have z2 : wr.frozen? ⟨g, 2, none⟩ = false := by rw [S0.out.blk.frozen]; rfl
              have c9 : wr.cell? ⟨g, 9, none⟩ = some (.int .i64 0) := (S0.out.blk.cell 9).trans rfl
              have z9 : wr.frozen? ⟨g, 9, none⟩ = false := by rw [S0.out.blk.frozen]; rfl
              go_wp2_with fail
              try go_wp2_with fail
              go_quiet (fail)
              have S11_ := Lib.hid (S0.out.drew nq)
              have k11_ := Lib.hid (bel_drewN k0.out nq)
              clear c0 c1 z1 c2 z2 c9 z9
              clear S0 k0
              generalize wr.drewN nq = w11_ at *
              clear nq
              have c0 : w11_.cell? ⟨g, 0, none⟩ = some (.string (mk s)) := (S11_.out.blk.cell 0).trans rfl
              have c1 : w11_.cell? ⟨g, 1, none⟩ = some (.int .i64 j) := (S11_.out.blk.cell 1).trans rfl
              have z1 : w11_.frozen? ⟨g, 1, none⟩ = false := by rw [S11_.out.blk.frozen]; rfl
              have c2 : w11_.cell? ⟨g, 2, none⟩ = some (.int .i64 line) := (S11_.out.blk.cell 2).trans rfl
              have z2 : w11_.frozen? ⟨g, 2, none⟩ = false := by rw [S11_.out.blk.frozen]; rfl
              have c9 : w11_.cell? ⟨g, 9, none⟩ = some (.int .i64 0) := (S11_.out.blk.cell 9).trans rfl
              have z9 : w11_.frozen? ⟨g, 9, none⟩ = false := by rw [S11_.out.blk.frozen]; rfl
              go_wp2_with fail
              try go_wp2_with fail
              go_quiet (fail)
              have S12_ := Lib.hid (S11_.out.drew nq)
              have k12_ := Lib.hid (bel_drewN k11_.out nq)
              clear c0 c1 z1 c2 z2 c9 z9
              clear S11_ k11_
              generalize w11_.drewN nq = w12_ at *
              clear nq
              have c0 : w12_.cell? ⟨g, 0, none⟩ = some (.string (mk s)) := (S12_.out.blk.cell 0).trans rfl
              have c1 : w12_.cell? ⟨g, 1, none⟩ = some (.int .i64 j) := (S12_.out.blk.cell 1).trans rfl
              have z1 : w12_.frozen? ⟨g, 1, none⟩ = false := by rw [S12_.out.blk.frozen]; rfl
              have c2 : w12_.cell? ⟨g, 2, none⟩ = some (.int .i64 line) := (S12_.out.blk.cell 2).trans rfl
              have z2 : w12_.frozen? ⟨g, 2, none⟩ = false := by rw [S12_.out.blk.frozen]; rfl
              have c9 : w12_.cell? ⟨g, 9, none⟩ = some (.int .i64 0) := (S12_.out.blk.cell 9).trans rfl
              have z9 : w12_.frozen? ⟨g, 9, none⟩ = false := by rw [S12_.out.blk.frozen]; rfl
              go_wp2_with fail
              have hcut := cut_str (P := Try.prog) Try.underlying9 s f0 j hij.out (by omega)
              try go_wp2_with fail
              go_quiet (fail)
              have S13_ := Lib.hid (S12_.out.drew nq)
              have k13_ := Lib.hid (bel_drewN k12_.out nq)
              clear c0 c1 z1 c2 z2 c9 z9
              clear S12_ k12_
              generalize w12_.drewN nq = w13_ at *
              clear nq
              have c0 : w13_.cell? ⟨g, 0, none⟩ = some (.string (mk s)) := (S13_.out.blk.cell 0).trans rfl
              have c1 : w13_.cell? ⟨g, 1, none⟩ = some (.int .i64 j) := (S13_.out.blk.cell 1).trans rfl
              have z1 : w13_.frozen? ⟨g, 1, none⟩ = false := by rw [S13_.out.blk.frozen]; rfl
              have c2 : w13_.cell? ⟨g, 2, none⟩ = some (.int .i64 line) := (S13_.out.blk.cell 2).trans rfl
              have z2 : w13_.frozen? ⟨g, 2, none⟩ = false := by rw [S13_.out.blk.frozen]; rfl
              have c9 : w13_.cell? ⟨g, 9, none⟩ = some (.int .i64 0) := (S13_.out.blk.cell 9).trans rfl
              have z9 : w13_.frozen? ⟨g, 9, none⟩ = false := by rw [S13_.out.blk.frozen]; rfl
              clear hcut
              go_upto_region 15 with (fail)
              obtain ⟨U, hU⟩ : ∃ U, w13_.setCell ⟨g, 1, none⟩ (.int .i64 ((j : Int) + 1)) = U := ⟨_, rfl⟩
              rw [hU]
              have GU : Hid (w13_.grownBy U (some g)) := Lib.hid (by rw [← hU]; exact grown_set _ _ _ _)
              have SU : Hid (RM B g s (j + 1) ⟨line, st, deep, cur, begun, eline, blank, words, fresh, out⟩ ⟨wa2, wn2, wk2, oa2, on2, oc2, eds2, m2⟩ U) := Lib.hid (S13_.out.upd GU.out (by have h := S13_.out.blk.set 1 (.int .i64 ((j : Int) + 1)); rw [hU] at h; exact h) rfl rfl)
              have kU : Hid (Below B w U) := Lib.hid (k13_.out.trans (S13_.out.below GU.out))
              clear c0 c1 z1 c2 z2 c9 z9
              clear hU GU S13_ k13_
              have c0 : U.cell? ⟨g, 0, none⟩ = some (.string (mk s)) := (SU.out.blk.cell 0).trans rfl
              have c1 : U.cell? ⟨g, 1, none⟩ = some (.int .i64 ((j : Int) + 1)) := (SU.out.blk.cell 1).trans rfl
              have z1 : U.frozen? ⟨g, 1, none⟩ = false := by rw [SU.out.blk.frozen]; rfl
              have c2 : U.cell? ⟨g, 2, none⟩ = some (.int .i64 line) := (SU.out.blk.cell 2).trans rfl
              have z2 : U.frozen? ⟨g, 2, none⟩ = false := by rw [SU.out.blk.frozen]; rfl
              have c9 : U.cell? ⟨g, 9, none⟩ = some (.int .i64 0) := (SU.out.blk.cell 9).trans rfl
              have z9 : U.frozen? ⟨g, 9, none⟩ = false := by rw [SU.out.blk.frozen]; rfl
              have hg : decide ((j : Int) + 1 < (s.length : Int)) = false := by have := hl1.out; simp; omega
              have hg2 : (s.length : Int) ≤ (j : Int) + 1 := by have := hl1.out; omega
              try go_wp2_with fail
              go_quiet (fail)
              have S14_ := Lib.hid (SU.out.drew nq)
              have k14_ := Lib.hid (bel_drewN kU.out nq)
              clear c0 c1 z1 c2 z2 c9 z9
              clear SU kU
              generalize U.drewN nq = w14_ at *
              clear nq
              have c0 : w14_.cell? ⟨g, 0, none⟩ = some (.string (mk s)) := (S14_.out.blk.cell 0).trans rfl
              have c1 : w14_.cell? ⟨g, 1, none⟩ = some (.int .i64 ((j : Int) + 1)) := (S14_.out.blk.cell 1).trans rfl
              have z1 : w14_.frozen? ⟨g, 1, none⟩ = false := by rw [S14_.out.blk.frozen]; rfl
              have c2 : w14_.cell? ⟨g, 2, none⟩ = some (.int .i64 line) := (S14_.out.blk.cell 2).trans rfl
              have z2 : w14_.frozen? ⟨g, 2, none⟩ = false := by rw [S14_.out.blk.frozen]; rfl
              have c9 : w14_.cell? ⟨g, 9, none⟩ = some (.int .i64 0) := (S14_.out.blk.cell 9).trans rfl
              have z9 : w14_.frozen? ⟨g, 9, none⟩ = false := by rw [S14_.out.blk.frozen]; rfl
              clear hg hg2
              go_wp2_with fail
              have SY : Hid (RM B g s (j + 1) (⟨line, st, deep, (s.take j).drop f0, line, eline, blank, words, fresh, out⟩ : Sc) ⟨wa2, wn2, wk2, oa2, on2, oc2, eds2, m2⟩ w14_) := Lib.hid (S14_.out.more rfl rfl rfl)
              have kY := k14_
              clear c0 c1 z1 c2 z2 c9 z9
              go_wp2_with fail
              refine (rput_any ((s.take j).drop f0) true SY.out hbn.out.words).mono ?_
              rintro e w6 ⟨rfl, k6, hP⟩
              replace k6 := Lib.hid k6
              replace hP := Lib.hid hP
              go_wp2_with fail
              go_end0
              refine ⟨rfl, kY.out.trans k6.out, ?_⟩
              have hq := quote_end (tot := linesOf s) (r := s.drop (j + 1)) (c := (⟨line, st, deep, (s.take j).drop f0, line, eline, blank, words, fresh, out⟩ : Sc)) hfr2.out h02.out rfl (by rw [hdr2.out]; rfl)
              have hE1 := hE.out
              rw [hdr.out, b34.out] at hE1
              rw [show ({ (⟨line, st, deep, (s.take j).drop f0, line, eline, blank, words, fresh, out⟩ : Sc) with st := 2 } : Sc) = ⟨line, 2, deep, (s.take j).drop f0, line, eline, blank, words, fresh, out⟩ from rfl, hE1] at hq
              dsimp only at hq
              rcases hP.out with ⟨c2, q3, h2, R2⟩ | ⟨x, h2, hx, F2⟩
              · rw [h2] at hq
                obtain ⟨t1, t2, t3, t4, t5, t6, t7⟩ := put_ok h2
                exact .inl ⟨j + 1, c2, q3, by have := hij.out; have := hif.out; omega, by omega, R2, t5.trans hfr2.out, t1.trans h02.out, put_bnd (i := j + 1) (c := (⟨line, st, deep, (s.take j).drop f0, line, eline, blank, words, fresh, out⟩ : Sc)) (by have h9 := hbn.out.more (j := j + 1) (by omega); exact ⟨h9.st, h9.words, h9.deep, h9.lo, h9.hi, h9.out⟩) h2, hq.symm⟩
              · rw [h2] at hq
                rw [hq]
                exact .inr ⟨rfl, by show x.1 ≠ 0; rw [hx]; decide, F2⟩
          · skip
            have e34 : ((b.toNat : Int) == 34) = false := u8_ne (k := 34) b34
            replace b34 := Lib.hid b34
            by_cases b92 : b = 92
            · skip
              have e92 : ((b.toNat : Int) == 92) = true := u8_beq (k := 92) b92 (by decide)
              replace b92 := Lib.hid b92
              have c0 : wr.cell? ⟨g, 0, none⟩ = some (.string (mk s)) := (S0.out.blk.cell 0).trans rfl
              have c1 : wr.cell? ⟨g, 1, none⟩ = some (.int .i64 j) := (S0.out.blk.cell 1).trans rfl
              have z1 : wr.frozen? ⟨g, 1, none⟩ = false := by rw [S0.out.blk.frozen]; rfl
              have c2 : wr.cell? ⟨g, 2, none⟩ = some (.int .i64 line) := (S0.out.blk.cell 2).trans rfl
              have z2 : wr.frozen? ⟨g, 2, none⟩ = false := by rw [S0.out.blk.frozen]; rfl
              have c9 : wr.cell? ⟨g, 9, none⟩ = some (.int .i64 0) := (S0.out.blk.cell 9).trans rfl
              have z9 : wr.frozen? ⟨g, 9, none⟩ = false := by rw [S0.out.blk.frozen]; rfl
              go_wp2_with fail
              try go_wp2_with fail
              go_quiet (fail)
              have S15_ := Lib.hid (S0.out.drew nq)
              have k15_ := Lib.hid (bel_drewN k0.out nq)
              clear c0 c1 z1 c2 z2 c9 z9
              clear S0 k0
              generalize wr.drewN nq = w15_ at *
              clear nq
              have c0 : w15_.cell? ⟨g, 0, none⟩ = some (.string (mk s)) := (S15_.out.blk.cell 0).trans rfl
              have c1 : w15_.cell? ⟨g, 1, none⟩ = some (.int .i64 j) := (S15_.out.blk.cell 1).trans rfl
              have z1 : w15_.frozen? ⟨g, 1, none⟩ = false := by rw [S15_.out.blk.frozen]; rfl
              have c2 : w15_.cell? ⟨g, 2, none⟩ = some (.int .i64 line) := (S15_.out.blk.cell 2).trans rfl
              have z2 : w15_.frozen? ⟨g, 2, none⟩ = false := by rw [S15_.out.blk.frozen]; rfl
              have c9 : w15_.cell? ⟨g, 9, none⟩ = some (.int .i64 0) := (S15_.out.blk.cell 9).trans rfl
              have z9 : w15_.frozen? ⟨g, 9, none⟩ = false := by rw [S15_.out.blk.frozen]; rfl
              go_wp2_with fail
              try go_wp2_with fail
              go_quiet (fail)
              have S16_ := Lib.hid (S15_.out.drew nq)
              have k16_ := Lib.hid (bel_drewN k15_.out nq)
              clear c0 c1 z1 c2 z2 c9 z9
              clear S15_ k15_
              generalize w15_.drewN nq = w16_ at *
              clear nq
              go_wp2_with fail
              refine (pair_any S16_.out hlt hs1.out).mono ?_
              rintro e w6 ⟨k6, hP⟩
              replace k6 := Lib.hid k6
              rcases hP with ⟨h1, h2, rfl, R6⟩ | ⟨h1, h2, rfl, F6⟩ | ⟨h1, rfl, F6⟩
              · replace h2 := Lib.hid h2
                replace R6 := Lib.hid R6
                go_wp2_with fail
                go_roundg (s.length + 1 - (j + 2))
                case measure => (have := hgk.out; omega)
                case rel =>
                  refine ⟨j + 2, Lib.hid (.inl ⟨rfl, _, R6.out, k16_.out.trans k6.out, by have := hij.out; omega, by omega, hbn.out.more (by omega), ?_⟩)⟩
                  have hE0 := hE.out; rw [hdr.out, b92.out, List.drop_eq_getElem_cons h1, prun_qbs (by rw [see_not (by exact hfr2.out)]) h2.out, see_not (by exact hfr2.out)] at hE0; rw [← hE0, cur_two hij.out h1, hb1.out, b92.out]
              · replace F6 := Lib.hid F6
                replace h2 := Lib.hid h2
                have hRR : Hid (R = ([], (230, line))) := Lib.hid (by have hE0 := hE.out; rw [hdr.out, b92.out, List.drop_eq_getElem_cons h1, h2.out, prun_qbsn (by rw [see_not (by exact hfr2.out)])] at hE0; exact hE0.symm)
                go_wp2_with fail
                go_roundg 0
                case measure => (have := hgk.out; omega)
                case rel =>
                  refine ⟨j, Lib.hid (.inr ⟨rfl, ?_, k16_.out.trans k6.out, hij.out, hlt1.out, by rw [hb1.out]; exact b92.out, by rw [hRR.out], by rw [hRR.out]; show (230 : Int) ≠ 0; decide⟩)⟩
                  rw [hRR.out]
                  exact F6.out
              · replace F6 := Lib.hid F6
                have hRR : Hid (R = ([], (230, linesOf s))) := Lib.hid (by have hE0 := hE.out; rw [hdr.out, b92.out, List.drop_eq_nil_of_le (by omega), prun_qbs0 (by rw [see_not (by exact hfr2.out)])] at hE0; exact hE0.symm)
                replace h1 := Lib.hid h1
                go_wp2_with fail
                go_roundg 0
                case measure => (have := hgk.out; omega)
                case rel =>
                  refine ⟨j, Lib.hid (.inr ⟨rfl, ?_, k16_.out.trans k6.out, hij.out, hlt1.out, by rw [hb1.out]; exact b92.out, by rw [hRR.out], by rw [hRR.out]; show (230 : Int) ≠ 0; decide⟩)⟩
                  rw [hRR.out]
                  exact F6.out
            · skip
              have e92 : ((b.toNat : Int) == 92) = false := u8_ne (k := 92) b92
              replace b92 := Lib.hid b92
              have c0 : wr.cell? ⟨g, 0, none⟩ = some (.string (mk s)) := (S0.out.blk.cell 0).trans rfl
              have c1 : wr.cell? ⟨g, 1, none⟩ = some (.int .i64 j) := (S0.out.blk.cell 1).trans rfl
              have z1 : wr.frozen? ⟨g, 1, none⟩ = false := by rw [S0.out.blk.frozen]; rfl
              have c2 : wr.cell? ⟨g, 2, none⟩ = some (.int .i64 line) := (S0.out.blk.cell 2).trans rfl
              have z2 : wr.frozen? ⟨g, 2, none⟩ = false := by rw [S0.out.blk.frozen]; rfl
              have c9 : wr.cell? ⟨g, 9, none⟩ = some (.int .i64 0) := (S0.out.blk.cell 9).trans rfl
              have z9 : wr.frozen? ⟨g, 9, none⟩ = false := by rw [S0.out.blk.frozen]; rfl
              go_wp2_with fail
              try go_wp2_with fail
              go_quiet (fail)
              have S17_ := Lib.hid (S0.out.drew nq)
              have k17_ := Lib.hid (bel_drewN k0.out nq)
              clear c0 c1 z1 c2 z2 c9 z9
              clear S0 k0
              generalize wr.drewN nq = w17_ at *
              clear nq
              have c0 : w17_.cell? ⟨g, 0, none⟩ = some (.string (mk s)) := (S17_.out.blk.cell 0).trans rfl
              have c1 : w17_.cell? ⟨g, 1, none⟩ = some (.int .i64 j) := (S17_.out.blk.cell 1).trans rfl
              have z1 : w17_.frozen? ⟨g, 1, none⟩ = false := by rw [S17_.out.blk.frozen]; rfl
              have c2 : w17_.cell? ⟨g, 2, none⟩ = some (.int .i64 line) := (S17_.out.blk.cell 2).trans rfl
              have z2 : w17_.frozen? ⟨g, 2, none⟩ = false := by rw [S17_.out.blk.frozen]; rfl
              have c9 : w17_.cell? ⟨g, 9, none⟩ = some (.int .i64 0) := (S17_.out.blk.cell 9).trans rfl
              have z9 : w17_.frozen? ⟨g, 9, none⟩ = false := by rw [S17_.out.blk.frozen]; rfl
              go_wp2_with fail
              try go_wp2_with fail
              go_quiet (fail)
              have S18_ := Lib.hid (S17_.out.drew nq)
              have k18_ := Lib.hid (bel_drewN k17_.out nq)
              clear c0 c1 z1 c2 z2 c9 z9
              clear S17_ k17_
              generalize w17_.drewN nq = w18_ at *
              clear nq
              have c0 : w18_.cell? ⟨g, 0, none⟩ = some (.string (mk s)) := (S18_.out.blk.cell 0).trans rfl
              have c1 : w18_.cell? ⟨g, 1, none⟩ = some (.int .i64 j) := (S18_.out.blk.cell 1).trans rfl
              have z1 : w18_.frozen? ⟨g, 1, none⟩ = false := by rw [S18_.out.blk.frozen]; rfl
              have c2 : w18_.cell? ⟨g, 2, none⟩ = some (.int .i64 line) := (S18_.out.blk.cell 2).trans rfl
              have z2 : w18_.frozen? ⟨g, 2, none⟩ = false := by rw [S18_.out.blk.frozen]; rfl
              have c9 : w18_.cell? ⟨g, 9, none⟩ = some (.int .i64 0) := (S18_.out.blk.cell 9).trans rfl
              have z9 : w18_.frozen? ⟨g, 9, none⟩ = false := by rw [S18_.out.blk.frozen]; rfl
              go_wp2_with fail
              have G9 : Hid (w18_.grownBy (w18_.setCell ⟨g, 1, none⟩ (.int .i64 ((j : Int) + 1))) (some g)) := Lib.hid (grown_set _ _ _ _)
              go_roundg (s.length + 1 - (j + 1))
              case measure => (have := hgk.out; omega)
              case rel =>
                refine ⟨j + 1, Lib.hid (.inl ⟨rfl, ⟨wa2, wn2, wk2, oa2, on2, oc2, eds2, m2⟩, RM.upd S18_.out G9.out (by have h := S18_.out.blk.set 1 (.int .i64 ((j : Int) + 1)); exact h) rfl rfl, k18_.out.trans (S18_.out.below G9.out), by have := hij.out; omega, by omega, hbn.out.more (by omega), ?_⟩)⟩
                have hE0 := hE.out; rw [hdr.out, prun_q (by rw [see_not (by exact hfr2.out)]) b34.out b10.out b92.out, see_not (by exact hfr2.out)] at hE0; rw [← hE0, cur_one hij.out hlt1.out, hb1.out]
      · obtain rfl : j = s.length := by omega
        clear hlt hjl
        have c0 : wr.cell? ⟨g, 0, none⟩ = some (.string (mk s)) := (S0.out.blk.cell 0).trans rfl
        have c1 : wr.cell? ⟨g, 1, none⟩ = some (.int .i64 s.length) := (S0.out.blk.cell 1).trans rfl
        have z1 : wr.frozen? ⟨g, 1, none⟩ = false := by rw [S0.out.blk.frozen]; rfl
        have c2 : wr.cell? ⟨g, 2, none⟩ = some (.int .i64 line) := (S0.out.blk.cell 2).trans rfl
        have z2 : wr.frozen? ⟨g, 2, none⟩ = false := by rw [S0.out.blk.frozen]; rfl
        have c9 : wr.cell? ⟨g, 9, none⟩ = some (.int .i64 0) := (S0.out.blk.cell 9).trans rfl
        have z9 : wr.frozen? ⟨g, 9, none⟩ = false := by rw [S0.out.blk.frozen]; rfl
        go_wp2_with fail
        try go_wp2_with fail
        go_quiet (fail)
        have S19_ := Lib.hid (S0.out.drew nq)
        have k19_ := Lib.hid (bel_drewN k0.out nq)
        clear c0 c1 z1 c2 z2 c9 z9
        clear S0 k0
        generalize wr.drewN nq = w19_ at *
        clear nq
        have c0 : w19_.cell? ⟨g, 0, none⟩ = some (.string (mk s)) := (S19_.out.blk.cell 0).trans rfl
        have c1 : w19_.cell? ⟨g, 1, none⟩ = some (.int .i64 s.length) := (S19_.out.blk.cell 1).trans rfl
        have z1 : w19_.frozen? ⟨g, 1, none⟩ = false := by rw [S19_.out.blk.frozen]; rfl
        have c2 : w19_.cell? ⟨g, 2, none⟩ = some (.int .i64 line) := (S19_.out.blk.cell 2).trans rfl
        have z2 : w19_.frozen? ⟨g, 2, none⟩ = false := by rw [S19_.out.blk.frozen]; rfl
        have c9 : w19_.cell? ⟨g, 9, none⟩ = some (.int .i64 0) := (S19_.out.blk.cell 9).trans rfl
        have z9 : w19_.frozen? ⟨g, 9, none⟩ = false := by rw [S19_.out.blk.frozen]; rfl
        go_wp2_with fail
        refine (rlines_any w19_ s (Nat.le_trans hs1.out (by decide))).mono ?_
        rintro e w9 ⟨rfl, rfl⟩
        go_wp2_with fail
        refine (fault_any 230 (linesOf s) S19_.out.blk).mono ?_
        rintro e w6 ⟨rfl, g6, b6⟩
        replace g6 := Lib.hid g6
        replace b6 := Lib.hid b6
        clear c0 c1 z1 c2 z2 c9 z9
        go_wp2_with fail
        ((try simp only [Exit.inBlock, Exit.then]); refine bodyPost_ret (results_none rfl _ _ _) rfl ?_)
        refine ⟨rfl, k19_.out.trans (S19_.out.below g6.out), .inr ?_⟩
        have hRR : R = ([], (230, linesOf s)) := by have hE0 := hE.out; rw [List.drop_length] at hE0; exact hE0.symm.trans (pend_deep _ _ (by simp) (.inl rfl))
        rw [hRR]
        exact ⟨rfl, by show (230 : Int) ≠ 0; decide, RF.of b6.out⟩
    · replace HW := Lib.hid HW
      replace hgk := Lib.hid hgk
      clear hrel
      have hE := Lib.hid (And.intro HW.out.r1 HW.out.r2)
      have F0 := Lib.hid HW.out.rf
      have k0 := Lib.hid HW.out.bel
      clear HW hfr1 h01
      obtain ⟨R1, f1, f2⟩ := R
      obtain ⟨x2, x3, x4, x5, x6, x7, x8, hB⟩ := F0.out
      have S0 := Lib.hid hB
      clear hB
      have e0 : (f1 == 0) = false := by rw [beq_eq_false_iff_ne]; exact hE.out.2
      have e1 : (f1 != 0) = true := by rw [bne_iff_ne]; exact hE.out.2
      have c9 : wr.cell? ⟨g, 9, none⟩ = some (.int .i64 f1) := (S0.out.cell 9).trans rfl
      have z9 : wr.frozen? ⟨g, 9, none⟩ = false := by rw [S0.out.frozen]; rfl
      clear hgk
      go_wp2_with fail
      ((try simp only [Exit.inBlock, Exit.then]); refine bodyPost_ret (results_none rfl _ _ _) rfl ?_)
      exact ⟨rfl, k0.out, .inr ⟨hE.out.1, hE.out.2, F0.out.rf⟩⟩
end Go.Proofs.Ytojdjhicjhhblaa
