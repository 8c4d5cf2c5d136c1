/- The scanner: run 25. -/
import Derived.Test.YtojdjhicjhhblaaDoorScR
import Derived.WalkMore
import Derived.Deep.CutRange
namespace Go.Proofs.YtojdjhicjhhblaaDoor
open Go Go.RowKit
structure RunI (B g : Nat) (s : List UInt8) (R : List Ent × (Int × Int)) (i : Nat) (c : Sc) (q : SV) (w wr : World) : Prop where
  sm : SM B g s i c q wr
  bel : Below B w wr
  le : i ≤ s.length
  bnd : Bnd i c
  eq : prun (linesOf s) (s.drop i) c = R
theorem RunP.err {B g : Nat} {s : List UInt8} {x : Int × Int} {w : World} (hx : x.1 ≠ 0) (h : SF g x w) : RunP B g s ([], x) w := .inr ⟨rfl, hx, h⟩
theorem u8_beq {b : UInt8} {k : Nat} (h : b = UInt8.ofNat k) (hk : k < 256) : ((b.toNat : Int) == (k : Int)) = true := by
  subst h
  rw [beq_iff_eq]
  have : (UInt8.ofNat k).toNat = k := by simp; omega
  rw [this]
theorem SF.of {g : Nat} {w : World} {x0 x1 x2 x3 x4 x5 x6 x7 x8 x9 x10 : Value} {e1 e2 : Int} (h : Blk w g 62 (0, 0) [x0, x1, x2, x3, x4, x5, x6, x7, x8, x9, x10, .int .i64 e1, .int .i64 e2]) : SF g (e1, e2) w := ⟨_, _, _, _, _, _, _, _, _, _, _, h⟩
/-- a scanner with a fault, whose other cells change -/
theorem SF.blk {g : Nat} {x : Int × Int} {w : World} (h : SF g x w) : ∃ x0 x1 x2 x3 x4 x5 x6 x7 x8 x9 x10, Blk w g 62 (0, 0) [x0, x1, x2, x3, x4, x5, x6, x7, x8, x9, x10, .int .i64 x.1, .int .i64 x.2] := h
set_option maxHeartbeats 40000000 in
set_option maxRecDepth 100000 in
theorem run_sm {B g : Nat} {s : List UInt8} {q : SV} {w : World} (h : SM B g s 0 sc0 q w) (hs : s.length ≤ 65536) :
    Calls Tryd.prog 22 #[.pointer (some ⟨g, 0, none⟩)] w fun e w' => e = .returned (.tuple #[]) ∧ Below B w w' ∧ RunP B g s (prun (linesOf s) s sc0) w' := by
  have S0 := Lib.hid h
  have hsI := Lib.hid hs
  clear h hs
  obtain ⟨R, hR⟩ : ∃ R, prun (linesOf s) s sc0 = R := ⟨_, rfl⟩
  rw [hR]
  have HR := Lib.hid hR
  clear hR
  go_enter Tryd.func22, Tryd.ntmps22
  go_wp2_with fail
  go_step3
  go_wp2_with fail
  go_step3
  go_wp2_with fail
  go_loopw [2] (fun iv wr => ∃ (i : Nat) (c : Sc) (q : SV), iv = .int .i64 i ∧ Hid (RunI B g s R i c q w wr)) (fun iv _ => s.length - (intOf iv).toNat)
  case atStart => exact ⟨0, sc0, q, rfl, Lib.hid ⟨S0.out, Below.refl _ _, Nat.zero_le _, bnd0, HR.out⟩⟩
  case round =>
    obtain ⟨i, c, q, rfl, hI⟩ := hrel
    clear HR S0
    obtain ⟨line, st, deep, cur, begun, eline, blank, words, fresh, out⟩ := c
    obtain ⟨frm, wa, wn, wk, oa, on, oc, eds, m⟩ := q
    have hil := hI.out.le
    have hsl := hsI.out
    have c0 : wr.cell? ⟨g, 0, none⟩ = some (.string (mk s)) := (hI.out.sm.blk.cell 0).trans rfl
    by_cases hlt : i < s.length
    · have c7 : wr.cell? ⟨g, 7, none⟩ = some (.bool blank) := (hI.out.sm.blk.cell 7).trans rfl
      have c9 : wr.cell? ⟨g, 9, none⟩ = some (.bool fresh) := (hI.out.sm.blk.cell 9).trans rfl
      have z7 : wr.frozen? ⟨g, 7, none⟩ = false := by rw [hI.out.sm.blk.frozen]; rfl
      have z9 : wr.frozen? ⟨g, 9, none⟩ = false := by rw [hI.out.sm.blk.frozen]; rfl
      have hltI : (i : Int) < s.length := by omega
      obtain ⟨b, hb⟩ : ∃ b, s[i] = b := ⟨_, rfl⟩
      go_upto_if 23 with (fail)
      go_cut [] from 5 to 204 (fun wx => ∃ q2, Hid (SM B g s i (Sc.see b ⟨line, st, deep, cur, begun, eline, blank, words, fresh, out⟩) q2 wx) ∧ Hid (Below B w wx))
      case first =>
        cases fresh with
        | true =>
          go_wp2_with fail
          refine (blank_any wr b).mono ?_
          rintro e w5 ⟨rfl, k5⟩
          have B5 : Hid (Blk w5 g 62 (0, 0) _) := Lib.hid (hI.out.sm.blk.below k5 hI.out.sm.blk.lt)
          have S5 : Hid (SM B g s i ⟨line, st, deep, cur, begun, eline, blank, words, true, out⟩ ⟨frm, wa, wn, wk, oa, on, oc, eds, m⟩ w5) := Lib.hid (hI.out.sm.ext k5)
          have k6 : Hid (Below B w w5) := Lib.hid (hI.out.bel.trans (k5.mono (Nat.le_trans hI.out.sm.lo hI.out.sm.hi)))
          clear k5 c0 c7 c9 z7 z9
          have c7 : w5.cell? ⟨g, 7, none⟩ = some (.bool blank) := (B5.out.cell 7).trans rfl
          have c9 : w5.cell? ⟨g, 9, none⟩ = some (.bool true) := (B5.out.cell 9).trans rfl
          have z7 : w5.frozen? ⟨g, 7, none⟩ = false := by rw [B5.out.frozen]; rfl
          have z9 : w5.frozen? ⟨g, 9, none⟩ = false := by rw [B5.out.frozen]; rfl
          go_wp2_with fail
          go_meet
          have G9 : Hid (w5.grownBy ((w5.setCell ⟨g, 7, none⟩ (.bool (blankB b))).setCell ⟨g, 9, none⟩ (.bool false)) (some g)) := Lib.hid (grown_trans (grown_set _ _ _ _) (grown_set _ _ _ _))
          refine ⟨⟨frm, wa, wn, wk, oa, on, oc, eds, m⟩, Lib.hid ?_, Lib.hid (k6.out.trans (S5.out.below G9.out))⟩
          rw [see_yes rfl]
          exact SM.upd (f := frm) S5.out G9.out ((B5.out.set 7 _).set 9 _) rfl rfl S5.out.cur
        | false =>
          go_wp2_with fail
          go_meet
          exact ⟨⟨frm, wa, wn, wk, oa, on, oc, eds, m⟩, Lib.hid (by rw [see_not rfl]; exact hI.out.sm), Lib.hid hI.out.bel⟩
      case rest =>
        clear c0 c7 c9 z7 z9
        obtain ⟨C0, hC0⟩ : ∃ C0 : Sc, (⟨line, st, deep, cur, begun, eline, blank, words, fresh, out⟩ : Sc) = C0 := ⟨_, rfl⟩
        rw [hC0] at hcut
        have hE : Hid (prun (linesOf s) (s.drop i) C0 = R) := Lib.hid (by rw [← hC0]; exact hI.out.eq)
        have hbn0 : Bnd i C0 := by rw [← hC0]; exact hI.out.bnd
        clear hI hC0 line st deep cur begun eline blank words fresh out frm wa wn wk oa on oc eds m
        obtain ⟨cs, hcs⟩ : ∃ cs, C0.see b = cs := ⟨_, rfl⟩
        have hsee := (see_line b C0).1
        have hbn := Lib.hid (hbn0.see b)
        rw [hcs] at hcut hsee hbn
        clear hbn0
        obtain ⟨q2, S1, k1⟩ := hcut
        obtain ⟨line, st, deep, cur, begun, eline, blank, words, fresh, out⟩ := cs
        obtain ⟨frm, wa, wn, wk, oa, on, oc, eds, m⟩ := q2
        dsimp only at hsee
        have HL : Hid (line = C0.line) := Lib.hid hsee
        have HCS := Lib.hid hcs
        have hline := hbn.out.lo
        have hline2 := hbn.out.hi
        have hst := hbn.out.st
        dsimp only at hline hline2 hst
        have hdr : Hid (s.drop i = b :: s.drop (i + 1)) := Lib.hid (by rw [List.drop_eq_getElem_cons hlt, hb])
        have hbb := Lib.hid hb
        have hlt1 := Lib.hid hlt
        clear hsee hcs
        have h5 : st = 0 ∨ st = 1 ∨ st = 2 ∨ st = 3 ∨ st = 4 := by omega
        clear hst
        rcases h5 with rfl | rfl | rfl | rfl | rfl
        · by_cases hs : stopB b = true
          · have hsb := Lib.hid hs
            as_aux_lemma =>
              have c0 : wc.cell? ⟨g, 0, none⟩ = some (.string (mk s)) := (S1.out.blk.cell 0).trans rfl
              have c2 : wc.cell? ⟨g, 2, none⟩ = some (.int .u8 0) := (S1.out.blk.cell 2).trans rfl
              have z2 : wc.frozen? ⟨g, 2, none⟩ = false := by rw [S1.out.blk.frozen]; rfl
              go_wp2_with fail
              refine (stop_any wc b).mono ?_
              rintro e w2 ⟨rfl, k2⟩
              have S2 : Hid (SM B g s i _ _ w2) := Lib.hid (S1.out.ext k2)
              have k3 : Hid (Below B w w2) := Lib.hid (k1.out.trans (k2.mono (Nat.le_trans S1.out.lo S1.out.hi)))
              clear k2
              clear c0 c2 z2
              have c0 : w2.cell? ⟨g, 0, none⟩ = some (.string (mk s)) := (S2.out.blk.cell 0).trans rfl
              have c2 : w2.cell? ⟨g, 2, none⟩ = some (.int .u8 0) := (S2.out.blk.cell 2).trans rfl
              have z2 : w2.frozen? ⟨g, 2, none⟩ = false := by rw [S2.out.blk.frozen]; rfl
              go_wp2_with fail
              refine (ends_sm b S2.out (.inl rfl) hil hbn.out.words hline (Int.le_trans hline2 (by omega)) (Nat.le_trans hbn.out.deep (by omega)) (Nat.le_trans hbn.out.out (by omega))).mono ?_
              rintro e w4 ⟨k4, hoc⟩
              replace k4 := Lib.hid k4
              clear c0 c2 z2
              rcases hoc with ⟨c4, q4, h4, rfl, S4⟩ | ⟨x, h4, rfl, F4⟩
              · replace h4 := Lib.hid h4
                replace S4 := Lib.hid S4
                go_wp2_with fail
                have hbe := ends_bnd hbn.out h4.out
                refine ⟨⟨i + 1, c4, q4, by push_cast; rfl, Lib.hid ⟨S4.out.place (by rcases hbe.2 with h | h <;> simp [h]), k3.out.trans k4.out, by have := hlt1.out; omega, hbe.1, ?_⟩⟩, ?_⟩
                · have hE0 := hE.out; rw [hdr.out] at hE0; rw [← hE0]; exact (prun_stop (by rw [HCS.out]; simp) (by rw [HCS.out]; simp) hsb.out (by rw [HCS.out]; exact h4.out)).symm
                · simp only [intOf]; have := hlt1.out; omega
              · replace h4 := Lib.hid h4
                replace F4 := Lib.hid F4
                go_wp2_with fail
                have FQ := Lib.hid (F4.out)
                have KQ := Lib.hid (k3.out.trans k4.out)
                refine (end_sf B FQ.out (ends_err h4.out)).mono ?_
                rintro e wz ⟨rfl, kz, Fz⟩
                replace kz := Lib.hid kz
                replace Fz := Lib.hid Fz
                go_wp2_with fail
                rw [Exit.noGoto_normal]
                go_end0
                refine ⟨rfl, KQ.out.trans kz.out, ?_⟩
                have hRR : R = ([], x) := hE.out.symm.trans (by rw [hdr.out]; exact prun_stopx (by rw [HCS.out]; simp) (by rw [HCS.out]; simp) hsb.out (by rw [HCS.out]; exact h4.out))
                rw [hRR]
                exact RunP.err ((ends_err h4.out)) Fz.out
          · replace hs : stopB b = false := by simpa using hs
            have hsb := Lib.hid hs
            by_cases b34 : b = 34
            · skip
              have e34 : ((b.toNat : Int) == 34) = true := u8_beq (k := 34) b34 (by decide)
              replace b34 := Lib.hid b34
              as_aux_lemma =>
                have c0 : wc.cell? ⟨g, 0, none⟩ = some (.string (mk s)) := (S1.out.blk.cell 0).trans rfl
                have c1 : wc.cell? ⟨g, 1, none⟩ = some (.int .i64 line) := (S1.out.blk.cell 1).trans rfl
                have z1 : wc.frozen? ⟨g, 1, none⟩ = false := by rw [S1.out.blk.frozen]; rfl
                have c2 : wc.cell? ⟨g, 2, none⟩ = some (.int .u8 0) := (S1.out.blk.cell 2).trans rfl
                have z2 : wc.frozen? ⟨g, 2, none⟩ = false := by rw [S1.out.blk.frozen]; rfl
                have c4 : wc.cell? ⟨g, 4, none⟩ = some (.int .i64 frm) := (S1.out.blk.cell 4).trans rfl
                have z4 : wc.frozen? ⟨g, 4, none⟩ = false := by rw [S1.out.blk.frozen]; rfl
                have c5 : wc.cell? ⟨g, 5, none⟩ = some (.int .i64 begun) := (S1.out.blk.cell 5).trans rfl
                have z5 : wc.frozen? ⟨g, 5, none⟩ = false := by rw [S1.out.blk.frozen]; rfl
                go_wp2_with fail
                refine (stop_any wc b).mono ?_
                rintro e w2 ⟨rfl, k2⟩
                have S2 : Hid (SM B g s i _ _ w2) := Lib.hid (S1.out.ext k2)
                have k3 : Hid (Below B w w2) := Lib.hid (k1.out.trans (k2.mono (Nat.le_trans S1.out.lo S1.out.hi)))
                clear k2
                clear c0 c1 c2 c4 c5 z1 z2 z4 z5
                have c0 : w2.cell? ⟨g, 0, none⟩ = some (.string (mk s)) := (S2.out.blk.cell 0).trans rfl
                have c1 : w2.cell? ⟨g, 1, none⟩ = some (.int .i64 line) := (S2.out.blk.cell 1).trans rfl
                have z1 : w2.frozen? ⟨g, 1, none⟩ = false := by rw [S2.out.blk.frozen]; rfl
                have c2 : w2.cell? ⟨g, 2, none⟩ = some (.int .u8 0) := (S2.out.blk.cell 2).trans rfl
                have z2 : w2.frozen? ⟨g, 2, none⟩ = false := by rw [S2.out.blk.frozen]; rfl
                have c4 : w2.cell? ⟨g, 4, none⟩ = some (.int .i64 frm) := (S2.out.blk.cell 4).trans rfl
                have z4 : w2.frozen? ⟨g, 4, none⟩ = false := by rw [S2.out.blk.frozen]; rfl
                have c5 : w2.cell? ⟨g, 5, none⟩ = some (.int .i64 begun) := (S2.out.blk.cell 5).trans rfl
                have z5 : w2.frozen? ⟨g, 5, none⟩ = false := by rw [S2.out.blk.frozen]; rfl
                go_wp2_with fail
                clear c0 c1 c2 c4 c5 z1 z2 z4 z5
                have G7 : Hid (w2.grownBy (((w2.setCell ⟨g, 2, none⟩ (.int .u8 2)).setCell ⟨g, 4, none⟩ (.int .i64 ((i : Int) + 1))).setCell ⟨g, 5, none⟩ (.int .i64 line)) (some g)) := Lib.hid (grown_trans (grown_trans (grown_set _ _ _ _) (grown_set _ _ _ _)) (grown_set _ _ _ _))
                refine ⟨⟨i + 1, ⟨line, 2, deep, [], line, eline, blank, words, fresh, out⟩, ⟨i + 1, wa, wn, wk, oa, on, oc, eds, m⟩, by push_cast; rfl, Lib.hid ⟨SM.upd (f := i + 1) S2.out G7.out (((S2.out.blk.set 2 _).set 4 _).set 5 _) rfl rfl (fun _ => ⟨Nat.le_refl _, (cur_none s (i + 1)).symm⟩), k3.out.trans (S2.out.below G7.out), by have := hlt1.out; omega, ⟨by simp, hbn.out.words, Nat.le_trans hbn.out.deep (by omega), hline, by have := hline2; push_cast; omega, Nat.le_trans hbn.out.out (by omega)⟩, ?_⟩⟩, ?_⟩
                · have hE0 := hE.out; rw [hdr.out, b34.out, prun_open (by rw [b34.out] at HCS; rw [HCS.out]; simp) (by rw [b34.out] at HCS; rw [HCS.out]; simp) (by rw [b34.out] at HCS; rw [HCS.out]; simp)] at hE0; rw [← hE0]; rw [b34.out] at HCS; rw [HCS.out, ← HL.out]
                · simp only [intOf]; have := hlt1.out; omega
            · skip
              have e34 : ((b.toNat : Int) == 34) = false := u8_ne (k := 34) b34
              replace b34 := Lib.hid b34
              by_cases b92 : b = 92
              · skip
                have e92 : ((b.toNat : Int) == 92) = true := u8_beq (k := 92) b92 (by decide)
                replace b92 := Lib.hid b92
                by_cases hj : i + 1 < s.length
                · obtain ⟨x, hbx⟩ : ∃ x, s[i + 1] = x := ⟨_, rfl⟩
                  have hdr2 : Hid (s.drop (i + 1) = x :: s.drop (i + 2)) := Lib.hid (by rw [List.drop_eq_getElem_cons hj, hbx])
                  have hjI : (i : Int) + 1 < s.length := by omega
                  have hjE : ((i : Int) + 1 == s.length) = false := by rw [beq_eq_false_iff_ne]; omega
                  have hj1 := Lib.hid hj
                  have hbx2 := Lib.hid hbx
                  by_cases x10 : x = 10
                  · have ex : ((x.toNat : Int) == 10) = true := u8_beq (k := 10) x10 (by decide)
                    replace x10 := Lib.hid x10
                    as_aux_lemma =>
                      have c0 : wc.cell? ⟨g, 0, none⟩ = some (.string (mk s)) := (S1.out.blk.cell 0).trans rfl
                      have c1 : wc.cell? ⟨g, 1, none⟩ = some (.int .i64 line) := (S1.out.blk.cell 1).trans rfl
                      have z1 : wc.frozen? ⟨g, 1, none⟩ = false := by rw [S1.out.blk.frozen]; rfl
                      have c2 : wc.cell? ⟨g, 2, none⟩ = some (.int .u8 0) := (S1.out.blk.cell 2).trans rfl
                      have z2 : wc.frozen? ⟨g, 2, none⟩ = false := by rw [S1.out.blk.frozen]; rfl
                      have c4 : wc.cell? ⟨g, 4, none⟩ = some (.int .i64 frm) := (S1.out.blk.cell 4).trans rfl
                      have z4 : wc.frozen? ⟨g, 4, none⟩ = false := by rw [S1.out.blk.frozen]; rfl
                      have c5 : wc.cell? ⟨g, 5, none⟩ = some (.int .i64 begun) := (S1.out.blk.cell 5).trans rfl
                      have z5 : wc.frozen? ⟨g, 5, none⟩ = false := by rw [S1.out.blk.frozen]; rfl
                      go_wp2_with fail
                      refine (stop_any wc b).mono ?_
                      rintro e w2 ⟨rfl, k2⟩
                      have S2 : Hid (SM B g s i _ _ w2) := Lib.hid (S1.out.ext k2)
                      have k3 : Hid (Below B w w2) := Lib.hid (k1.out.trans (k2.mono (Nat.le_trans S1.out.lo S1.out.hi)))
                      clear k2
                      clear c0 c1 c2 c4 c5 z1 z2 z4 z5
                      have c0 : w2.cell? ⟨g, 0, none⟩ = some (.string (mk s)) := (S2.out.blk.cell 0).trans rfl
                      have c1 : w2.cell? ⟨g, 1, none⟩ = some (.int .i64 line) := (S2.out.blk.cell 1).trans rfl
                      have z1 : w2.frozen? ⟨g, 1, none⟩ = false := by rw [S2.out.blk.frozen]; rfl
                      have c2 : w2.cell? ⟨g, 2, none⟩ = some (.int .u8 0) := (S2.out.blk.cell 2).trans rfl
                      have z2 : w2.frozen? ⟨g, 2, none⟩ = false := by rw [S2.out.blk.frozen]; rfl
                      have c4 : w2.cell? ⟨g, 4, none⟩ = some (.int .i64 frm) := (S2.out.blk.cell 4).trans rfl
                      have z4 : w2.frozen? ⟨g, 4, none⟩ = false := by rw [S2.out.blk.frozen]; rfl
                      have c5 : w2.cell? ⟨g, 5, none⟩ = some (.int .i64 begun) := (S2.out.blk.cell 5).trans rfl
                      have z5 : w2.frozen? ⟨g, 5, none⟩ = false := by rw [S2.out.blk.frozen]; rfl
                      go_wp2_with fail
                      clear c0 c1 c2 c4 c5 z1 z2 z4 z5
                      obtain ⟨V, hV⟩ : ∃ V, ((w2.setCell ⟨g, 2, none⟩ (.int .u8 1)).setCell ⟨g, 4, none⟩ (.int .i64 i)).setCell ⟨g, 5, none⟩ (.int .i64 line) = V := ⟨_, rfl⟩
                      rw [hV]
                      have S3 : Hid (SM B g s i ⟨line, 1, deep, [], line, eline, blank, words, fresh, out⟩ ⟨i, wa, wn, wk, oa, on, oc, eds, m⟩ V) := Lib.hid (by rw [← hV]; exact SM.upd (f := i) S2.out (grown_trans (grown_trans (grown_set _ _ _ _) (grown_set _ _ _ _)) (grown_set _ _ _ _)) (((S2.out.blk.set 2 _).set 4 _).set 5 _) rfl rfl (fun _ => ⟨Nat.le_refl _, (cur_none s i).symm⟩))
                      have k4 : Hid (Below B w V) := Lib.hid (k3.out.trans (S2.out.below (by rw [← hV]; exact grown_trans (grown_trans (grown_set _ _ _ _) (grown_set _ _ _ _)) (grown_set _ _ _ _))))
                      clear hV
                      have d0 : V.cell? ⟨g, 0, none⟩ = some (.string (mk s)) := (S3.out.blk.cell 0).trans rfl
                      go_wp2_with fail
                      refine (wrong_any (g := g) (ln := line) S3.out.blk).mono ?_
                      rintro e w6 ⟨rfl, g6, b6⟩
                      replace g6 := Lib.hid g6
                      replace b6 := Lib.hid b6
                      clear d0
                      go_wp2_with fail
                      have FQ := Lib.hid (SF.of b6.out)
                      have KQ := Lib.hid ((fun hg => k4.out.trans (S3.out.below hg)) g6.out)
                      refine (end_sf B FQ.out (by show (230 : Int) ≠ 0; decide)).mono ?_
                      rintro e wz ⟨rfl, kz, Fz⟩
                      replace kz := Lib.hid kz
                      replace Fz := Lib.hid Fz
                      go_wp2_with fail
                      rw [Exit.noGoto_normal]
                      go_end0
                      refine ⟨rfl, KQ.out.trans kz.out, ?_⟩
                      have hRR : R = ([], (230, line)) := hE.out.symm.trans (by rw [hdr.out, b92.out, hdr2.out, x10.out, prun_bsn (by rw [b92.out] at HCS; rw [HCS.out]; simp) (by rw [b92.out] at HCS; rw [HCS.out]; simp), HL.out])
                      rw [hRR]
                      exact RunP.err ((by show (230 : Int) ≠ 0; decide)) Fz.out
                  · have ex : ((x.toNat : Int) == 10) = false := u8_ne (k := 10) x10
                    replace x10 := Lib.hid x10
                    as_aux_lemma =>
                      have c0 : wc.cell? ⟨g, 0, none⟩ = some (.string (mk s)) := (S1.out.blk.cell 0).trans rfl
                      have c1 : wc.cell? ⟨g, 1, none⟩ = some (.int .i64 line) := (S1.out.blk.cell 1).trans rfl
                      have z1 : wc.frozen? ⟨g, 1, none⟩ = false := by rw [S1.out.blk.frozen]; rfl
                      have c2 : wc.cell? ⟨g, 2, none⟩ = some (.int .u8 0) := (S1.out.blk.cell 2).trans rfl
                      have z2 : wc.frozen? ⟨g, 2, none⟩ = false := by rw [S1.out.blk.frozen]; rfl
                      have c4 : wc.cell? ⟨g, 4, none⟩ = some (.int .i64 frm) := (S1.out.blk.cell 4).trans rfl
                      have z4 : wc.frozen? ⟨g, 4, none⟩ = false := by rw [S1.out.blk.frozen]; rfl
                      have c5 : wc.cell? ⟨g, 5, none⟩ = some (.int .i64 begun) := (S1.out.blk.cell 5).trans rfl
                      have z5 : wc.frozen? ⟨g, 5, none⟩ = false := by rw [S1.out.blk.frozen]; rfl
                      go_wp2_with fail
                      refine (stop_any wc b).mono ?_
                      rintro e w2 ⟨rfl, k2⟩
                      have S2 : Hid (SM B g s i _ _ w2) := Lib.hid (S1.out.ext k2)
                      have k3 : Hid (Below B w w2) := Lib.hid (k1.out.trans (k2.mono (Nat.le_trans S1.out.lo S1.out.hi)))
                      clear k2
                      clear c0 c1 c2 c4 c5 z1 z2 z4 z5
                      have c0 : w2.cell? ⟨g, 0, none⟩ = some (.string (mk s)) := (S2.out.blk.cell 0).trans rfl
                      have c1 : w2.cell? ⟨g, 1, none⟩ = some (.int .i64 line) := (S2.out.blk.cell 1).trans rfl
                      have z1 : w2.frozen? ⟨g, 1, none⟩ = false := by rw [S2.out.blk.frozen]; rfl
                      have c2 : w2.cell? ⟨g, 2, none⟩ = some (.int .u8 0) := (S2.out.blk.cell 2).trans rfl
                      have z2 : w2.frozen? ⟨g, 2, none⟩ = false := by rw [S2.out.blk.frozen]; rfl
                      have c4 : w2.cell? ⟨g, 4, none⟩ = some (.int .i64 frm) := (S2.out.blk.cell 4).trans rfl
                      have z4 : w2.frozen? ⟨g, 4, none⟩ = false := by rw [S2.out.blk.frozen]; rfl
                      have c5 : w2.cell? ⟨g, 5, none⟩ = some (.int .i64 begun) := (S2.out.blk.cell 5).trans rfl
                      have z5 : w2.frozen? ⟨g, 5, none⟩ = false := by rw [S2.out.blk.frozen]; rfl
                      go_wp2_with fail
                      clear c0 c1 c2 c4 c5 z1 z2 z4 z5
                      obtain ⟨V, hV⟩ : ∃ V, ((w2.setCell ⟨g, 2, none⟩ (.int .u8 1)).setCell ⟨g, 4, none⟩ (.int .i64 i)).setCell ⟨g, 5, none⟩ (.int .i64 line) = V := ⟨_, rfl⟩
                      rw [hV]
                      have S3 : Hid (SM B g s i ⟨line, 1, deep, [], line, eline, blank, words, fresh, out⟩ ⟨i, wa, wn, wk, oa, on, oc, eds, m⟩ V) := Lib.hid (by rw [← hV]; exact SM.upd (f := i) S2.out (grown_trans (grown_trans (grown_set _ _ _ _) (grown_set _ _ _ _)) (grown_set _ _ _ _)) (((S2.out.blk.set 2 _).set 4 _).set 5 _) rfl rfl (fun _ => ⟨Nat.le_refl _, (cur_none s i).symm⟩))
                      have k4 : Hid (Below B w V) := Lib.hid (k3.out.trans (S2.out.below (by rw [← hV]; exact grown_trans (grown_trans (grown_set _ _ _ _) (grown_set _ _ _ _)) (grown_set _ _ _ _))))
                      clear hV
                      refine ⟨⟨i + 2, ⟨line, 1, deep, [] ++ [92, x], line, eline, blank, words, fresh, out⟩, ⟨i, wa, wn, wk, oa, on, oc, eds, m⟩, by push_cast; rfl, Lib.hid ⟨S3.out.more rfl rfl rfl (fun _ => ⟨by show i ≤ _; omega, by show _ = List.drop i _; rw [cur_two (Nat.le_refl i) hj, cur_none, hbb.out, hbx2.out, b92.out]⟩), k4.out, by have := hlt1.out; omega, ⟨by simp, hbn.out.words, Nat.le_trans hbn.out.deep (by omega), hline, by have := hline2; push_cast; omega, Nat.le_trans hbn.out.out (by omega)⟩, ?_⟩⟩, ?_⟩
                      · have hE0 := hE.out; rw [hdr.out, b92.out, hdr2.out, prun_bs (by rw [b92.out] at HCS; rw [HCS.out]; simp) (by rw [b92.out] at HCS; rw [HCS.out]; simp) x10.out] at hE0; rw [← hE0]; rw [b92.out] at HCS; rw [HCS.out]; rfl
                      · simp only [intOf]; have := hlt1.out; omega
                · have hj2 : i + 1 = s.length := by omega
                  have hdr2 : Hid (s.drop (i + 1) = []) := Lib.hid (List.drop_eq_nil_of_le (by omega))
                  have hjE : ((i : Int) + 1 == s.length) = true := by rw [beq_iff_eq]; omega
                  have hjS : (s.length : Int) ≤ i + 1 := by omega
                  replace hj := Lib.hid hj
                  replace hj2 := Lib.hid hj2
                  as_aux_lemma =>
                    have c0 : wc.cell? ⟨g, 0, none⟩ = some (.string (mk s)) := (S1.out.blk.cell 0).trans rfl
                    have c1 : wc.cell? ⟨g, 1, none⟩ = some (.int .i64 line) := (S1.out.blk.cell 1).trans rfl
                    have z1 : wc.frozen? ⟨g, 1, none⟩ = false := by rw [S1.out.blk.frozen]; rfl
                    have c2 : wc.cell? ⟨g, 2, none⟩ = some (.int .u8 0) := (S1.out.blk.cell 2).trans rfl
                    have z2 : wc.frozen? ⟨g, 2, none⟩ = false := by rw [S1.out.blk.frozen]; rfl
                    have c4 : wc.cell? ⟨g, 4, none⟩ = some (.int .i64 frm) := (S1.out.blk.cell 4).trans rfl
                    have z4 : wc.frozen? ⟨g, 4, none⟩ = false := by rw [S1.out.blk.frozen]; rfl
                    have c5 : wc.cell? ⟨g, 5, none⟩ = some (.int .i64 begun) := (S1.out.blk.cell 5).trans rfl
                    have z5 : wc.frozen? ⟨g, 5, none⟩ = false := by rw [S1.out.blk.frozen]; rfl
                    go_wp2_with fail
                    refine (stop_any wc b).mono ?_
                    rintro e w2 ⟨rfl, k2⟩
                    have S2 : Hid (SM B g s i _ _ w2) := Lib.hid (S1.out.ext k2)
                    have k3 : Hid (Below B w w2) := Lib.hid (k1.out.trans (k2.mono (Nat.le_trans S1.out.lo S1.out.hi)))
                    clear k2
                    clear c0 c1 c2 c4 c5 z1 z2 z4 z5
                    have c0 : w2.cell? ⟨g, 0, none⟩ = some (.string (mk s)) := (S2.out.blk.cell 0).trans rfl
                    have c1 : w2.cell? ⟨g, 1, none⟩ = some (.int .i64 line) := (S2.out.blk.cell 1).trans rfl
                    have z1 : w2.frozen? ⟨g, 1, none⟩ = false := by rw [S2.out.blk.frozen]; rfl
                    have c2 : w2.cell? ⟨g, 2, none⟩ = some (.int .u8 0) := (S2.out.blk.cell 2).trans rfl
                    have z2 : w2.frozen? ⟨g, 2, none⟩ = false := by rw [S2.out.blk.frozen]; rfl
                    have c4 : w2.cell? ⟨g, 4, none⟩ = some (.int .i64 frm) := (S2.out.blk.cell 4).trans rfl
                    have z4 : w2.frozen? ⟨g, 4, none⟩ = false := by rw [S2.out.blk.frozen]; rfl
                    have c5 : w2.cell? ⟨g, 5, none⟩ = some (.int .i64 begun) := (S2.out.blk.cell 5).trans rfl
                    have z5 : w2.frozen? ⟨g, 5, none⟩ = false := by rw [S2.out.blk.frozen]; rfl
                    go_wp2_with fail
                    clear c0 c1 c2 c4 c5 z1 z2 z4 z5
                    obtain ⟨V, hV⟩ : ∃ V, ((w2.setCell ⟨g, 2, none⟩ (.int .u8 1)).setCell ⟨g, 4, none⟩ (.int .i64 i)).setCell ⟨g, 5, none⟩ (.int .i64 line) = V := ⟨_, rfl⟩
                    rw [hV]
                    have S3 : Hid (SM B g s i ⟨line, 1, deep, [], line, eline, blank, words, fresh, out⟩ ⟨i, wa, wn, wk, oa, on, oc, eds, m⟩ V) := Lib.hid (by rw [← hV]; exact SM.upd (f := i) S2.out (grown_trans (grown_trans (grown_set _ _ _ _) (grown_set _ _ _ _)) (grown_set _ _ _ _)) (((S2.out.blk.set 2 _).set 4 _).set 5 _) rfl rfl (fun _ => ⟨Nat.le_refl _, (cur_none s i).symm⟩))
                    have k4 : Hid (Below B w V) := Lib.hid (k3.out.trans (S2.out.below (by rw [← hV]; exact grown_trans (grown_trans (grown_set _ _ _ _) (grown_set _ _ _ _)) (grown_set _ _ _ _))))
                    clear hV
                    have d0 : V.cell? ⟨g, 0, none⟩ = some (.string (mk s)) := (S3.out.blk.cell 0).trans rfl
                    go_wp2_with fail
                    refine (lines_any V s (by omega)).mono ?_
                    rintro e w5 ⟨rfl, k5⟩
                    have S5 : Hid (SM B g s _ _ _ w5) := Lib.hid (S3.out.ext k5)
                    have k6 : Hid (Below B w w5) := Lib.hid (k4.out.trans (k5.mono (Nat.le_trans S3.out.lo S3.out.hi)))
                    clear k5 d0
                    have c1 : w5.cell? ⟨g, 1, none⟩ = some (.int .i64 line) := (S5.out.blk.cell 1).trans rfl
                    have z1 : w5.frozen? ⟨g, 1, none⟩ = false := by rw [S5.out.blk.frozen]; rfl
                    go_wp2_with fail
                    obtain ⟨Y, hY⟩ : ∃ Y, w5.setCell ⟨g, 1, none⟩ (.int .i64 (linesOf s)) = Y := ⟨_, rfl⟩
                    rw [hY]
                    have GY : Hid (w5.grownBy Y (some g)) := Lib.hid (by rw [← hY]; exact grown_set _ _ _ _)
                    have BY := Lib.hid (S5.out.blk.set 1 (.int .i64 (linesOf s)))
                    rw [hY] at BY
                    clear hY c1 z1
                    refine (wrong_any (g := g) (ln := linesOf s) BY.out).mono ?_
                    rintro e w6 ⟨rfl, g6, b6⟩
                    replace g6 := Lib.hid g6
                    replace b6 := Lib.hid b6
                    go_wp2_with fail
                    have FQ := Lib.hid (SF.of b6.out)
                    have KQ := Lib.hid ((fun hg => k6.out.trans (S5.out.below (grown_trans GY.out hg))) g6.out)
                    refine (end_sf B FQ.out (by show (230 : Int) ≠ 0; decide)).mono ?_
                    rintro e wz ⟨rfl, kz, Fz⟩
                    replace kz := Lib.hid kz
                    replace Fz := Lib.hid Fz
                    go_wp2_with fail
                    rw [Exit.noGoto_normal]
                    go_end0
                    refine ⟨rfl, KQ.out.trans kz.out, ?_⟩
                    have hRR : R = ([], (230, linesOf s)) := hE.out.symm.trans (by rw [hdr.out, b92.out, hdr2.out, prun_bs0 (by rw [b92.out] at HCS; rw [HCS.out]; simp) (by rw [b92.out] at HCS; rw [HCS.out]; simp)])
                    rw [hRR]
                    exact RunP.err ((by show (230 : Int) ≠ 0; decide)) Fz.out
              · skip
                have e92 : ((b.toNat : Int) == 92) = false := u8_ne (k := 92) b92
                replace b92 := Lib.hid b92
                as_aux_lemma =>
                  have c0 : wc.cell? ⟨g, 0, none⟩ = some (.string (mk s)) := (S1.out.blk.cell 0).trans rfl
                  have c1 : wc.cell? ⟨g, 1, none⟩ = some (.int .i64 line) := (S1.out.blk.cell 1).trans rfl
                  have z1 : wc.frozen? ⟨g, 1, none⟩ = false := by rw [S1.out.blk.frozen]; rfl
                  have c2 : wc.cell? ⟨g, 2, none⟩ = some (.int .u8 0) := (S1.out.blk.cell 2).trans rfl
                  have z2 : wc.frozen? ⟨g, 2, none⟩ = false := by rw [S1.out.blk.frozen]; rfl
                  have c4 : wc.cell? ⟨g, 4, none⟩ = some (.int .i64 frm) := (S1.out.blk.cell 4).trans rfl
                  have z4 : wc.frozen? ⟨g, 4, none⟩ = false := by rw [S1.out.blk.frozen]; rfl
                  have c5 : wc.cell? ⟨g, 5, none⟩ = some (.int .i64 begun) := (S1.out.blk.cell 5).trans rfl
                  have z5 : wc.frozen? ⟨g, 5, none⟩ = false := by rw [S1.out.blk.frozen]; rfl
                  go_wp2_with fail
                  refine (stop_any wc b).mono ?_
                  rintro e w2 ⟨rfl, k2⟩
                  have S2 : Hid (SM B g s i _ _ w2) := Lib.hid (S1.out.ext k2)
                  have k3 : Hid (Below B w w2) := Lib.hid (k1.out.trans (k2.mono (Nat.le_trans S1.out.lo S1.out.hi)))
                  clear k2
                  clear c0 c1 c2 c4 c5 z1 z2 z4 z5
                  have c0 : w2.cell? ⟨g, 0, none⟩ = some (.string (mk s)) := (S2.out.blk.cell 0).trans rfl
                  have c1 : w2.cell? ⟨g, 1, none⟩ = some (.int .i64 line) := (S2.out.blk.cell 1).trans rfl
                  have z1 : w2.frozen? ⟨g, 1, none⟩ = false := by rw [S2.out.blk.frozen]; rfl
                  have c2 : w2.cell? ⟨g, 2, none⟩ = some (.int .u8 0) := (S2.out.blk.cell 2).trans rfl
                  have z2 : w2.frozen? ⟨g, 2, none⟩ = false := by rw [S2.out.blk.frozen]; rfl
                  have c4 : w2.cell? ⟨g, 4, none⟩ = some (.int .i64 frm) := (S2.out.blk.cell 4).trans rfl
                  have z4 : w2.frozen? ⟨g, 4, none⟩ = false := by rw [S2.out.blk.frozen]; rfl
                  have c5 : w2.cell? ⟨g, 5, none⟩ = some (.int .i64 begun) := (S2.out.blk.cell 5).trans rfl
                  have z5 : w2.frozen? ⟨g, 5, none⟩ = false := by rw [S2.out.blk.frozen]; rfl
                  go_wp2_with fail
                  clear c0 c1 c2 c4 c5 z1 z2 z4 z5
                  obtain ⟨V, hV⟩ : ∃ V, ((w2.setCell ⟨g, 2, none⟩ (.int .u8 1)).setCell ⟨g, 4, none⟩ (.int .i64 i)).setCell ⟨g, 5, none⟩ (.int .i64 line) = V := ⟨_, rfl⟩
                  rw [hV]
                  have S3 : Hid (SM B g s i ⟨line, 1, deep, [], line, eline, blank, words, fresh, out⟩ ⟨i, wa, wn, wk, oa, on, oc, eds, m⟩ V) := Lib.hid (by rw [← hV]; exact SM.upd (f := i) S2.out (grown_trans (grown_trans (grown_set _ _ _ _) (grown_set _ _ _ _)) (grown_set _ _ _ _)) (((S2.out.blk.set 2 _).set 4 _).set 5 _) rfl rfl (fun _ => ⟨Nat.le_refl _, (cur_none s i).symm⟩))
                  have k4 : Hid (Below B w V) := Lib.hid (k3.out.trans (S2.out.below (by rw [← hV]; exact grown_trans (grown_trans (grown_set _ _ _ _) (grown_set _ _ _ _)) (grown_set _ _ _ _))))
                  clear hV
                  refine ⟨⟨i + 1, ⟨line, 1, deep, [] ++ [b], line, eline, blank, words, fresh, out⟩, ⟨i, wa, wn, wk, oa, on, oc, eds, m⟩, by push_cast; rfl, Lib.hid ⟨S3.out.more rfl rfl rfl (fun _ => ⟨by show i ≤ _; omega, by show _ = List.drop i _; rw [cur_one (Nat.le_refl i) hlt1.out, cur_none, hbb.out]⟩), k4.out, by have := hlt1.out; omega, ⟨by simp, hbn.out.words, Nat.le_trans hbn.out.deep (by omega), hline, by have := hline2; push_cast; omega, Nat.le_trans hbn.out.out (by omega)⟩, ?_⟩⟩, ?_⟩
                  · have hE0 := hE.out; rw [hdr.out, prun_w (by rw [HCS.out]; simp) (by rw [HCS.out]; simp) hsb.out b34.out b92.out] at hE0; rw [← hE0]; rw [HCS.out]; rfl
                  · simp only [intOf]; have := hlt1.out; omega
        · by_cases hs : stopB b = true
          · have hsb := Lib.hid hs
            as_aux_lemma =>
              have c0 : wc.cell? ⟨g, 0, none⟩ = some (.string (mk s)) := (S1.out.blk.cell 0).trans rfl
              have c2 : wc.cell? ⟨g, 2, none⟩ = some (.int .u8 1) := (S1.out.blk.cell 2).trans rfl
              have z2 : wc.frozen? ⟨g, 2, none⟩ = false := by rw [S1.out.blk.frozen]; rfl
              go_wp2_with fail
              refine (stop_any wc b).mono ?_
              rintro e w2 ⟨rfl, k2⟩
              have S2 : Hid (SM B g s i _ _ w2) := Lib.hid (S1.out.ext k2)
              have k3 : Hid (Below B w w2) := Lib.hid (k1.out.trans (k2.mono (Nat.le_trans S1.out.lo S1.out.hi)))
              clear k2
              clear c0 c2 z2
              have c0 : w2.cell? ⟨g, 0, none⟩ = some (.string (mk s)) := (S2.out.blk.cell 0).trans rfl
              have c2 : w2.cell? ⟨g, 2, none⟩ = some (.int .u8 1) := (S2.out.blk.cell 2).trans rfl
              have z2 : w2.frozen? ⟨g, 2, none⟩ = false := by rw [S2.out.blk.frozen]; rfl
              go_wp2_with fail
              refine (ends_sm b S2.out (.inr (.inl rfl)) hil hbn.out.words hline (Int.le_trans hline2 (by omega)) (Nat.le_trans hbn.out.deep (by omega)) (Nat.le_trans hbn.out.out (by omega))).mono ?_
              rintro e w4 ⟨k4, hoc⟩
              replace k4 := Lib.hid k4
              clear c0 c2 z2
              rcases hoc with ⟨c4, q4, h4, rfl, S4⟩ | ⟨x, h4, rfl, F4⟩
              · replace h4 := Lib.hid h4
                replace S4 := Lib.hid S4
                go_wp2_with fail
                have hbe := ends_bnd hbn.out h4.out
                refine ⟨⟨i + 1, c4, q4, by push_cast; rfl, Lib.hid ⟨S4.out.place (by rcases hbe.2 with h | h <;> simp [h]), k3.out.trans k4.out, by have := hlt1.out; omega, hbe.1, ?_⟩⟩, ?_⟩
                · have hE0 := hE.out; rw [hdr.out] at hE0; rw [← hE0]; exact (prun_stop (by rw [HCS.out]; simp) (by rw [HCS.out]; simp) hsb.out (by rw [HCS.out]; exact h4.out)).symm
                · simp only [intOf]; have := hlt1.out; omega
              · replace h4 := Lib.hid h4
                replace F4 := Lib.hid F4
                go_wp2_with fail
                have FQ := Lib.hid (F4.out)
                have KQ := Lib.hid (k3.out.trans k4.out)
                refine (end_sf B FQ.out (ends_err h4.out)).mono ?_
                rintro e wz ⟨rfl, kz, Fz⟩
                replace kz := Lib.hid kz
                replace Fz := Lib.hid Fz
                go_wp2_with fail
                rw [Exit.noGoto_normal]
                go_end0
                refine ⟨rfl, KQ.out.trans kz.out, ?_⟩
                have hRR : R = ([], x) := hE.out.symm.trans (by rw [hdr.out]; exact prun_stopx (by rw [HCS.out]; simp) (by rw [HCS.out]; simp) hsb.out (by rw [HCS.out]; exact h4.out))
                rw [hRR]
                exact RunP.err ((ends_err h4.out)) Fz.out
          · replace hs : stopB b = false := by simpa using hs
            have hsb := Lib.hid hs
            by_cases b34 : b = 34
            · skip
              have e34 : ((b.toNat : Int) == 34) = true := u8_beq (k := 34) b34 (by decide)
              replace b34 := Lib.hid b34
              as_aux_lemma =>
                have c0 : wc.cell? ⟨g, 0, none⟩ = some (.string (mk s)) := (S1.out.blk.cell 0).trans rfl
                have c1 : wc.cell? ⟨g, 1, none⟩ = some (.int .i64 line) := (S1.out.blk.cell 1).trans rfl
                have z1 : wc.frozen? ⟨g, 1, none⟩ = false := by rw [S1.out.blk.frozen]; rfl
                have c2 : wc.cell? ⟨g, 2, none⟩ = some (.int .u8 1) := (S1.out.blk.cell 2).trans rfl
                have z2 : wc.frozen? ⟨g, 2, none⟩ = false := by rw [S1.out.blk.frozen]; rfl
                have c4 : wc.cell? ⟨g, 4, none⟩ = some (.int .i64 frm) := (S1.out.blk.cell 4).trans rfl
                have z4 : wc.frozen? ⟨g, 4, none⟩ = false := by rw [S1.out.blk.frozen]; rfl
                have c5 : wc.cell? ⟨g, 5, none⟩ = some (.int .i64 begun) := (S1.out.blk.cell 5).trans rfl
                have z5 : wc.frozen? ⟨g, 5, none⟩ = false := by rw [S1.out.blk.frozen]; rfl
                go_wp2_with fail
                refine (stop_any wc b).mono ?_
                rintro e w2 ⟨rfl, k2⟩
                have S2 : Hid (SM B g s i _ _ w2) := Lib.hid (S1.out.ext k2)
                have k3 : Hid (Below B w w2) := Lib.hid (k1.out.trans (k2.mono (Nat.le_trans S1.out.lo S1.out.hi)))
                clear k2
                clear c0 c1 c2 c4 c5 z1 z2 z4 z5
                have c0 : w2.cell? ⟨g, 0, none⟩ = some (.string (mk s)) := (S2.out.blk.cell 0).trans rfl
                have c1 : w2.cell? ⟨g, 1, none⟩ = some (.int .i64 line) := (S2.out.blk.cell 1).trans rfl
                have z1 : w2.frozen? ⟨g, 1, none⟩ = false := by rw [S2.out.blk.frozen]; rfl
                have c2 : w2.cell? ⟨g, 2, none⟩ = some (.int .u8 1) := (S2.out.blk.cell 2).trans rfl
                have z2 : w2.frozen? ⟨g, 2, none⟩ = false := by rw [S2.out.blk.frozen]; rfl
                have c4 : w2.cell? ⟨g, 4, none⟩ = some (.int .i64 frm) := (S2.out.blk.cell 4).trans rfl
                have z4 : w2.frozen? ⟨g, 4, none⟩ = false := by rw [S2.out.blk.frozen]; rfl
                have c5 : w2.cell? ⟨g, 5, none⟩ = some (.int .i64 begun) := (S2.out.blk.cell 5).trans rfl
                have z5 : w2.frozen? ⟨g, 5, none⟩ = false := by rw [S2.out.blk.frozen]; rfl
                go_wp2_with fail
                refine (wrong_any (g := g) (ln := line) S2.out.blk).mono ?_
                rintro e w6 ⟨rfl, g6, b6⟩
                replace g6 := Lib.hid g6
                replace b6 := Lib.hid b6
                clear c0 c1 c2 c4 c5 z1 z2 z4 z5
                go_wp2_with fail
                have FQ := Lib.hid (SF.of b6.out)
                have KQ := Lib.hid ((fun hg => k3.out.trans (S2.out.below hg)) g6.out)
                refine (end_sf B FQ.out (by show (230 : Int) ≠ 0; decide)).mono ?_
                rintro e wz ⟨rfl, kz, Fz⟩
                replace kz := Lib.hid kz
                replace Fz := Lib.hid Fz
                go_wp2_with fail
                rw [Exit.noGoto_normal]
                go_end0
                refine ⟨rfl, KQ.out.trans kz.out, ?_⟩
                have hRR : R = ([], (230, line)) := hE.out.symm.trans (by rw [hdr.out, b34.out, prun_in (by rw [b34.out] at HCS; rw [HCS.out]), HL.out])
                rw [hRR]
                exact RunP.err ((by show (230 : Int) ≠ 0; decide)) Fz.out
            · skip
              have e34 : ((b.toNat : Int) == 34) = false := u8_ne (k := 34) b34
              replace b34 := Lib.hid b34
              by_cases b92 : b = 92
              · skip
                have e92 : ((b.toNat : Int) == 92) = true := u8_beq (k := 92) b92 (by decide)
                replace b92 := Lib.hid b92
                by_cases hj : i + 1 < s.length
                · obtain ⟨x, hbx⟩ : ∃ x, s[i + 1] = x := ⟨_, rfl⟩
                  have hdr2 : Hid (s.drop (i + 1) = x :: s.drop (i + 2)) := Lib.hid (by rw [List.drop_eq_getElem_cons hj, hbx])
                  have hjI : (i : Int) + 1 < s.length := by omega
                  have hjE : ((i : Int) + 1 == s.length) = false := by rw [beq_eq_false_iff_ne]; omega
                  have hj1 := Lib.hid hj
                  have hbx2 := Lib.hid hbx
                  by_cases x10 : x = 10
                  · have ex : ((x.toNat : Int) == 10) = true := u8_beq (k := 10) x10 (by decide)
                    replace x10 := Lib.hid x10
                    as_aux_lemma =>
                      have c0 : wc.cell? ⟨g, 0, none⟩ = some (.string (mk s)) := (S1.out.blk.cell 0).trans rfl
                      have c1 : wc.cell? ⟨g, 1, none⟩ = some (.int .i64 line) := (S1.out.blk.cell 1).trans rfl
                      have z1 : wc.frozen? ⟨g, 1, none⟩ = false := by rw [S1.out.blk.frozen]; rfl
                      have c2 : wc.cell? ⟨g, 2, none⟩ = some (.int .u8 1) := (S1.out.blk.cell 2).trans rfl
                      have z2 : wc.frozen? ⟨g, 2, none⟩ = false := by rw [S1.out.blk.frozen]; rfl
                      have c4 : wc.cell? ⟨g, 4, none⟩ = some (.int .i64 frm) := (S1.out.blk.cell 4).trans rfl
                      have z4 : wc.frozen? ⟨g, 4, none⟩ = false := by rw [S1.out.blk.frozen]; rfl
                      have c5 : wc.cell? ⟨g, 5, none⟩ = some (.int .i64 begun) := (S1.out.blk.cell 5).trans rfl
                      have z5 : wc.frozen? ⟨g, 5, none⟩ = false := by rw [S1.out.blk.frozen]; rfl
                      go_wp2_with fail
                      refine (stop_any wc b).mono ?_
                      rintro e w2 ⟨rfl, k2⟩
                      have S2 : Hid (SM B g s i _ _ w2) := Lib.hid (S1.out.ext k2)
                      have k3 : Hid (Below B w w2) := Lib.hid (k1.out.trans (k2.mono (Nat.le_trans S1.out.lo S1.out.hi)))
                      clear k2
                      clear c0 c1 c2 c4 c5 z1 z2 z4 z5
                      have c0 : w2.cell? ⟨g, 0, none⟩ = some (.string (mk s)) := (S2.out.blk.cell 0).trans rfl
                      have c1 : w2.cell? ⟨g, 1, none⟩ = some (.int .i64 line) := (S2.out.blk.cell 1).trans rfl
                      have z1 : w2.frozen? ⟨g, 1, none⟩ = false := by rw [S2.out.blk.frozen]; rfl
                      have c2 : w2.cell? ⟨g, 2, none⟩ = some (.int .u8 1) := (S2.out.blk.cell 2).trans rfl
                      have z2 : w2.frozen? ⟨g, 2, none⟩ = false := by rw [S2.out.blk.frozen]; rfl
                      have c4 : w2.cell? ⟨g, 4, none⟩ = some (.int .i64 frm) := (S2.out.blk.cell 4).trans rfl
                      have z4 : w2.frozen? ⟨g, 4, none⟩ = false := by rw [S2.out.blk.frozen]; rfl
                      have c5 : w2.cell? ⟨g, 5, none⟩ = some (.int .i64 begun) := (S2.out.blk.cell 5).trans rfl
                      have z5 : w2.frozen? ⟨g, 5, none⟩ = false := by rw [S2.out.blk.frozen]; rfl
                      go_wp2_with fail
                      refine (wrong_any (g := g) (ln := line) S2.out.blk).mono ?_
                      rintro e w6 ⟨rfl, g6, b6⟩
                      replace g6 := Lib.hid g6
                      replace b6 := Lib.hid b6
                      clear c0 c1 c2 c4 c5 z1 z2 z4 z5
                      go_wp2_with fail
                      have FQ := Lib.hid (SF.of b6.out)
                      have KQ := Lib.hid ((fun hg => k3.out.trans (S2.out.below hg)) g6.out)
                      refine (end_sf B FQ.out (by show (230 : Int) ≠ 0; decide)).mono ?_
                      rintro e wz ⟨rfl, kz, Fz⟩
                      replace kz := Lib.hid kz
                      replace Fz := Lib.hid Fz
                      go_wp2_with fail
                      rw [Exit.noGoto_normal]
                      go_end0
                      refine ⟨rfl, KQ.out.trans kz.out, ?_⟩
                      have hRR : R = ([], (230, line)) := hE.out.symm.trans (by rw [hdr.out, b92.out, hdr2.out, x10.out, prun_bsn (by rw [b92.out] at HCS; rw [HCS.out]; simp) (by rw [b92.out] at HCS; rw [HCS.out]; simp), HL.out])
                      rw [hRR]
                      exact RunP.err ((by show (230 : Int) ≠ 0; decide)) Fz.out
                  · have ex : ((x.toNat : Int) == 10) = false := u8_ne (k := 10) x10
                    replace x10 := Lib.hid x10
                    as_aux_lemma =>
                      have c0 : wc.cell? ⟨g, 0, none⟩ = some (.string (mk s)) := (S1.out.blk.cell 0).trans rfl
                      have c1 : wc.cell? ⟨g, 1, none⟩ = some (.int .i64 line) := (S1.out.blk.cell 1).trans rfl
                      have z1 : wc.frozen? ⟨g, 1, none⟩ = false := by rw [S1.out.blk.frozen]; rfl
                      have c2 : wc.cell? ⟨g, 2, none⟩ = some (.int .u8 1) := (S1.out.blk.cell 2).trans rfl
                      have z2 : wc.frozen? ⟨g, 2, none⟩ = false := by rw [S1.out.blk.frozen]; rfl
                      have c4 : wc.cell? ⟨g, 4, none⟩ = some (.int .i64 frm) := (S1.out.blk.cell 4).trans rfl
                      have z4 : wc.frozen? ⟨g, 4, none⟩ = false := by rw [S1.out.blk.frozen]; rfl
                      have c5 : wc.cell? ⟨g, 5, none⟩ = some (.int .i64 begun) := (S1.out.blk.cell 5).trans rfl
                      have z5 : wc.frozen? ⟨g, 5, none⟩ = false := by rw [S1.out.blk.frozen]; rfl
                      go_wp2_with fail
                      refine (stop_any wc b).mono ?_
                      rintro e w2 ⟨rfl, k2⟩
                      have S2 : Hid (SM B g s i _ _ w2) := Lib.hid (S1.out.ext k2)
                      have k3 : Hid (Below B w w2) := Lib.hid (k1.out.trans (k2.mono (Nat.le_trans S1.out.lo S1.out.hi)))
                      clear k2
                      clear c0 c1 c2 c4 c5 z1 z2 z4 z5
                      have c0 : w2.cell? ⟨g, 0, none⟩ = some (.string (mk s)) := (S2.out.blk.cell 0).trans rfl
                      have c1 : w2.cell? ⟨g, 1, none⟩ = some (.int .i64 line) := (S2.out.blk.cell 1).trans rfl
                      have z1 : w2.frozen? ⟨g, 1, none⟩ = false := by rw [S2.out.blk.frozen]; rfl
                      have c2 : w2.cell? ⟨g, 2, none⟩ = some (.int .u8 1) := (S2.out.blk.cell 2).trans rfl
                      have z2 : w2.frozen? ⟨g, 2, none⟩ = false := by rw [S2.out.blk.frozen]; rfl
                      have c4 : w2.cell? ⟨g, 4, none⟩ = some (.int .i64 frm) := (S2.out.blk.cell 4).trans rfl
                      have z4 : w2.frozen? ⟨g, 4, none⟩ = false := by rw [S2.out.blk.frozen]; rfl
                      have c5 : w2.cell? ⟨g, 5, none⟩ = some (.int .i64 begun) := (S2.out.blk.cell 5).trans rfl
                      have z5 : w2.frozen? ⟨g, 5, none⟩ = false := by rw [S2.out.blk.frozen]; rfl
                      go_wp2_with fail
                      clear c0 c1 c2 c4 c5 z1 z2 z4 z5
                      refine ⟨⟨i + 2, ⟨line, 1, deep, cur ++ [92, x], begun, eline, blank, words, fresh, out⟩, ⟨frm, wa, wn, wk, oa, on, oc, eds, m⟩, by push_cast; rfl, Lib.hid ⟨S2.out.more rfl rfl rfl (fun _ => ⟨Nat.le_trans (S1.out.cur (.inl rfl)).1 (by omega), by have h8 := (S1.out.cur (.inl rfl)).2; have h9 := (S1.out.cur (.inl rfl)).1; dsimp only at h8 h9 ⊢; rw [cur_two h9 hj, hbb.out, hbx2.out, b92.out, ← h8]⟩), k3.out, by have := hlt1.out; omega, ⟨by simp, hbn.out.words, Nat.le_trans hbn.out.deep (by omega), hline, by have := hline2; push_cast; omega, Nat.le_trans hbn.out.out (by omega)⟩, ?_⟩⟩, ?_⟩
                      · have hE0 := hE.out; rw [hdr.out, b92.out, hdr2.out, prun_bs (by rw [b92.out] at HCS; rw [HCS.out]; simp) (by rw [b92.out] at HCS; rw [HCS.out]; simp) x10.out] at hE0; rw [← hE0]; rw [b92.out] at HCS; rw [HCS.out]; rfl
                      · simp only [intOf]; have := hlt1.out; omega
                · have hj2 : i + 1 = s.length := by omega
                  have hdr2 : Hid (s.drop (i + 1) = []) := Lib.hid (List.drop_eq_nil_of_le (by omega))
                  have hjE : ((i : Int) + 1 == s.length) = true := by rw [beq_iff_eq]; omega
                  have hjS : (s.length : Int) ≤ i + 1 := by omega
                  replace hj := Lib.hid hj
                  replace hj2 := Lib.hid hj2
                  as_aux_lemma =>
                    have c0 : wc.cell? ⟨g, 0, none⟩ = some (.string (mk s)) := (S1.out.blk.cell 0).trans rfl
                    have c1 : wc.cell? ⟨g, 1, none⟩ = some (.int .i64 line) := (S1.out.blk.cell 1).trans rfl
                    have z1 : wc.frozen? ⟨g, 1, none⟩ = false := by rw [S1.out.blk.frozen]; rfl
                    have c2 : wc.cell? ⟨g, 2, none⟩ = some (.int .u8 1) := (S1.out.blk.cell 2).trans rfl
                    have z2 : wc.frozen? ⟨g, 2, none⟩ = false := by rw [S1.out.blk.frozen]; rfl
                    have c4 : wc.cell? ⟨g, 4, none⟩ = some (.int .i64 frm) := (S1.out.blk.cell 4).trans rfl
                    have z4 : wc.frozen? ⟨g, 4, none⟩ = false := by rw [S1.out.blk.frozen]; rfl
                    have c5 : wc.cell? ⟨g, 5, none⟩ = some (.int .i64 begun) := (S1.out.blk.cell 5).trans rfl
                    have z5 : wc.frozen? ⟨g, 5, none⟩ = false := by rw [S1.out.blk.frozen]; rfl
                    go_wp2_with fail
                    refine (stop_any wc b).mono ?_
                    rintro e w2 ⟨rfl, k2⟩
                    have S2 : Hid (SM B g s i _ _ w2) := Lib.hid (S1.out.ext k2)
                    have k3 : Hid (Below B w w2) := Lib.hid (k1.out.trans (k2.mono (Nat.le_trans S1.out.lo S1.out.hi)))
                    clear k2
                    clear c0 c1 c2 c4 c5 z1 z2 z4 z5
                    have c0 : w2.cell? ⟨g, 0, none⟩ = some (.string (mk s)) := (S2.out.blk.cell 0).trans rfl
                    have c1 : w2.cell? ⟨g, 1, none⟩ = some (.int .i64 line) := (S2.out.blk.cell 1).trans rfl
                    have z1 : w2.frozen? ⟨g, 1, none⟩ = false := by rw [S2.out.blk.frozen]; rfl
                    have c2 : w2.cell? ⟨g, 2, none⟩ = some (.int .u8 1) := (S2.out.blk.cell 2).trans rfl
                    have z2 : w2.frozen? ⟨g, 2, none⟩ = false := by rw [S2.out.blk.frozen]; rfl
                    have c4 : w2.cell? ⟨g, 4, none⟩ = some (.int .i64 frm) := (S2.out.blk.cell 4).trans rfl
                    have z4 : w2.frozen? ⟨g, 4, none⟩ = false := by rw [S2.out.blk.frozen]; rfl
                    have c5 : w2.cell? ⟨g, 5, none⟩ = some (.int .i64 begun) := (S2.out.blk.cell 5).trans rfl
                    have z5 : w2.frozen? ⟨g, 5, none⟩ = false := by rw [S2.out.blk.frozen]; rfl
                    go_wp2_with fail
                    refine (lines_any w2 s (by omega)).mono ?_
                    rintro e w5 ⟨rfl, k5⟩
                    have S5 : Hid (SM B g s _ _ _ w5) := Lib.hid (S2.out.ext k5)
                    have k6 : Hid (Below B w w5) := Lib.hid (k3.out.trans (k5.mono (Nat.le_trans S2.out.lo S2.out.hi)))
                    clear k5
                    clear c0 c1 c2 c4 c5 z1 z2 z4 z5
                    have c1 : w5.cell? ⟨g, 1, none⟩ = some (.int .i64 line) := (S5.out.blk.cell 1).trans rfl
                    have z1 : w5.frozen? ⟨g, 1, none⟩ = false := by rw [S5.out.blk.frozen]; rfl
                    go_wp2_with fail
                    obtain ⟨Y, hY⟩ : ∃ Y, w5.setCell ⟨g, 1, none⟩ (.int .i64 (linesOf s)) = Y := ⟨_, rfl⟩
                    rw [hY]
                    have GY : Hid (w5.grownBy Y (some g)) := Lib.hid (by rw [← hY]; exact grown_set _ _ _ _)
                    have BY := Lib.hid (S5.out.blk.set 1 (.int .i64 (linesOf s)))
                    rw [hY] at BY
                    clear hY c1 z1
                    refine (wrong_any (g := g) (ln := linesOf s) BY.out).mono ?_
                    rintro e w6 ⟨rfl, g6, b6⟩
                    replace g6 := Lib.hid g6
                    replace b6 := Lib.hid b6
                    go_wp2_with fail
                    have FQ := Lib.hid (SF.of b6.out)
                    have KQ := Lib.hid ((fun hg => k6.out.trans (S5.out.below (grown_trans GY.out hg))) g6.out)
                    refine (end_sf B FQ.out (by show (230 : Int) ≠ 0; decide)).mono ?_
                    rintro e wz ⟨rfl, kz, Fz⟩
                    replace kz := Lib.hid kz
                    replace Fz := Lib.hid Fz
                    go_wp2_with fail
                    rw [Exit.noGoto_normal]
                    go_end0
                    refine ⟨rfl, KQ.out.trans kz.out, ?_⟩
                    have hRR : R = ([], (230, linesOf s)) := hE.out.symm.trans (by rw [hdr.out, b92.out, hdr2.out, prun_bs0 (by rw [b92.out] at HCS; rw [HCS.out]; simp) (by rw [b92.out] at HCS; rw [HCS.out]; simp)])
                    rw [hRR]
                    exact RunP.err ((by show (230 : Int) ≠ 0; decide)) Fz.out
              · skip
                have e92 : ((b.toNat : Int) == 92) = false := u8_ne (k := 92) b92
                replace b92 := Lib.hid b92
                as_aux_lemma =>
                  have c0 : wc.cell? ⟨g, 0, none⟩ = some (.string (mk s)) := (S1.out.blk.cell 0).trans rfl
                  have c1 : wc.cell? ⟨g, 1, none⟩ = some (.int .i64 line) := (S1.out.blk.cell 1).trans rfl
                  have z1 : wc.frozen? ⟨g, 1, none⟩ = false := by rw [S1.out.blk.frozen]; rfl
                  have c2 : wc.cell? ⟨g, 2, none⟩ = some (.int .u8 1) := (S1.out.blk.cell 2).trans rfl
                  have z2 : wc.frozen? ⟨g, 2, none⟩ = false := by rw [S1.out.blk.frozen]; rfl
                  have c4 : wc.cell? ⟨g, 4, none⟩ = some (.int .i64 frm) := (S1.out.blk.cell 4).trans rfl
                  have z4 : wc.frozen? ⟨g, 4, none⟩ = false := by rw [S1.out.blk.frozen]; rfl
                  have c5 : wc.cell? ⟨g, 5, none⟩ = some (.int .i64 begun) := (S1.out.blk.cell 5).trans rfl
                  have z5 : wc.frozen? ⟨g, 5, none⟩ = false := by rw [S1.out.blk.frozen]; rfl
                  go_wp2_with fail
                  refine (stop_any wc b).mono ?_
                  rintro e w2 ⟨rfl, k2⟩
                  have S2 : Hid (SM B g s i _ _ w2) := Lib.hid (S1.out.ext k2)
                  have k3 : Hid (Below B w w2) := Lib.hid (k1.out.trans (k2.mono (Nat.le_trans S1.out.lo S1.out.hi)))
                  clear k2
                  clear c0 c1 c2 c4 c5 z1 z2 z4 z5
                  have c0 : w2.cell? ⟨g, 0, none⟩ = some (.string (mk s)) := (S2.out.blk.cell 0).trans rfl
                  have c1 : w2.cell? ⟨g, 1, none⟩ = some (.int .i64 line) := (S2.out.blk.cell 1).trans rfl
                  have z1 : w2.frozen? ⟨g, 1, none⟩ = false := by rw [S2.out.blk.frozen]; rfl
                  have c2 : w2.cell? ⟨g, 2, none⟩ = some (.int .u8 1) := (S2.out.blk.cell 2).trans rfl
                  have z2 : w2.frozen? ⟨g, 2, none⟩ = false := by rw [S2.out.blk.frozen]; rfl
                  have c4 : w2.cell? ⟨g, 4, none⟩ = some (.int .i64 frm) := (S2.out.blk.cell 4).trans rfl
                  have z4 : w2.frozen? ⟨g, 4, none⟩ = false := by rw [S2.out.blk.frozen]; rfl
                  have c5 : w2.cell? ⟨g, 5, none⟩ = some (.int .i64 begun) := (S2.out.blk.cell 5).trans rfl
                  have z5 : w2.frozen? ⟨g, 5, none⟩ = false := by rw [S2.out.blk.frozen]; rfl
                  go_wp2_with fail
                  clear c0 c1 c2 c4 c5 z1 z2 z4 z5
                  refine ⟨⟨i + 1, ⟨line, 1, deep, cur ++ [b], begun, eline, blank, words, fresh, out⟩, ⟨frm, wa, wn, wk, oa, on, oc, eds, m⟩, by push_cast; rfl, Lib.hid ⟨S2.out.more rfl rfl rfl (fun _ => ⟨Nat.le_trans (S1.out.cur (.inl rfl)).1 (by omega), by have h8 := (S1.out.cur (.inl rfl)).2; have h9 := (S1.out.cur (.inl rfl)).1; dsimp only at h8 h9 ⊢; rw [cur_one h9 hlt1.out, hbb.out, ← h8]⟩), k3.out, by have := hlt1.out; omega, ⟨by simp, hbn.out.words, Nat.le_trans hbn.out.deep (by omega), hline, by have := hline2; push_cast; omega, Nat.le_trans hbn.out.out (by omega)⟩, ?_⟩⟩, ?_⟩
                  · have hE0 := hE.out; rw [hdr.out, prun_w (by rw [HCS.out]; simp) (by rw [HCS.out]; simp) hsb.out b34.out b92.out] at hE0; rw [← hE0]; rw [HCS.out]; rfl
                  · simp only [intOf]; have := hlt1.out; omega
        · skip
          have hcc := (see_line b C0).2.2.2.1
          rw [HCS.out] at hcc
          dsimp only at hcc
          have HC := Lib.hid hcc
          clear hcc
          have HF := Lib.hid (S1.out.cur (.inr rfl))
          by_cases b34 : b = 34
          · skip
            have e34 : ((b.toNat : Int) == 34) = true := u8_beq (k := 34) b34 (by decide)
            replace b34 := Lib.hid b34
            by_cases hj : i + 1 < s.length
            · obtain ⟨x, hbx⟩ : ∃ x, s[i + 1] = x := ⟨_, rfl⟩
              have hdr2 : Hid (s.drop (i + 1) = x :: s.drop (i + 2)) := Lib.hid (by rw [List.drop_eq_getElem_cons hj, hbx])
              have hjI : (i : Int) + 1 < s.length := by omega
              have hj1 := Lib.hid hj
              by_cases hx : stopB x = true
              · have hx2 := Lib.hid hx
                as_aux_lemma =>
                  have c0 : wc.cell? ⟨g, 0, none⟩ = some (.string (mk s)) := (S1.out.blk.cell 0).trans rfl
                  have c1 : wc.cell? ⟨g, 1, none⟩ = some (.int .i64 line) := (S1.out.blk.cell 1).trans rfl
                  have z1 : wc.frozen? ⟨g, 1, none⟩ = false := by rw [S1.out.blk.frozen]; rfl
                  have c2 : wc.cell? ⟨g, 2, none⟩ = some (.int .u8 2) := (S1.out.blk.cell 2).trans rfl
                  have z2 : wc.frozen? ⟨g, 2, none⟩ = false := by rw [S1.out.blk.frozen]; rfl
                  go_wp2_with fail
                  refine (stop_any wc x).mono ?_
                  rintro e w2 ⟨rfl, k2⟩
                  have S2 : Hid (SM B g s i _ _ w2) := Lib.hid (S1.out.ext k2)
                  have k3 : Hid (Below B w w2) := Lib.hid (k1.out.trans (k2.mono (Nat.le_trans S1.out.lo S1.out.hi)))
                  clear k2
                  clear c0 c1 c2 z1 z2
                  have c0 : w2.cell? ⟨g, 0, none⟩ = some (.string (mk s)) := (S2.out.blk.cell 0).trans rfl
                  have c1 : w2.cell? ⟨g, 1, none⟩ = some (.int .i64 line) := (S2.out.blk.cell 1).trans rfl
                  have z1 : w2.frozen? ⟨g, 1, none⟩ = false := by rw [S2.out.blk.frozen]; rfl
                  have c2 : w2.cell? ⟨g, 2, none⟩ = some (.int .u8 2) := (S2.out.blk.cell 2).trans rfl
                  have z2 : w2.frozen? ⟨g, 2, none⟩ = false := by rw [S2.out.blk.frozen]; rfl
                  go_wp2_with fail
                  refine (word_sm S2.out (.inr rfl) hil hbn.out.words).mono ?_
                  rintro e w6 ⟨k6, hoc⟩
                  replace k6 := Lib.hid k6
                  clear c0 c1 c2 z1 z2
                  rcases hoc with ⟨c4, q4, h4, rfl, S4⟩ | ⟨x9, h4, rfl, F4⟩
                  · replace h4 := Lib.hid h4
                    replace S4 := Lib.hid S4
                    have hw4 := Lib.hid (word_ok h4.out)
                    have hb4 := Lib.hid (word_bnd hbn.out h4.out)
                    obtain ⟨line4, st4, deep4, cur4, begun4, eline4, blank4, words4, fresh4, out4⟩ := c4
                    obtain ⟨frm4, wa4, wn4, wk4, oa4, on4, oc4, eds4, m4⟩ := q4
                    have c2 : w6.cell? ⟨g, 2, none⟩ = some (.int .u8 st4) := (S4.out.blk.cell 2).trans rfl
                    have z2 : w6.frozen? ⟨g, 2, none⟩ = false := by rw [S4.out.blk.frozen]; rfl
                    go_wp2_with fail
                    clear c2 z2
                    have G7 : Hid (w6.grownBy (w6.setCell ⟨g, 2, none⟩ (.int .u8 3)) (some g)) := Lib.hid (grown_set _ _ _ _)
                    refine ⟨⟨i + 1, ⟨line4, 3, deep4, cur4, begun4, eline4, blank4, words4, fresh4, out4⟩, ⟨frm4, wa4, wn4, wk4, oa4, on4, oc4, eds4, m4⟩, by push_cast; rfl, Lib.hid ⟨SM.upd (f := frm4) S4.out G7.out (S4.out.blk.set 2 _) rfl rfl (fun h => by rcases h with h | h <;> cases h), (k3.out.trans k6.out).trans (S4.out.below G7.out), by have := hlt1.out; omega, ⟨by simp, hb4.out.words, Nat.le_trans hb4.out.deep (by omega), hb4.out.lo, by have := hb4.out.hi; dsimp only at this ⊢; push_cast; omega, Nat.le_trans hb4.out.out (by omega)⟩, ?_⟩⟩, ?_⟩
                    · have hE0 := hE.out; rw [hdr.out, b34.out, prun_qok (by rw [b34.out] at HCS; rw [HCS.out]) (by rw [hdr2.out]; show (!stopB x) = false; rw [hx2.out]; rfl) (by have h7 := h4.out; rw [b34.out] at HCS; rw [HCS.out]; exact h7)] at hE0; exact hE0
                    · simp only [intOf]; have := hlt1.out; omega
                  · replace h4 := Lib.hid h4
                    obtain ⟨x0, x1, x2, x3, x4, x5, x6, x7, x8, x90, x10, bF⟩ := F4.blk
                    replace bF := Lib.hid bF
                    have c2 : w6.cell? ⟨g, 2, none⟩ = some x2 := (bF.out.cell 2).trans rfl
                    have z2 : w6.frozen? ⟨g, 2, none⟩ = false := by rw [bF.out.frozen]; rfl
                    clear F4
                    go_wp2_with fail
                    clear c2 z2
                    have FQ := Lib.hid (SF.of (bF.out.set 2 (.int .u8 3)))
                    have KQ := Lib.hid ((k3.out.trans k6.out).grown (grown_set w6 g 2 (.int .u8 3)) (Nat.le_trans (Nat.le_trans S2.out.lo S2.out.hi) k6.out.size) (fun k hk => by cases hk; exact S2.out.hB))
                    refine (end_sf B FQ.out (by show x9.1 ≠ 0; rw [word_err h4.out]; decide)).mono ?_
                    rintro e wz ⟨rfl, kz, Fz⟩
                    replace kz := Lib.hid kz
                    replace Fz := Lib.hid Fz
                    go_wp2_with fail
                    rw [Exit.noGoto_normal]
                    go_end0
                    refine ⟨rfl, KQ.out.trans kz.out, ?_⟩
                    have hRR : R = ([], (x9.1, x9.2)) := hE.out.symm.trans (by rw [hdr.out, b34.out]; exact prun_qfull (by rw [b34.out] at HCS; rw [HCS.out]) (by rw [hdr2.out]; show (!stopB x) = false; rw [hx2.out]; rfl) (by have h7 := h4.out; rw [b34.out] at HCS; rw [HCS.out]; exact h7))
                    rw [hRR]
                    exact RunP.err ((by show x9.1 ≠ 0; rw [word_err h4.out]; decide)) Fz.out
              · replace hx : stopB x = false := by simpa using hx
                have hx2 := Lib.hid hx
                as_aux_lemma =>
                  have c0 : wc.cell? ⟨g, 0, none⟩ = some (.string (mk s)) := (S1.out.blk.cell 0).trans rfl
                  have c1 : wc.cell? ⟨g, 1, none⟩ = some (.int .i64 line) := (S1.out.blk.cell 1).trans rfl
                  have z1 : wc.frozen? ⟨g, 1, none⟩ = false := by rw [S1.out.blk.frozen]; rfl
                  have c2 : wc.cell? ⟨g, 2, none⟩ = some (.int .u8 2) := (S1.out.blk.cell 2).trans rfl
                  have z2 : wc.frozen? ⟨g, 2, none⟩ = false := by rw [S1.out.blk.frozen]; rfl
                  go_wp2_with fail
                  refine (stop_any wc x).mono ?_
                  rintro e w2 ⟨rfl, k2⟩
                  have S2 : Hid (SM B g s i _ _ w2) := Lib.hid (S1.out.ext k2)
                  have k3 : Hid (Below B w w2) := Lib.hid (k1.out.trans (k2.mono (Nat.le_trans S1.out.lo S1.out.hi)))
                  clear k2
                  clear c0 c1 c2 z1 z2
                  have c0 : w2.cell? ⟨g, 0, none⟩ = some (.string (mk s)) := (S2.out.blk.cell 0).trans rfl
                  have c1 : w2.cell? ⟨g, 1, none⟩ = some (.int .i64 line) := (S2.out.blk.cell 1).trans rfl
                  have z1 : w2.frozen? ⟨g, 1, none⟩ = false := by rw [S2.out.blk.frozen]; rfl
                  have c2 : w2.cell? ⟨g, 2, none⟩ = some (.int .u8 2) := (S2.out.blk.cell 2).trans rfl
                  have z2 : w2.frozen? ⟨g, 2, none⟩ = false := by rw [S2.out.blk.frozen]; rfl
                  go_wp2_with fail
                  refine (wrong_any (g := g) (ln := line) S2.out.blk).mono ?_
                  rintro e w6 ⟨rfl, g6, b6⟩
                  replace g6 := Lib.hid g6
                  replace b6 := Lib.hid b6
                  clear c0 c1 c2 z1 z2
                  have c2 : w6.cell? ⟨g, 2, none⟩ = some (.int .u8 2) := (b6.out.cell 2).trans rfl
                  have z2 : w6.frozen? ⟨g, 2, none⟩ = false := by rw [b6.out.frozen]; rfl
                  go_wp2_with fail
                  have FQ := Lib.hid (SF.of (b6.out.set 2 (.int .u8 3)))
                  have KQ := Lib.hid ((fun hg => k3.out.trans (S2.out.below hg)) (grown_trans g6.out (grown_set w6 g 2 (.int .u8 3))))
                  refine (end_sf B FQ.out (by show (230 : Int) ≠ 0; decide)).mono ?_
                  rintro e wz ⟨rfl, kz, Fz⟩
                  replace kz := Lib.hid kz
                  replace Fz := Lib.hid Fz
                  go_wp2_with fail
                  rw [Exit.noGoto_normal]
                  go_end0
                  refine ⟨rfl, KQ.out.trans kz.out, ?_⟩
                  have hRR : R = ([], (230, line)) := hE.out.symm.trans (by rw [hdr.out, b34.out, hdr2.out, prun_qbad (by rw [b34.out] at HCS; rw [HCS.out]) hx2.out, HL.out])
                  rw [hRR]
                  exact RunP.err ((by show (230 : Int) ≠ 0; decide)) Fz.out
            · have hj2 : i + 1 = s.length := by omega
              have hdr2 : Hid (s.drop (i + 1) = []) := Lib.hid (List.drop_eq_nil_of_le (by omega))
              have hjS : (s.length : Int) ≤ i + 1 := by omega
              replace hj := Lib.hid hj
              replace hj2 := Lib.hid hj2
              as_aux_lemma =>
                have c0 : wc.cell? ⟨g, 0, none⟩ = some (.string (mk s)) := (S1.out.blk.cell 0).trans rfl
                have c1 : wc.cell? ⟨g, 1, none⟩ = some (.int .i64 line) := (S1.out.blk.cell 1).trans rfl
                have z1 : wc.frozen? ⟨g, 1, none⟩ = false := by rw [S1.out.blk.frozen]; rfl
                have c2 : wc.cell? ⟨g, 2, none⟩ = some (.int .u8 2) := (S1.out.blk.cell 2).trans rfl
                have z2 : wc.frozen? ⟨g, 2, none⟩ = false := by rw [S1.out.blk.frozen]; rfl
                go_wp2_with fail
                refine (word_sm S1.out (.inr rfl) hil hbn.out.words).mono ?_
                rintro e w6 ⟨k6, hoc⟩
                replace k6 := Lib.hid k6
                clear c0 c1 c2 z1 z2
                rcases hoc with ⟨c4, q4, h4, rfl, S4⟩ | ⟨x9, h4, rfl, F4⟩
                · replace h4 := Lib.hid h4
                  replace S4 := Lib.hid S4
                  have hw4 := Lib.hid (word_ok h4.out)
                  have hb4 := Lib.hid (word_bnd hbn.out h4.out)
                  obtain ⟨line4, st4, deep4, cur4, begun4, eline4, blank4, words4, fresh4, out4⟩ := c4
                  obtain ⟨frm4, wa4, wn4, wk4, oa4, on4, oc4, eds4, m4⟩ := q4
                  have c2 : w6.cell? ⟨g, 2, none⟩ = some (.int .u8 st4) := (S4.out.blk.cell 2).trans rfl
                  have z2 : w6.frozen? ⟨g, 2, none⟩ = false := by rw [S4.out.blk.frozen]; rfl
                  go_wp2_with fail
                  clear c2 z2
                  have G7 : Hid (w6.grownBy (w6.setCell ⟨g, 2, none⟩ (.int .u8 3)) (some g)) := Lib.hid (grown_set _ _ _ _)
                  refine ⟨⟨i + 1, ⟨line4, 3, deep4, cur4, begun4, eline4, blank4, words4, fresh4, out4⟩, ⟨frm4, wa4, wn4, wk4, oa4, on4, oc4, eds4, m4⟩, by push_cast; rfl, Lib.hid ⟨SM.upd (f := frm4) S4.out G7.out (S4.out.blk.set 2 _) rfl rfl (fun h => by rcases h with h | h <;> cases h), (k1.out.trans k6.out).trans (S4.out.below G7.out), by have := hlt1.out; omega, ⟨by simp, hb4.out.words, Nat.le_trans hb4.out.deep (by omega), hb4.out.lo, by have := hb4.out.hi; dsimp only at this ⊢; push_cast; omega, Nat.le_trans hb4.out.out (by omega)⟩, ?_⟩⟩, ?_⟩
                  · have hE0 := hE.out; rw [hdr.out, b34.out, prun_qok (by rw [b34.out] at HCS; rw [HCS.out]) (by rw [hdr2.out]; rfl) (by have h7 := h4.out; rw [b34.out] at HCS; rw [HCS.out]; exact h7)] at hE0; exact hE0
                  · simp only [intOf]; have := hlt1.out; omega
                · replace h4 := Lib.hid h4
                  obtain ⟨x0, x1, x2, x3, x4, x5, x6, x7, x8, x90, x10, bF⟩ := F4.blk
                  replace bF := Lib.hid bF
                  have c2 : w6.cell? ⟨g, 2, none⟩ = some x2 := (bF.out.cell 2).trans rfl
                  have z2 : w6.frozen? ⟨g, 2, none⟩ = false := by rw [bF.out.frozen]; rfl
                  clear F4
                  go_wp2_with fail
                  clear c2 z2
                  have FQ := Lib.hid (SF.of (bF.out.set 2 (.int .u8 3)))
                  have KQ := Lib.hid ((k1.out.trans k6.out).grown (grown_set w6 g 2 (.int .u8 3)) (Nat.le_trans (Nat.le_trans S1.out.lo S1.out.hi) k6.out.size) (fun k hk => by cases hk; exact S1.out.hB))
                  refine (end_sf B FQ.out (by show x9.1 ≠ 0; rw [word_err h4.out]; decide)).mono ?_
                  rintro e wz ⟨rfl, kz, Fz⟩
                  replace kz := Lib.hid kz
                  replace Fz := Lib.hid Fz
                  go_wp2_with fail
                  rw [Exit.noGoto_normal]
                  go_end0
                  refine ⟨rfl, KQ.out.trans kz.out, ?_⟩
                  have hRR : R = ([], (x9.1, x9.2)) := hE.out.symm.trans (by rw [hdr.out, b34.out]; exact prun_qfull (by rw [b34.out] at HCS; rw [HCS.out]) (by rw [hdr2.out]; rfl) (by have h7 := h4.out; rw [b34.out] at HCS; rw [HCS.out]; exact h7))
                  rw [hRR]
                  exact RunP.err ((by show x9.1 ≠ 0; rw [word_err h4.out]; decide)) Fz.out
          · skip
            have e34 : ((b.toNat : Int) == 34) = false := u8_ne (k := 34) b34
            replace b34 := Lib.hid b34
            by_cases b10 : b = 10
            · skip
              have e10 : ((b.toNat : Int) == 10) = true := u8_beq (k := 10) b10 (by decide)
              replace b10 := Lib.hid b10
              as_aux_lemma =>
                have c0 : wc.cell? ⟨g, 0, none⟩ = some (.string (mk s)) := (S1.out.blk.cell 0).trans rfl
                have c1 : wc.cell? ⟨g, 1, none⟩ = some (.int .i64 line) := (S1.out.blk.cell 1).trans rfl
                have z1 : wc.frozen? ⟨g, 1, none⟩ = false := by rw [S1.out.blk.frozen]; rfl
                have c2 : wc.cell? ⟨g, 2, none⟩ = some (.int .u8 2) := (S1.out.blk.cell 2).trans rfl
                have z2 : wc.frozen? ⟨g, 2, none⟩ = false := by rw [S1.out.blk.frozen]; rfl
                go_wp2_with fail
                refine (wrong_any (g := g) (ln := line) S1.out.blk).mono ?_
                rintro e w6 ⟨rfl, g6, b6⟩
                replace g6 := Lib.hid g6
                replace b6 := Lib.hid b6
                clear c0 c1 c2 z1 z2
                go_wp2_with fail
                have FQ := Lib.hid (SF.of b6.out)
                have KQ := Lib.hid ((fun hg => k1.out.trans (S1.out.below hg)) g6.out)
                refine (end_sf B FQ.out (by show (230 : Int) ≠ 0; decide)).mono ?_
                rintro e wz ⟨rfl, kz, Fz⟩
                replace kz := Lib.hid kz
                replace Fz := Lib.hid Fz
                go_wp2_with fail
                rw [Exit.noGoto_normal]
                go_end0
                refine ⟨rfl, KQ.out.trans kz.out, ?_⟩
                have hRR : R = ([], (230, line)) := hE.out.symm.trans (by rw [hdr.out, b10.out, prun_qnl (by rw [b10.out] at HCS; rw [HCS.out]), HL.out])
                rw [hRR]
                exact RunP.err ((by show (230 : Int) ≠ 0; decide)) Fz.out
            · skip
              have e10 : ((b.toNat : Int) == 10) = false := u8_ne (k := 10) b10
              replace b10 := Lib.hid b10
              by_cases b92 : b = 92
              · skip
                have e92 : ((b.toNat : Int) == 92) = true := u8_beq (k := 92) b92 (by decide)
                replace b92 := Lib.hid b92
                by_cases hj : i + 1 < s.length
                · obtain ⟨x, hbx⟩ : ∃ x, s[i + 1] = x := ⟨_, rfl⟩
                  have hdr2 : Hid (s.drop (i + 1) = x :: s.drop (i + 2)) := Lib.hid (by rw [List.drop_eq_getElem_cons hj, hbx])
                  have hjI : (i : Int) + 1 < s.length := by omega
                  have hjE : ((i : Int) + 1 == s.length) = false := by rw [beq_eq_false_iff_ne]; omega
                  have hj1 := Lib.hid hj
                  have hbx2 := Lib.hid hbx
                  by_cases x10 : x = 10
                  · have ex : ((x.toNat : Int) == 10) = true := u8_beq (k := 10) x10 (by decide)
                    replace x10 := Lib.hid x10
                    as_aux_lemma =>
                      have c0 : wc.cell? ⟨g, 0, none⟩ = some (.string (mk s)) := (S1.out.blk.cell 0).trans rfl
                      have c1 : wc.cell? ⟨g, 1, none⟩ = some (.int .i64 line) := (S1.out.blk.cell 1).trans rfl
                      have z1 : wc.frozen? ⟨g, 1, none⟩ = false := by rw [S1.out.blk.frozen]; rfl
                      have c2 : wc.cell? ⟨g, 2, none⟩ = some (.int .u8 2) := (S1.out.blk.cell 2).trans rfl
                      have z2 : wc.frozen? ⟨g, 2, none⟩ = false := by rw [S1.out.blk.frozen]; rfl
                      go_wp2_with fail
                      refine (wrong_any (g := g) (ln := line) S1.out.blk).mono ?_
                      rintro e w6 ⟨rfl, g6, b6⟩
                      replace g6 := Lib.hid g6
                      replace b6 := Lib.hid b6
                      clear c0 c1 c2 z1 z2
                      go_wp2_with fail
                      have FQ := Lib.hid (SF.of b6.out)
                      have KQ := Lib.hid ((fun hg => k1.out.trans (S1.out.below hg)) g6.out)
                      refine (end_sf B FQ.out (by show (230 : Int) ≠ 0; decide)).mono ?_
                      rintro e wz ⟨rfl, kz, Fz⟩
                      replace kz := Lib.hid kz
                      replace Fz := Lib.hid Fz
                      go_wp2_with fail
                      rw [Exit.noGoto_normal]
                      go_end0
                      refine ⟨rfl, KQ.out.trans kz.out, ?_⟩
                      have hRR : R = ([], (230, line)) := hE.out.symm.trans (by rw [hdr.out, b92.out, hdr2.out, x10.out, prun_qbsn (by rw [b92.out] at HCS; rw [HCS.out]), HL.out])
                      rw [hRR]
                      exact RunP.err ((by show (230 : Int) ≠ 0; decide)) Fz.out
                  · have ex : ((x.toNat : Int) == 10) = false := u8_ne (k := 10) x10
                    replace x10 := Lib.hid x10
                    as_aux_lemma =>
                      have c0 : wc.cell? ⟨g, 0, none⟩ = some (.string (mk s)) := (S1.out.blk.cell 0).trans rfl
                      have c1 : wc.cell? ⟨g, 1, none⟩ = some (.int .i64 line) := (S1.out.blk.cell 1).trans rfl
                      have z1 : wc.frozen? ⟨g, 1, none⟩ = false := by rw [S1.out.blk.frozen]; rfl
                      have c2 : wc.cell? ⟨g, 2, none⟩ = some (.int .u8 2) := (S1.out.blk.cell 2).trans rfl
                      have z2 : wc.frozen? ⟨g, 2, none⟩ = false := by rw [S1.out.blk.frozen]; rfl
                      go_wp2_with fail
                      clear c0 c1 c2 z1 z2
                      refine ⟨⟨i + 2, ⟨line, 2, deep, cur ++ [92, x], begun, eline, blank, words, fresh, out⟩, ⟨frm, wa, wn, wk, oa, on, oc, eds, m⟩, by push_cast; rfl, Lib.hid ⟨S1.out.more rfl rfl rfl (fun _ => ⟨Nat.le_trans HF.out.1 (by omega), by have h8 := HF.out.2; have h9 := HF.out.1; dsimp only at h8 h9 ⊢; rw [cur_two h9 hj, hbb.out, hbx2.out, b92.out, ← h8]⟩), k1.out, by have := hlt1.out; omega, ⟨by simp, hbn.out.words, Nat.le_trans hbn.out.deep (by omega), hline, by have := hline2; push_cast; omega, Nat.le_trans hbn.out.out (by omega)⟩, ?_⟩⟩, ?_⟩
                      · have hE0 := hE.out; rw [hdr.out, b92.out, hdr2.out, prun_qbs (by rw [b92.out] at HCS; rw [HCS.out]) x10.out] at hE0; rw [← hE0]; rw [b92.out] at HCS; rw [HCS.out, HC.out]
                      · simp only [intOf]; have := hlt1.out; omega
                · have hj2 : i + 1 = s.length := by omega
                  have hdr2 : Hid (s.drop (i + 1) = []) := Lib.hid (List.drop_eq_nil_of_le (by omega))
                  have hjE : ((i : Int) + 1 == s.length) = true := by rw [beq_iff_eq]; omega
                  have hjS : (s.length : Int) ≤ i + 1 := by omega
                  replace hj := Lib.hid hj
                  replace hj2 := Lib.hid hj2
                  as_aux_lemma =>
                    have c0 : wc.cell? ⟨g, 0, none⟩ = some (.string (mk s)) := (S1.out.blk.cell 0).trans rfl
                    have c1 : wc.cell? ⟨g, 1, none⟩ = some (.int .i64 line) := (S1.out.blk.cell 1).trans rfl
                    have z1 : wc.frozen? ⟨g, 1, none⟩ = false := by rw [S1.out.blk.frozen]; rfl
                    have c2 : wc.cell? ⟨g, 2, none⟩ = some (.int .u8 2) := (S1.out.blk.cell 2).trans rfl
                    have z2 : wc.frozen? ⟨g, 2, none⟩ = false := by rw [S1.out.blk.frozen]; rfl
                    go_wp2_with fail
                    refine (lines_any wc s (by omega)).mono ?_
                    rintro e w5 ⟨rfl, k5⟩
                    have S5 : Hid (SM B g s _ _ _ w5) := Lib.hid (S1.out.ext k5)
                    have k6 : Hid (Below B w w5) := Lib.hid (k1.out.trans (k5.mono (Nat.le_trans S1.out.lo S1.out.hi)))
                    clear k5
                    clear c0 c1 c2 z1 z2
                    have c1 : w5.cell? ⟨g, 1, none⟩ = some (.int .i64 line) := (S5.out.blk.cell 1).trans rfl
                    have z1 : w5.frozen? ⟨g, 1, none⟩ = false := by rw [S5.out.blk.frozen]; rfl
                    go_wp2_with fail
                    obtain ⟨Y, hY⟩ : ∃ Y, w5.setCell ⟨g, 1, none⟩ (.int .i64 (linesOf s)) = Y := ⟨_, rfl⟩
                    rw [hY]
                    have GY : Hid (w5.grownBy Y (some g)) := Lib.hid (by rw [← hY]; exact grown_set _ _ _ _)
                    have BY := Lib.hid (S5.out.blk.set 1 (.int .i64 (linesOf s)))
                    rw [hY] at BY
                    clear hY c1 z1
                    refine (wrong_any (g := g) (ln := linesOf s) BY.out).mono ?_
                    rintro e w6 ⟨rfl, g6, b6⟩
                    replace g6 := Lib.hid g6
                    replace b6 := Lib.hid b6
                    go_wp2_with fail
                    have FQ := Lib.hid (SF.of b6.out)
                    have KQ := Lib.hid ((fun hg => k6.out.trans (S5.out.below (grown_trans GY.out hg))) g6.out)
                    refine (end_sf B FQ.out (by show (230 : Int) ≠ 0; decide)).mono ?_
                    rintro e wz ⟨rfl, kz, Fz⟩
                    replace kz := Lib.hid kz
                    replace Fz := Lib.hid Fz
                    go_wp2_with fail
                    rw [Exit.noGoto_normal]
                    go_end0
                    refine ⟨rfl, KQ.out.trans kz.out, ?_⟩
                    have hRR : R = ([], (230, linesOf s)) := hE.out.symm.trans (by rw [hdr.out, b92.out, hdr2.out, prun_qbs0 (by rw [b92.out] at HCS; rw [HCS.out])])
                    rw [hRR]
                    exact RunP.err ((by show (230 : Int) ≠ 0; decide)) Fz.out
              · skip
                have e92 : ((b.toNat : Int) == 92) = false := u8_ne (k := 92) b92
                replace b92 := Lib.hid b92
                as_aux_lemma =>
                  have c0 : wc.cell? ⟨g, 0, none⟩ = some (.string (mk s)) := (S1.out.blk.cell 0).trans rfl
                  have c1 : wc.cell? ⟨g, 1, none⟩ = some (.int .i64 line) := (S1.out.blk.cell 1).trans rfl
                  have z1 : wc.frozen? ⟨g, 1, none⟩ = false := by rw [S1.out.blk.frozen]; rfl
                  have c2 : wc.cell? ⟨g, 2, none⟩ = some (.int .u8 2) := (S1.out.blk.cell 2).trans rfl
                  have z2 : wc.frozen? ⟨g, 2, none⟩ = false := by rw [S1.out.blk.frozen]; rfl
                  go_wp2_with fail
                  clear c0 c1 c2 z1 z2
                  refine ⟨⟨i + 1, ⟨line, 2, deep, cur ++ [b], begun, eline, blank, words, fresh, out⟩, ⟨frm, wa, wn, wk, oa, on, oc, eds, m⟩, by push_cast; rfl, Lib.hid ⟨S1.out.more rfl rfl rfl (fun _ => ⟨Nat.le_trans HF.out.1 (by omega), by have h8 := HF.out.2; have h9 := HF.out.1; dsimp only at h8 h9 ⊢; rw [cur_one h9 hlt1.out, hbb.out, ← h8]⟩), k1.out, by have := hlt1.out; omega, ⟨by simp, hbn.out.words, Nat.le_trans hbn.out.deep (by omega), hline, by have := hline2; push_cast; omega, Nat.le_trans hbn.out.out (by omega)⟩, ?_⟩⟩, ?_⟩
                  · have hE0 := hE.out; rw [hdr.out, prun_q (by rw [HCS.out]) b34.out b10.out b92.out] at hE0; rw [← hE0]; rw [HCS.out, HC.out]
                  · simp only [intOf]; have := hlt1.out; omega
        · by_cases hs : stopB b = true
          · have hsb := Lib.hid hs
            as_aux_lemma =>
              have c0 : wc.cell? ⟨g, 0, none⟩ = some (.string (mk s)) := (S1.out.blk.cell 0).trans rfl
              have c2 : wc.cell? ⟨g, 2, none⟩ = some (.int .u8 3) := (S1.out.blk.cell 2).trans rfl
              have z2 : wc.frozen? ⟨g, 2, none⟩ = false := by rw [S1.out.blk.frozen]; rfl
              go_wp2_with fail
              refine (stop_any wc b).mono ?_
              rintro e w2 ⟨rfl, k2⟩
              have S2 : Hid (SM B g s i _ _ w2) := Lib.hid (S1.out.ext k2)
              have k3 : Hid (Below B w w2) := Lib.hid (k1.out.trans (k2.mono (Nat.le_trans S1.out.lo S1.out.hi)))
              clear k2
              clear c0 c2 z2
              have c0 : w2.cell? ⟨g, 0, none⟩ = some (.string (mk s)) := (S2.out.blk.cell 0).trans rfl
              have c2 : w2.cell? ⟨g, 2, none⟩ = some (.int .u8 3) := (S2.out.blk.cell 2).trans rfl
              have z2 : w2.frozen? ⟨g, 2, none⟩ = false := by rw [S2.out.blk.frozen]; rfl
              go_wp2_with fail
              refine (ends_sm b S2.out (.inr (.inr (.inl rfl))) hil hbn.out.words hline (Int.le_trans hline2 (by omega)) (Nat.le_trans hbn.out.deep (by omega)) (Nat.le_trans hbn.out.out (by omega))).mono ?_
              rintro e w4 ⟨k4, hoc⟩
              replace k4 := Lib.hid k4
              clear c0 c2 z2
              rcases hoc with ⟨c4, q4, h4, rfl, S4⟩ | ⟨x, h4, rfl, F4⟩
              · replace h4 := Lib.hid h4
                replace S4 := Lib.hid S4
                go_wp2_with fail
                have hbe := ends_bnd hbn.out h4.out
                refine ⟨⟨i + 1, c4, q4, by push_cast; rfl, Lib.hid ⟨S4.out.place (by rcases hbe.2 with h | h <;> simp [h]), k3.out.trans k4.out, by have := hlt1.out; omega, hbe.1, ?_⟩⟩, ?_⟩
                · have hE0 := hE.out; rw [hdr.out] at hE0; rw [← hE0]; exact (prun_stop (by rw [HCS.out]; simp) (by rw [HCS.out]; simp) hsb.out (by rw [HCS.out]; exact h4.out)).symm
                · simp only [intOf]; have := hlt1.out; omega
              · replace h4 := Lib.hid h4
                replace F4 := Lib.hid F4
                go_wp2_with fail
                have FQ := Lib.hid (F4.out)
                have KQ := Lib.hid (k3.out.trans k4.out)
                refine (end_sf B FQ.out (ends_err h4.out)).mono ?_
                rintro e wz ⟨rfl, kz, Fz⟩
                replace kz := Lib.hid kz
                replace Fz := Lib.hid Fz
                go_wp2_with fail
                rw [Exit.noGoto_normal]
                go_end0
                refine ⟨rfl, KQ.out.trans kz.out, ?_⟩
                have hRR : R = ([], x) := hE.out.symm.trans (by rw [hdr.out]; exact prun_stopx (by rw [HCS.out]; simp) (by rw [HCS.out]; simp) hsb.out (by rw [HCS.out]; exact h4.out))
                rw [hRR]
                exact RunP.err ((ends_err h4.out)) Fz.out
          · replace hs : stopB b = false := by simpa using hs
            have hsb := Lib.hid hs
            by_cases b34 : b = 34
            · skip
              have e34 : ((b.toNat : Int) == 34) = true := u8_beq (k := 34) b34 (by decide)
              replace b34 := Lib.hid b34
              as_aux_lemma =>
                have c0 : wc.cell? ⟨g, 0, none⟩ = some (.string (mk s)) := (S1.out.blk.cell 0).trans rfl
                have c1 : wc.cell? ⟨g, 1, none⟩ = some (.int .i64 line) := (S1.out.blk.cell 1).trans rfl
                have z1 : wc.frozen? ⟨g, 1, none⟩ = false := by rw [S1.out.blk.frozen]; rfl
                have c2 : wc.cell? ⟨g, 2, none⟩ = some (.int .u8 3) := (S1.out.blk.cell 2).trans rfl
                have z2 : wc.frozen? ⟨g, 2, none⟩ = false := by rw [S1.out.blk.frozen]; rfl
                have c4 : wc.cell? ⟨g, 4, none⟩ = some (.int .i64 frm) := (S1.out.blk.cell 4).trans rfl
                have z4 : wc.frozen? ⟨g, 4, none⟩ = false := by rw [S1.out.blk.frozen]; rfl
                have c5 : wc.cell? ⟨g, 5, none⟩ = some (.int .i64 begun) := (S1.out.blk.cell 5).trans rfl
                have z5 : wc.frozen? ⟨g, 5, none⟩ = false := by rw [S1.out.blk.frozen]; rfl
                go_wp2_with fail
                refine (stop_any wc b).mono ?_
                rintro e w2 ⟨rfl, k2⟩
                have S2 : Hid (SM B g s i _ _ w2) := Lib.hid (S1.out.ext k2)
                have k3 : Hid (Below B w w2) := Lib.hid (k1.out.trans (k2.mono (Nat.le_trans S1.out.lo S1.out.hi)))
                clear k2
                clear c0 c1 c2 c4 c5 z1 z2 z4 z5
                have c0 : w2.cell? ⟨g, 0, none⟩ = some (.string (mk s)) := (S2.out.blk.cell 0).trans rfl
                have c1 : w2.cell? ⟨g, 1, none⟩ = some (.int .i64 line) := (S2.out.blk.cell 1).trans rfl
                have z1 : w2.frozen? ⟨g, 1, none⟩ = false := by rw [S2.out.blk.frozen]; rfl
                have c2 : w2.cell? ⟨g, 2, none⟩ = some (.int .u8 3) := (S2.out.blk.cell 2).trans rfl
                have z2 : w2.frozen? ⟨g, 2, none⟩ = false := by rw [S2.out.blk.frozen]; rfl
                have c4 : w2.cell? ⟨g, 4, none⟩ = some (.int .i64 frm) := (S2.out.blk.cell 4).trans rfl
                have z4 : w2.frozen? ⟨g, 4, none⟩ = false := by rw [S2.out.blk.frozen]; rfl
                have c5 : w2.cell? ⟨g, 5, none⟩ = some (.int .i64 begun) := (S2.out.blk.cell 5).trans rfl
                have z5 : w2.frozen? ⟨g, 5, none⟩ = false := by rw [S2.out.blk.frozen]; rfl
                go_wp2_with fail
                clear c0 c1 c2 c4 c5 z1 z2 z4 z5
                have G7 : Hid (w2.grownBy (((w2.setCell ⟨g, 2, none⟩ (.int .u8 2)).setCell ⟨g, 4, none⟩ (.int .i64 ((i : Int) + 1))).setCell ⟨g, 5, none⟩ (.int .i64 line)) (some g)) := Lib.hid (grown_trans (grown_trans (grown_set _ _ _ _) (grown_set _ _ _ _)) (grown_set _ _ _ _))
                refine ⟨⟨i + 1, ⟨line, 2, deep, [], line, eline, blank, words, fresh, out⟩, ⟨i + 1, wa, wn, wk, oa, on, oc, eds, m⟩, by push_cast; rfl, Lib.hid ⟨SM.upd (f := i + 1) S2.out G7.out (((S2.out.blk.set 2 _).set 4 _).set 5 _) rfl rfl (fun _ => ⟨Nat.le_refl _, (cur_none s (i + 1)).symm⟩), k3.out.trans (S2.out.below G7.out), by have := hlt1.out; omega, ⟨by simp, hbn.out.words, Nat.le_trans hbn.out.deep (by omega), hline, by have := hline2; push_cast; omega, Nat.le_trans hbn.out.out (by omega)⟩, ?_⟩⟩, ?_⟩
                · have hE0 := hE.out; rw [hdr.out, b34.out, prun_open (by rw [b34.out] at HCS; rw [HCS.out]; simp) (by rw [b34.out] at HCS; rw [HCS.out]; simp) (by rw [b34.out] at HCS; rw [HCS.out]; simp)] at hE0; rw [← hE0]; rw [b34.out] at HCS; rw [HCS.out, ← HL.out]
                · simp only [intOf]; have := hlt1.out; omega
            · skip
              have e34 : ((b.toNat : Int) == 34) = false := u8_ne (k := 34) b34
              replace b34 := Lib.hid b34
              by_cases b92 : b = 92
              · skip
                have e92 : ((b.toNat : Int) == 92) = true := u8_beq (k := 92) b92 (by decide)
                replace b92 := Lib.hid b92
                by_cases hj : i + 1 < s.length
                · obtain ⟨x, hbx⟩ : ∃ x, s[i + 1] = x := ⟨_, rfl⟩
                  have hdr2 : Hid (s.drop (i + 1) = x :: s.drop (i + 2)) := Lib.hid (by rw [List.drop_eq_getElem_cons hj, hbx])
                  have hjI : (i : Int) + 1 < s.length := by omega
                  have hjE : ((i : Int) + 1 == s.length) = false := by rw [beq_eq_false_iff_ne]; omega
                  have hj1 := Lib.hid hj
                  have hbx2 := Lib.hid hbx
                  by_cases x10 : x = 10
                  · have ex : ((x.toNat : Int) == 10) = true := u8_beq (k := 10) x10 (by decide)
                    replace x10 := Lib.hid x10
                    as_aux_lemma =>
                      have c0 : wc.cell? ⟨g, 0, none⟩ = some (.string (mk s)) := (S1.out.blk.cell 0).trans rfl
                      have c1 : wc.cell? ⟨g, 1, none⟩ = some (.int .i64 line) := (S1.out.blk.cell 1).trans rfl
                      have z1 : wc.frozen? ⟨g, 1, none⟩ = false := by rw [S1.out.blk.frozen]; rfl
                      have c2 : wc.cell? ⟨g, 2, none⟩ = some (.int .u8 3) := (S1.out.blk.cell 2).trans rfl
                      have z2 : wc.frozen? ⟨g, 2, none⟩ = false := by rw [S1.out.blk.frozen]; rfl
                      have c4 : wc.cell? ⟨g, 4, none⟩ = some (.int .i64 frm) := (S1.out.blk.cell 4).trans rfl
                      have z4 : wc.frozen? ⟨g, 4, none⟩ = false := by rw [S1.out.blk.frozen]; rfl
                      have c5 : wc.cell? ⟨g, 5, none⟩ = some (.int .i64 begun) := (S1.out.blk.cell 5).trans rfl
                      have z5 : wc.frozen? ⟨g, 5, none⟩ = false := by rw [S1.out.blk.frozen]; rfl
                      go_wp2_with fail
                      refine (stop_any wc b).mono ?_
                      rintro e w2 ⟨rfl, k2⟩
                      have S2 : Hid (SM B g s i _ _ w2) := Lib.hid (S1.out.ext k2)
                      have k3 : Hid (Below B w w2) := Lib.hid (k1.out.trans (k2.mono (Nat.le_trans S1.out.lo S1.out.hi)))
                      clear k2
                      clear c0 c1 c2 c4 c5 z1 z2 z4 z5
                      have c0 : w2.cell? ⟨g, 0, none⟩ = some (.string (mk s)) := (S2.out.blk.cell 0).trans rfl
                      have c1 : w2.cell? ⟨g, 1, none⟩ = some (.int .i64 line) := (S2.out.blk.cell 1).trans rfl
                      have z1 : w2.frozen? ⟨g, 1, none⟩ = false := by rw [S2.out.blk.frozen]; rfl
                      have c2 : w2.cell? ⟨g, 2, none⟩ = some (.int .u8 3) := (S2.out.blk.cell 2).trans rfl
                      have z2 : w2.frozen? ⟨g, 2, none⟩ = false := by rw [S2.out.blk.frozen]; rfl
                      have c4 : w2.cell? ⟨g, 4, none⟩ = some (.int .i64 frm) := (S2.out.blk.cell 4).trans rfl
                      have z4 : w2.frozen? ⟨g, 4, none⟩ = false := by rw [S2.out.blk.frozen]; rfl
                      have c5 : w2.cell? ⟨g, 5, none⟩ = some (.int .i64 begun) := (S2.out.blk.cell 5).trans rfl
                      have z5 : w2.frozen? ⟨g, 5, none⟩ = false := by rw [S2.out.blk.frozen]; rfl
                      go_wp2_with fail
                      refine (wrong_any (g := g) (ln := line) S2.out.blk).mono ?_
                      rintro e w6 ⟨rfl, g6, b6⟩
                      replace g6 := Lib.hid g6
                      replace b6 := Lib.hid b6
                      clear c0 c1 c2 c4 c5 z1 z2 z4 z5
                      go_wp2_with fail
                      have FQ := Lib.hid (SF.of b6.out)
                      have KQ := Lib.hid ((fun hg => k3.out.trans (S2.out.below hg)) g6.out)
                      refine (end_sf B FQ.out (by show (230 : Int) ≠ 0; decide)).mono ?_
                      rintro e wz ⟨rfl, kz, Fz⟩
                      replace kz := Lib.hid kz
                      replace Fz := Lib.hid Fz
                      go_wp2_with fail
                      rw [Exit.noGoto_normal]
                      go_end0
                      refine ⟨rfl, KQ.out.trans kz.out, ?_⟩
                      have hRR : R = ([], (230, line)) := hE.out.symm.trans (by rw [hdr.out, b92.out, hdr2.out, x10.out, prun_bsn (by rw [b92.out] at HCS; rw [HCS.out]; simp) (by rw [b92.out] at HCS; rw [HCS.out]; simp), HL.out])
                      rw [hRR]
                      exact RunP.err ((by show (230 : Int) ≠ 0; decide)) Fz.out
                  · have ex : ((x.toNat : Int) == 10) = false := u8_ne (k := 10) x10
                    replace x10 := Lib.hid x10
                    as_aux_lemma =>
                      have c0 : wc.cell? ⟨g, 0, none⟩ = some (.string (mk s)) := (S1.out.blk.cell 0).trans rfl
                      have c1 : wc.cell? ⟨g, 1, none⟩ = some (.int .i64 line) := (S1.out.blk.cell 1).trans rfl
                      have z1 : wc.frozen? ⟨g, 1, none⟩ = false := by rw [S1.out.blk.frozen]; rfl
                      have c2 : wc.cell? ⟨g, 2, none⟩ = some (.int .u8 3) := (S1.out.blk.cell 2).trans rfl
                      have z2 : wc.frozen? ⟨g, 2, none⟩ = false := by rw [S1.out.blk.frozen]; rfl
                      have c4 : wc.cell? ⟨g, 4, none⟩ = some (.int .i64 frm) := (S1.out.blk.cell 4).trans rfl
                      have z4 : wc.frozen? ⟨g, 4, none⟩ = false := by rw [S1.out.blk.frozen]; rfl
                      have c5 : wc.cell? ⟨g, 5, none⟩ = some (.int .i64 begun) := (S1.out.blk.cell 5).trans rfl
                      have z5 : wc.frozen? ⟨g, 5, none⟩ = false := by rw [S1.out.blk.frozen]; rfl
                      go_wp2_with fail
                      refine (stop_any wc b).mono ?_
                      rintro e w2 ⟨rfl, k2⟩
                      have S2 : Hid (SM B g s i _ _ w2) := Lib.hid (S1.out.ext k2)
                      have k3 : Hid (Below B w w2) := Lib.hid (k1.out.trans (k2.mono (Nat.le_trans S1.out.lo S1.out.hi)))
                      clear k2
                      clear c0 c1 c2 c4 c5 z1 z2 z4 z5
                      have c0 : w2.cell? ⟨g, 0, none⟩ = some (.string (mk s)) := (S2.out.blk.cell 0).trans rfl
                      have c1 : w2.cell? ⟨g, 1, none⟩ = some (.int .i64 line) := (S2.out.blk.cell 1).trans rfl
                      have z1 : w2.frozen? ⟨g, 1, none⟩ = false := by rw [S2.out.blk.frozen]; rfl
                      have c2 : w2.cell? ⟨g, 2, none⟩ = some (.int .u8 3) := (S2.out.blk.cell 2).trans rfl
                      have z2 : w2.frozen? ⟨g, 2, none⟩ = false := by rw [S2.out.blk.frozen]; rfl
                      have c4 : w2.cell? ⟨g, 4, none⟩ = some (.int .i64 frm) := (S2.out.blk.cell 4).trans rfl
                      have z4 : w2.frozen? ⟨g, 4, none⟩ = false := by rw [S2.out.blk.frozen]; rfl
                      have c5 : w2.cell? ⟨g, 5, none⟩ = some (.int .i64 begun) := (S2.out.blk.cell 5).trans rfl
                      have z5 : w2.frozen? ⟨g, 5, none⟩ = false := by rw [S2.out.blk.frozen]; rfl
                      go_wp2_with fail
                      clear c0 c1 c2 c4 c5 z1 z2 z4 z5
                      refine ⟨⟨i + 2, ⟨line, 3, deep, cur ++ [92, x], begun, eline, blank, words, fresh, out⟩, ⟨frm, wa, wn, wk, oa, on, oc, eds, m⟩, by push_cast; rfl, Lib.hid ⟨S2.out.more rfl rfl rfl (fun h => by rcases h with h | h <;> cases h), k3.out, by have := hlt1.out; omega, ⟨by simp, hbn.out.words, Nat.le_trans hbn.out.deep (by omega), hline, by have := hline2; push_cast; omega, Nat.le_trans hbn.out.out (by omega)⟩, ?_⟩⟩, ?_⟩
                      · have hE0 := hE.out; rw [hdr.out, b92.out, hdr2.out, prun_bs (by rw [b92.out] at HCS; rw [HCS.out]; simp) (by rw [b92.out] at HCS; rw [HCS.out]; simp) x10.out] at hE0; rw [← hE0]; rw [b92.out] at HCS; rw [HCS.out]; rfl
                      · simp only [intOf]; have := hlt1.out; omega
                · have hj2 : i + 1 = s.length := by omega
                  have hdr2 : Hid (s.drop (i + 1) = []) := Lib.hid (List.drop_eq_nil_of_le (by omega))
                  have hjE : ((i : Int) + 1 == s.length) = true := by rw [beq_iff_eq]; omega
                  have hjS : (s.length : Int) ≤ i + 1 := by omega
                  replace hj := Lib.hid hj
                  replace hj2 := Lib.hid hj2
                  as_aux_lemma =>
                    have c0 : wc.cell? ⟨g, 0, none⟩ = some (.string (mk s)) := (S1.out.blk.cell 0).trans rfl
                    have c1 : wc.cell? ⟨g, 1, none⟩ = some (.int .i64 line) := (S1.out.blk.cell 1).trans rfl
                    have z1 : wc.frozen? ⟨g, 1, none⟩ = false := by rw [S1.out.blk.frozen]; rfl
                    have c2 : wc.cell? ⟨g, 2, none⟩ = some (.int .u8 3) := (S1.out.blk.cell 2).trans rfl
                    have z2 : wc.frozen? ⟨g, 2, none⟩ = false := by rw [S1.out.blk.frozen]; rfl
                    have c4 : wc.cell? ⟨g, 4, none⟩ = some (.int .i64 frm) := (S1.out.blk.cell 4).trans rfl
                    have z4 : wc.frozen? ⟨g, 4, none⟩ = false := by rw [S1.out.blk.frozen]; rfl
                    have c5 : wc.cell? ⟨g, 5, none⟩ = some (.int .i64 begun) := (S1.out.blk.cell 5).trans rfl
                    have z5 : wc.frozen? ⟨g, 5, none⟩ = false := by rw [S1.out.blk.frozen]; rfl
                    go_wp2_with fail
                    refine (stop_any wc b).mono ?_
                    rintro e w2 ⟨rfl, k2⟩
                    have S2 : Hid (SM B g s i _ _ w2) := Lib.hid (S1.out.ext k2)
                    have k3 : Hid (Below B w w2) := Lib.hid (k1.out.trans (k2.mono (Nat.le_trans S1.out.lo S1.out.hi)))
                    clear k2
                    clear c0 c1 c2 c4 c5 z1 z2 z4 z5
                    have c0 : w2.cell? ⟨g, 0, none⟩ = some (.string (mk s)) := (S2.out.blk.cell 0).trans rfl
                    have c1 : w2.cell? ⟨g, 1, none⟩ = some (.int .i64 line) := (S2.out.blk.cell 1).trans rfl
                    have z1 : w2.frozen? ⟨g, 1, none⟩ = false := by rw [S2.out.blk.frozen]; rfl
                    have c2 : w2.cell? ⟨g, 2, none⟩ = some (.int .u8 3) := (S2.out.blk.cell 2).trans rfl
                    have z2 : w2.frozen? ⟨g, 2, none⟩ = false := by rw [S2.out.blk.frozen]; rfl
                    have c4 : w2.cell? ⟨g, 4, none⟩ = some (.int .i64 frm) := (S2.out.blk.cell 4).trans rfl
                    have z4 : w2.frozen? ⟨g, 4, none⟩ = false := by rw [S2.out.blk.frozen]; rfl
                    have c5 : w2.cell? ⟨g, 5, none⟩ = some (.int .i64 begun) := (S2.out.blk.cell 5).trans rfl
                    have z5 : w2.frozen? ⟨g, 5, none⟩ = false := by rw [S2.out.blk.frozen]; rfl
                    go_wp2_with fail
                    refine (lines_any w2 s (by omega)).mono ?_
                    rintro e w5 ⟨rfl, k5⟩
                    have S5 : Hid (SM B g s _ _ _ w5) := Lib.hid (S2.out.ext k5)
                    have k6 : Hid (Below B w w5) := Lib.hid (k3.out.trans (k5.mono (Nat.le_trans S2.out.lo S2.out.hi)))
                    clear k5
                    clear c0 c1 c2 c4 c5 z1 z2 z4 z5
                    have c1 : w5.cell? ⟨g, 1, none⟩ = some (.int .i64 line) := (S5.out.blk.cell 1).trans rfl
                    have z1 : w5.frozen? ⟨g, 1, none⟩ = false := by rw [S5.out.blk.frozen]; rfl
                    go_wp2_with fail
                    obtain ⟨Y, hY⟩ : ∃ Y, w5.setCell ⟨g, 1, none⟩ (.int .i64 (linesOf s)) = Y := ⟨_, rfl⟩
                    rw [hY]
                    have GY : Hid (w5.grownBy Y (some g)) := Lib.hid (by rw [← hY]; exact grown_set _ _ _ _)
                    have BY := Lib.hid (S5.out.blk.set 1 (.int .i64 (linesOf s)))
                    rw [hY] at BY
                    clear hY c1 z1
                    refine (wrong_any (g := g) (ln := linesOf s) BY.out).mono ?_
                    rintro e w6 ⟨rfl, g6, b6⟩
                    replace g6 := Lib.hid g6
                    replace b6 := Lib.hid b6
                    go_wp2_with fail
                    have FQ := Lib.hid (SF.of b6.out)
                    have KQ := Lib.hid ((fun hg => k6.out.trans (S5.out.below (grown_trans GY.out hg))) g6.out)
                    refine (end_sf B FQ.out (by show (230 : Int) ≠ 0; decide)).mono ?_
                    rintro e wz ⟨rfl, kz, Fz⟩
                    replace kz := Lib.hid kz
                    replace Fz := Lib.hid Fz
                    go_wp2_with fail
                    rw [Exit.noGoto_normal]
                    go_end0
                    refine ⟨rfl, KQ.out.trans kz.out, ?_⟩
                    have hRR : R = ([], (230, linesOf s)) := hE.out.symm.trans (by rw [hdr.out, b92.out, hdr2.out, prun_bs0 (by rw [b92.out] at HCS; rw [HCS.out]; simp) (by rw [b92.out] at HCS; rw [HCS.out]; simp)])
                    rw [hRR]
                    exact RunP.err ((by show (230 : Int) ≠ 0; decide)) Fz.out
              · skip
                have e92 : ((b.toNat : Int) == 92) = false := u8_ne (k := 92) b92
                replace b92 := Lib.hid b92
                as_aux_lemma =>
                  have c0 : wc.cell? ⟨g, 0, none⟩ = some (.string (mk s)) := (S1.out.blk.cell 0).trans rfl
                  have c1 : wc.cell? ⟨g, 1, none⟩ = some (.int .i64 line) := (S1.out.blk.cell 1).trans rfl
                  have z1 : wc.frozen? ⟨g, 1, none⟩ = false := by rw [S1.out.blk.frozen]; rfl
                  have c2 : wc.cell? ⟨g, 2, none⟩ = some (.int .u8 3) := (S1.out.blk.cell 2).trans rfl
                  have z2 : wc.frozen? ⟨g, 2, none⟩ = false := by rw [S1.out.blk.frozen]; rfl
                  have c4 : wc.cell? ⟨g, 4, none⟩ = some (.int .i64 frm) := (S1.out.blk.cell 4).trans rfl
                  have z4 : wc.frozen? ⟨g, 4, none⟩ = false := by rw [S1.out.blk.frozen]; rfl
                  have c5 : wc.cell? ⟨g, 5, none⟩ = some (.int .i64 begun) := (S1.out.blk.cell 5).trans rfl
                  have z5 : wc.frozen? ⟨g, 5, none⟩ = false := by rw [S1.out.blk.frozen]; rfl
                  go_wp2_with fail
                  refine (stop_any wc b).mono ?_
                  rintro e w2 ⟨rfl, k2⟩
                  have S2 : Hid (SM B g s i _ _ w2) := Lib.hid (S1.out.ext k2)
                  have k3 : Hid (Below B w w2) := Lib.hid (k1.out.trans (k2.mono (Nat.le_trans S1.out.lo S1.out.hi)))
                  clear k2
                  clear c0 c1 c2 c4 c5 z1 z2 z4 z5
                  have c0 : w2.cell? ⟨g, 0, none⟩ = some (.string (mk s)) := (S2.out.blk.cell 0).trans rfl
                  have c1 : w2.cell? ⟨g, 1, none⟩ = some (.int .i64 line) := (S2.out.blk.cell 1).trans rfl
                  have z1 : w2.frozen? ⟨g, 1, none⟩ = false := by rw [S2.out.blk.frozen]; rfl
                  have c2 : w2.cell? ⟨g, 2, none⟩ = some (.int .u8 3) := (S2.out.blk.cell 2).trans rfl
                  have z2 : w2.frozen? ⟨g, 2, none⟩ = false := by rw [S2.out.blk.frozen]; rfl
                  have c4 : w2.cell? ⟨g, 4, none⟩ = some (.int .i64 frm) := (S2.out.blk.cell 4).trans rfl
                  have z4 : w2.frozen? ⟨g, 4, none⟩ = false := by rw [S2.out.blk.frozen]; rfl
                  have c5 : w2.cell? ⟨g, 5, none⟩ = some (.int .i64 begun) := (S2.out.blk.cell 5).trans rfl
                  have z5 : w2.frozen? ⟨g, 5, none⟩ = false := by rw [S2.out.blk.frozen]; rfl
                  go_wp2_with fail
                  clear c0 c1 c2 c4 c5 z1 z2 z4 z5
                  refine ⟨⟨i + 1, ⟨line, 3, deep, cur ++ [b], begun, eline, blank, words, fresh, out⟩, ⟨frm, wa, wn, wk, oa, on, oc, eds, m⟩, by push_cast; rfl, Lib.hid ⟨S2.out.more rfl rfl rfl (fun h => by rcases h with h | h <;> cases h), k3.out, by have := hlt1.out; omega, ⟨by simp, hbn.out.words, Nat.le_trans hbn.out.deep (by omega), hline, by have := hline2; push_cast; omega, Nat.le_trans hbn.out.out (by omega)⟩, ?_⟩⟩, ?_⟩
                  · have hE0 := hE.out; rw [hdr.out, prun_w (by rw [HCS.out]; simp) (by rw [HCS.out]; simp) hsb.out b34.out b92.out] at hE0; rw [← hE0]; rw [HCS.out]; rfl
                  · simp only [intOf]; have := hlt1.out; omega
        · by_cases b10 : b = 10
          · skip
            have e10 : ((b.toNat : Int) == 10) = true := u8_beq (k := 10) b10 (by decide)
            replace b10 := Lib.hid b10
            as_aux_lemma =>
              have c0 : wc.cell? ⟨g, 0, none⟩ = some (.string (mk s)) := (S1.out.blk.cell 0).trans rfl
              have c2 : wc.cell? ⟨g, 2, none⟩ = some (.int .u8 4) := (S1.out.blk.cell 2).trans rfl
              have z2 : wc.frozen? ⟨g, 2, none⟩ = false := by rw [S1.out.blk.frozen]; rfl
              go_wp2_with fail
              refine (ends_sm b S1.out (.inr (.inr (.inr ⟨rfl, b10.out⟩))) hil hbn.out.words hline (Int.le_trans hline2 (by omega)) (Nat.le_trans hbn.out.deep (by omega)) (Nat.le_trans hbn.out.out (by omega))).mono ?_
              rintro e w4 ⟨k4, hoc⟩
              replace k4 := Lib.hid k4
              clear c0 c2 z2
              rcases hoc with ⟨c4, q4, h4, rfl, S4⟩ | ⟨x, h4, rfl, F4⟩
              · replace h4 := Lib.hid h4
                replace S4 := Lib.hid S4
                go_wp2_with fail
                have hbe := ends_bnd hbn.out h4.out
                refine ⟨⟨i + 1, c4, q4, by push_cast; rfl, Lib.hid ⟨S4.out.place (by rcases hbe.2 with h | h <;> simp [h]), k1.out.trans k4.out, by have := hlt1.out; omega, hbe.1, ?_⟩⟩, ?_⟩
                · have hE0 := hE.out; rw [hdr.out, b10.out] at hE0; rw [← hE0]; exact (prun_reml (by rw [b10.out] at HCS; rw [HCS.out]) (by have h6 := h4.out; rw [b10.out] at h6 HCS; rw [HCS.out]; exact h6)).symm
                · simp only [intOf]; have := hlt1.out; omega
              · replace h4 := Lib.hid h4
                replace F4 := Lib.hid F4
                go_wp2_with fail
                have FQ := Lib.hid (F4.out)
                have KQ := Lib.hid (k1.out.trans k4.out)
                refine (end_sf B FQ.out (ends_err h4.out)).mono ?_
                rintro e wz ⟨rfl, kz, Fz⟩
                replace kz := Lib.hid kz
                replace Fz := Lib.hid Fz
                go_wp2_with fail
                rw [Exit.noGoto_normal]
                go_end0
                refine ⟨rfl, KQ.out.trans kz.out, ?_⟩
                have hRR : R = ([], x) := hE.out.symm.trans (by rw [hdr.out, b10.out]; exact prun_remx (by rw [b10.out] at HCS; rw [HCS.out]) (by have h6 := h4.out; rw [b10.out] at h6 HCS; rw [HCS.out]; exact h6))
                rw [hRR]
                exact RunP.err ((ends_err h4.out)) Fz.out
          · skip
            have e10 : ((b.toNat : Int) == 10) = false := u8_ne (k := 10) b10
            replace b10 := Lib.hid b10
            as_aux_lemma =>
              have c0 : wc.cell? ⟨g, 0, none⟩ = some (.string (mk s)) := (S1.out.blk.cell 0).trans rfl
              have c2 : wc.cell? ⟨g, 2, none⟩ = some (.int .u8 4) := (S1.out.blk.cell 2).trans rfl
              have z2 : wc.frozen? ⟨g, 2, none⟩ = false := by rw [S1.out.blk.frozen]; rfl
              go_wp2_with fail
              clear c0 c2 z2
              refine ⟨⟨i + 1, _, ⟨frm, wa, wn, wk, oa, on, oc, eds, m⟩, by push_cast; rfl, Lib.hid ⟨S1.out.place (.inr (.inr rfl)), k1.out, by have := hlt1.out; omega, ⟨by simp, hbn.out.words, Nat.le_trans hbn.out.deep (by omega), hline, by have := hline2; push_cast; omega, Nat.le_trans hbn.out.out (by omega)⟩, ?_⟩⟩, ?_⟩
              · have hE0 := hE.out; rw [hdr.out, prun_rem (by rw [HCS.out]) b10.out, HCS.out] at hE0; exact hE0
              · simp only [intOf]; have := hlt1.out; omega
    · have hlt2 : ¬ (i : Int) < s.length := by omega
      go_wp2_with fail
      have hi3 : i = s.length := by omega
      have hIO := hI.out
      refine (end_sm (q := ⟨frm, wa, wn, wk, oa, on, oc, eds, m⟩) (c := ⟨line, st, deep, cur, begun, eline, blank, words, fresh, out⟩) (by rw [← hi3]; exact hIO.sm) hIO.bnd.st (by omega) hIO.bnd.words (Nat.le_trans hIO.bnd.deep (by omega)) (Nat.le_trans hIO.bnd.out (by omega))).mono ?_
      rintro e wz ⟨rfl, kz, Rz⟩
      replace kz := Lib.hid kz
      replace Rz := Lib.hid Rz
      have hi4 := Lib.hid hi3
      clear hIO hi3
      go_wp2_with fail
      rw [Exit.noGoto_normal]
      go_end0
      refine ⟨rfl, hI.out.bel.trans kz.out, ?_⟩
      have hE := hI.out.eq
      rw [hi4.out, List.drop_length] at hE
      rw [← hE]
      exact Rz.out
end Go.Proofs.YtojdjhicjhhblaaDoor
