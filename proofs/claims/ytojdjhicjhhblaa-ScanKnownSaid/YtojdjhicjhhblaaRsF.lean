/- The document's scanner: step 51. -/
import Derived.Test.YtojdjhicjhhblaaRsE
namespace Go.Proofs.Ytojdjhicjhhblaa
open Go Go.RowKit
theorem nl_bnd {i : Nat} {c : Sc} (h : Bnd i c) : Bnd (i + 1) { c with line := c.line + 1 } := ⟨h.st, h.words, Nat.le_trans h.deep (by omega), by have := h.lo; show 0 ≤ c.line + 1; omega, by have := h.hi; show c.line + 1 ≤ _; push_cast; omega, Nat.le_trans h.out (by omega)⟩
theorem nl_entry {i : Nat} {c : Sc} (h : Bnd i c) : Bnd (i + 1) ({ c with line := c.line + 1 } : Sc).entry := by
  refine ⟨h.st, by simp [Sc.entry], Nat.le_trans h.deep (by omega), by have := h.lo; show 0 ≤ c.line + 1; omega, by have := h.hi; show c.line + 1 ≤ _; push_cast; omega, ?_⟩
  have := h.out
  simp only [Sc.entry]
  split
  · omega
  · simp; omega
theorem look_bnd {i : Nat} {c : Sc} (h : Bnd i c) (r : List UInt8) : Bnd i (c.look r) := by
  obtain ⟨h1, h2, h3, h4, h5⟩ := look_same c r
  exact ⟨by rw [h1]; exact h.st, by rw [h4]; exact h.words, by rw [h3]; exact h.deep, by rw [h2]; exact h.lo, by rw [h2]; exact h.hi, by rw [h5]; exact h.out⟩
/-- the remark's loop -/
structure MI (B g : Nat) (s : List UInt8) (i : Nat) (c : Sc) (q : RV) (R : List Ent × (Int × Int)) (j : Nat) (w wr : World) : Prop where
  rm : RM B g s j c q wr
  bel : Below B w wr
  ij : i ≤ j
  le : j ≤ s.length
  eq : prun (linesOf s) (s.drop j) { c with st := 4 } = R
set_option maxHeartbeats 8000000 in
set_option maxRecDepth 100000 in
theorem rstep_any {B g : Nat} {s : List UInt8} {i : Nat} {c : Sc} {q : RV} {w : World} {R : List Ent × (Int × Int)} (h : RM B g s i c q w) (hfr : c.fresh = false) (h0 : c.st = 0) (hb : Bnd i c) (hs : s.length ≤ 65536) (hi : i < s.length) (hR : prun (linesOf s) (s.drop i) c = R) :
    Calls Try.prog 51 #[.pointer (some ⟨g, 0, none⟩)] w fun e w' => e = .returned (.tuple #[]) ∧ Below B w w' ∧ StepP B g s i R w' := by
  have hsI : (s.length : Int) ≤ 65536 := by omega
  have hiI : (i : Int) < s.length := by omega
  have hR1 := Lib.hid hR
  have hfr1 := Lib.hid hfr
  have h01 := Lib.hid h0
  have hs1 := Lib.hid hs
  have hi1 := Lib.hid hi
  have hb0 := Lib.hid hb
  obtain ⟨line, st, deep, cur, begun, eline, blank, words, fresh, out⟩ := c
  obtain ⟨wa, wn, wk, oa, on, oc, eds, m⟩ := q
  have hlo := hb.lo
  have hhi := hb.hi
  have hdp := hb.deep
  dsimp only at hlo hhi hdp
  have hdI : (0 : Int) ≤ deep := by omega
  have hdJ : (deep : Int) ≤ 65536 := by omega
  have S0 := Lib.hid h
  have k0 := Lib.hid (Below.refl B w)
  have hBg := Lib.hid h.hB
  have hBw := Lib.hid (Nat.le_trans h.lo h.hi)
  obtain ⟨b, hbi⟩ : ∃ b, s[i]'hi = b := ⟨_, rfl⟩
  have hdr : Hid (s.drop i = b :: s.drop (i + 1)) := Lib.hid ((List.drop_eq_getElem_cons hi).trans (congrArg (· :: s.drop (i + 1)) hbi))
  have hb1 := Lib.hid hbi
  have hE0 : Hid (prun (linesOf s) (b :: s.drop (i + 1)) ⟨line, st, deep, cur, begun, eline, blank, words, fresh, out⟩ = R) := Lib.hid (by rw [← hdr.out]; exact hR)
  clear h hfr h0 hb hs hR hdp
  by_cases b10 : b = 10
  · skip
    have e10 : ((b.toNat : Int) == 10) = true := u8_beq (k := 10) b10 (by decide)
    replace b10 := Lib.hid b10
    cases deep with
    | zero =>
      as_aux_lemma =>
        have c0 : w.cell? ⟨g, 0, none⟩ = some (.string (mk s)) := (S0.out.blk.cell 0).trans rfl
        have c1 : w.cell? ⟨g, 1, none⟩ = some (.int .i64 i) := (S0.out.blk.cell 1).trans rfl
        have z1 : w.frozen? ⟨g, 1, none⟩ = false := by rw [S0.out.blk.frozen]; rfl
        have c2 : w.cell? ⟨g, 2, none⟩ = some (.int .i64 line) := (S0.out.blk.cell 2).trans rfl
        have z2 : w.frozen? ⟨g, 2, none⟩ = false := by rw [S0.out.blk.frozen]; rfl
        have c3 : w.cell? ⟨g, 3, none⟩ = some (.int .i64 (0 : Nat)) := (S0.out.blk.cell 3).trans rfl
        have z3 : w.frozen? ⟨g, 3, none⟩ = false := by rw [S0.out.blk.frozen]; rfl
        have c9 : w.cell? ⟨g, 9, none⟩ = some (.int .i64 0) := (S0.out.blk.cell 9).trans rfl
        have z9 : w.frozen? ⟨g, 9, none⟩ = false := by rw [S0.out.blk.frozen]; rfl
        go_enter Try.func51, Try.ntmps51
        try go_wp2_with fail
        go_quiet (fail)
        have S1_ := Lib.hid (S0.out.drew nq)
        have k1_ := Lib.hid (bel_drewN k0.out nq)
        clear c0 c1 z1 c2 z2 c3 z3 c9 z9
        clear S0 k0
        generalize w.drewN nq = w1_ at *
        clear nq
        have c0 : w1_.cell? ⟨g, 0, none⟩ = some (.string (mk s)) := (S1_.out.blk.cell 0).trans rfl
        have c1 : w1_.cell? ⟨g, 1, none⟩ = some (.int .i64 i) := (S1_.out.blk.cell 1).trans rfl
        have z1 : w1_.frozen? ⟨g, 1, none⟩ = false := by rw [S1_.out.blk.frozen]; rfl
        have c2 : w1_.cell? ⟨g, 2, none⟩ = some (.int .i64 line) := (S1_.out.blk.cell 2).trans rfl
        have z2 : w1_.frozen? ⟨g, 2, none⟩ = false := by rw [S1_.out.blk.frozen]; rfl
        have c3 : w1_.cell? ⟨g, 3, none⟩ = some (.int .i64 (0 : Nat)) := (S1_.out.blk.cell 3).trans rfl
        have z3 : w1_.frozen? ⟨g, 3, none⟩ = false := by rw [S1_.out.blk.frozen]; rfl
        have c9 : w1_.cell? ⟨g, 9, none⟩ = some (.int .i64 0) := (S1_.out.blk.cell 9).trans rfl
        have z9 : w1_.frozen? ⟨g, 9, none⟩ = false := by rw [S1_.out.blk.frozen]; rfl
        go_wp2_with fail
        obtain ⟨U, hU⟩ : ∃ U, ((w1_).setCell ⟨g, 1, none⟩ (.int .i64 ((i : Int) + 1))).setCell ⟨g, 2, none⟩ (.int .i64 (line + 1)) = U := ⟨_, rfl⟩
        rw [hU]
        have GU : Hid (w1_.grownBy U (some g)) := Lib.hid (by rw [← hU]; exact grown_trans (grown_set _ _ _ _) (grown_set _ _ _ _))
        have SU : Hid (RM B g s (i + 1) ⟨line + 1, st, 0, cur, begun, eline, blank, words, fresh, out⟩ ⟨wa, wn, wk, oa, on, oc, eds, m⟩ U) := Lib.hid (S1_.out.upd GU.out (by have h := (S1_.out.blk.set 1 (.int .i64 ((i : Int) + 1))).set 2 (.int .i64 (line + 1)); rw [hU] at h; exact h) rfl rfl)
        have kU : Hid (Below B w U) := Lib.hid (k1_.out.trans (S1_.out.below GU.out))
        clear c0 c1 z1 c2 z2 c3 z3 c9 z9
        clear hU GU
        refine (rend_any SU.out hfr1.out (Nat.le_trans hb0.out.out (by omega)) (by omega)).mono ?_
        rintro e w6 ⟨rfl, k6, q6, R6⟩
        replace k6 := Lib.hid k6
        replace R6 := Lib.hid R6
        go_wp2_with fail
        go_end0
        refine ⟨rfl, kU.out.trans k6.out, .inl ⟨i + 1, _, q6, by omega, by omega, R6.out, look_entry_fresh _ _, ?_, look_bnd (nl_entry hb0.out) _, ?_⟩⟩
        · rw [(look_same _ _).1]; exact h01.out
        · have hE1 := hE0.out
          rw [b10.out] at hE1
          rw [prun_stop (c2 := { ({ (⟨line, st, 0, cur, begun, eline, blank, words, fresh, out⟩ : Sc) with st := 0 } : Sc).entry with line := line + 1 }) (by rw [see_not (by exact hfr1.out), h01.out]; simp) (by rw [see_not (by exact hfr1.out), h01.out]; simp) (by decide) (by rw [see_not (by exact hfr1.out), ends_mark _ _ (by show st = 1 → False; rw [h01.out]; simp)]; exact mark_line0 _ rfl)] at hE1
          rw [← hE1]
          have h02 : st = 0 := h01.out
          subst h02
          exact prun_look rfl rfl
    | succ d =>
      as_aux_lemma =>
        obtain ⟨deep, hdeep⟩ : ∃ deep, d + 1 = deep := ⟨_, rfl⟩
        rw [hdeep] at S0 hb0 hR1 hfr1 h01 hE0 hdI hdJ
        have hd1 : (1 : Int) ≤ deep := by omega
        have ed : ((deep : Int) == 0) = false := by rw [beq_eq_false_iff_ne]; omega
        have hdn : Hid (¬ deep = 0) := Lib.hid (by omega)
        clear hdeep
        have c0 : w.cell? ⟨g, 0, none⟩ = some (.string (mk s)) := (S0.out.blk.cell 0).trans rfl
        have c1 : w.cell? ⟨g, 1, none⟩ = some (.int .i64 i) := (S0.out.blk.cell 1).trans rfl
        have z1 : w.frozen? ⟨g, 1, none⟩ = false := by rw [S0.out.blk.frozen]; rfl
        have c2 : w.cell? ⟨g, 2, none⟩ = some (.int .i64 line) := (S0.out.blk.cell 2).trans rfl
        have z2 : w.frozen? ⟨g, 2, none⟩ = false := by rw [S0.out.blk.frozen]; rfl
        have c3 : w.cell? ⟨g, 3, none⟩ = some (.int .i64 deep) := (S0.out.blk.cell 3).trans rfl
        have z3 : w.frozen? ⟨g, 3, none⟩ = false := by rw [S0.out.blk.frozen]; rfl
        have c9 : w.cell? ⟨g, 9, none⟩ = some (.int .i64 0) := (S0.out.blk.cell 9).trans rfl
        have z9 : w.frozen? ⟨g, 9, none⟩ = false := by rw [S0.out.blk.frozen]; rfl
        go_enter Try.func51, Try.ntmps51
        try go_wp2_with fail
        go_quiet (fail)
        have S2_ := Lib.hid (S0.out.drew nq)
        have k2_ := Lib.hid (bel_drewN k0.out nq)
        clear c0 c1 z1 c2 z2 c3 z3 c9 z9
        clear S0 k0
        generalize w.drewN nq = w2_ at *
        clear nq
        have c0 : w2_.cell? ⟨g, 0, none⟩ = some (.string (mk s)) := (S2_.out.blk.cell 0).trans rfl
        have c1 : w2_.cell? ⟨g, 1, none⟩ = some (.int .i64 i) := (S2_.out.blk.cell 1).trans rfl
        have z1 : w2_.frozen? ⟨g, 1, none⟩ = false := by rw [S2_.out.blk.frozen]; rfl
        have c2 : w2_.cell? ⟨g, 2, none⟩ = some (.int .i64 line) := (S2_.out.blk.cell 2).trans rfl
        have z2 : w2_.frozen? ⟨g, 2, none⟩ = false := by rw [S2_.out.blk.frozen]; rfl
        have c3 : w2_.cell? ⟨g, 3, none⟩ = some (.int .i64 deep) := (S2_.out.blk.cell 3).trans rfl
        have z3 : w2_.frozen? ⟨g, 3, none⟩ = false := by rw [S2_.out.blk.frozen]; rfl
        have c9 : w2_.cell? ⟨g, 9, none⟩ = some (.int .i64 0) := (S2_.out.blk.cell 9).trans rfl
        have z9 : w2_.frozen? ⟨g, 9, none⟩ = false := by rw [S2_.out.blk.frozen]; rfl
        go_wp2_with fail
        have G9 : Hid (w2_.grownBy (((w2_).setCell ⟨g, 1, none⟩ (.int .i64 ((i : Int) + 1))).setCell ⟨g, 2, none⟩ (.int .i64 (line + 1))) (some g)) := Lib.hid (grown_trans (grown_set _ _ _ _) (grown_set _ _ _ _))
        go_end0
        refine ⟨rfl, k2_.out.trans (S2_.out.below G9.out), .inl ⟨i + 1, ⟨line + 1, st, deep, cur, begun, eline, blank, words, fresh, out⟩, ⟨wa, wn, wk, oa, on, oc, eds, m⟩, by omega, by omega, RM.upd S2_.out G9.out (by have h := (S2_.out.blk.set 1 (.int .i64 ((i : Int) + 1))).set 2 (.int .i64 (line + 1)); exact h) rfl rfl, hfr1.out, h01.out, nl_bnd hb0.out, ?_⟩⟩
        have h02 : st = 0 := h01.out
        subst h02
        have hE1 := hE0.out; rw [b10.out] at hE1; rw [prun_stop (c2 := ⟨line + 1, 0, deep, cur, begun, eline, blank, words, fresh, out⟩) (by rw [see_not (by exact hfr1.out), h01.out]; simp) (by rw [see_not (by exact hfr1.out), h01.out]; simp) (by decide) (by rw [see_not (by exact hfr1.out), ends_mark _ _ (by simp)]; exact mark_line _ hdn.out)] at hE1; exact hE1
  · skip
    have e10 : ((b.toNat : Int) == 10) = false := u8_ne (k := 10) b10
    replace b10 := Lib.hid b10
    by_cases hbl : blankB b = true
    · have hbl1 := Lib.hid hbl
      as_aux_lemma =>
        have hsb : Hid (stopB b = true) := Lib.hid (by unfold stopB; rw [hbl]; rfl)
        have hn : Hid (¬ b = 59 ∧ ¬ b = 40 ∧ ¬ b = 41) := Lib.hid (by refine ⟨?_, ?_, ?_⟩ <;> rintro rfl <;> simp [blankB] at hbl)
        have c0 : w.cell? ⟨g, 0, none⟩ = some (.string (mk s)) := (S0.out.blk.cell 0).trans rfl
        have c1 : w.cell? ⟨g, 1, none⟩ = some (.int .i64 i) := (S0.out.blk.cell 1).trans rfl
        have z1 : w.frozen? ⟨g, 1, none⟩ = false := by rw [S0.out.blk.frozen]; rfl
        have c2 : w.cell? ⟨g, 2, none⟩ = some (.int .i64 line) := (S0.out.blk.cell 2).trans rfl
        have z2 : w.frozen? ⟨g, 2, none⟩ = false := by rw [S0.out.blk.frozen]; rfl
        have c3 : w.cell? ⟨g, 3, none⟩ = some (.int .i64 deep) := (S0.out.blk.cell 3).trans rfl
        have z3 : w.frozen? ⟨g, 3, none⟩ = false := by rw [S0.out.blk.frozen]; rfl
        have c9 : w.cell? ⟨g, 9, none⟩ = some (.int .i64 0) := (S0.out.blk.cell 9).trans rfl
        have z9 : w.frozen? ⟨g, 9, none⟩ = false := by rw [S0.out.blk.frozen]; rfl
        go_enter Try.func51, Try.ntmps51
        try go_wp2_with fail
        go_quiet (fail)
        have S3_ := Lib.hid (S0.out.drew nq)
        have k3_ := Lib.hid (bel_drewN k0.out nq)
        clear c0 c1 z1 c2 z2 c3 z3 c9 z9
        clear S0 k0
        generalize w.drewN nq = w3_ at *
        clear nq
        have c0 : w3_.cell? ⟨g, 0, none⟩ = some (.string (mk s)) := (S3_.out.blk.cell 0).trans rfl
        have c1 : w3_.cell? ⟨g, 1, none⟩ = some (.int .i64 i) := (S3_.out.blk.cell 1).trans rfl
        have z1 : w3_.frozen? ⟨g, 1, none⟩ = false := by rw [S3_.out.blk.frozen]; rfl
        have c2 : w3_.cell? ⟨g, 2, none⟩ = some (.int .i64 line) := (S3_.out.blk.cell 2).trans rfl
        have z2 : w3_.frozen? ⟨g, 2, none⟩ = false := by rw [S3_.out.blk.frozen]; rfl
        have c3 : w3_.cell? ⟨g, 3, none⟩ = some (.int .i64 deep) := (S3_.out.blk.cell 3).trans rfl
        have z3 : w3_.frozen? ⟨g, 3, none⟩ = false := by rw [S3_.out.blk.frozen]; rfl
        have c9 : w3_.cell? ⟨g, 9, none⟩ = some (.int .i64 0) := (S3_.out.blk.cell 9).trans rfl
        have z9 : w3_.frozen? ⟨g, 9, none⟩ = false := by rw [S3_.out.blk.frozen]; rfl
        go_wp2_with fail
        refine (rblank_any w3_ b).mono ?_
        rintro e w9 ⟨rfl, rfl⟩
        go_wp2_with fail
        have G9 : Hid (w3_.grownBy ((w3_).setCell ⟨g, 1, none⟩ (.int .i64 ((i : Int) + 1))) (some g)) := Lib.hid (grown_set _ _ _ _)
        go_end0
        refine ⟨rfl, k3_.out.trans (S3_.out.below G9.out), .inl ⟨i + 1, ⟨line, st, deep, cur, begun, eline, blank, words, fresh, out⟩, ⟨wa, wn, wk, oa, on, oc, eds, m⟩, by omega, by omega, RM.upd S3_.out G9.out (by have h := S3_.out.blk.set 1 (.int .i64 ((i : Int) + 1)); exact h) rfl rfl, hfr1.out, h01.out, hb0.out.more (by omega), ?_⟩⟩
        have h02 : st = 0 := h01.out
        subst h02
        have hE1 := hE0.out
        rw [prun_stop (c2 := ⟨line, 0, deep, cur, begun, eline, blank, words, fresh, out⟩) (by rw [see_not (by exact hfr1.out), h01.out]; simp) (by rw [see_not (by exact hfr1.out), h01.out]; simp) hsb.out (by rw [see_not (by exact hfr1.out), ends_mark _ _ (by simp)]; exact mark_else _ (by simp) b hn.out.1 hn.out.2.1 hn.out.2.2 b10.out)] at hE1
        exact hE1
    · replace hbl : blankB b = false := by simpa using hbl
      have hbl1 := Lib.hid hbl
      by_cases b59 : b = 59
      · skip
        have e59 : ((b.toNat : Int) == 59) = true := u8_beq (k := 59) b59 (by decide)
        replace b59 := Lib.hid b59
        as_aux_lemma =>
          have c0 : w.cell? ⟨g, 0, none⟩ = some (.string (mk s)) := (S0.out.blk.cell 0).trans rfl
          have c1 : w.cell? ⟨g, 1, none⟩ = some (.int .i64 i) := (S0.out.blk.cell 1).trans rfl
          have z1 : w.frozen? ⟨g, 1, none⟩ = false := by rw [S0.out.blk.frozen]; rfl
          have c2 : w.cell? ⟨g, 2, none⟩ = some (.int .i64 line) := (S0.out.blk.cell 2).trans rfl
          have z2 : w.frozen? ⟨g, 2, none⟩ = false := by rw [S0.out.blk.frozen]; rfl
          have c3 : w.cell? ⟨g, 3, none⟩ = some (.int .i64 deep) := (S0.out.blk.cell 3).trans rfl
          have z3 : w.frozen? ⟨g, 3, none⟩ = false := by rw [S0.out.blk.frozen]; rfl
          have c9 : w.cell? ⟨g, 9, none⟩ = some (.int .i64 0) := (S0.out.blk.cell 9).trans rfl
          have z9 : w.frozen? ⟨g, 9, none⟩ = false := by rw [S0.out.blk.frozen]; rfl
          go_enter Try.func51, Try.ntmps51
          try go_wp2_with fail
          go_quiet (fail)
          have S4_ := Lib.hid (S0.out.drew nq)
          have k4_ := Lib.hid (bel_drewN k0.out nq)
          clear c0 c1 z1 c2 z2 c3 z3 c9 z9
          clear S0 k0
          generalize w.drewN nq = w4_ at *
          clear nq
          have c0 : w4_.cell? ⟨g, 0, none⟩ = some (.string (mk s)) := (S4_.out.blk.cell 0).trans rfl
          have c1 : w4_.cell? ⟨g, 1, none⟩ = some (.int .i64 i) := (S4_.out.blk.cell 1).trans rfl
          have z1 : w4_.frozen? ⟨g, 1, none⟩ = false := by rw [S4_.out.blk.frozen]; rfl
          have c2 : w4_.cell? ⟨g, 2, none⟩ = some (.int .i64 line) := (S4_.out.blk.cell 2).trans rfl
          have z2 : w4_.frozen? ⟨g, 2, none⟩ = false := by rw [S4_.out.blk.frozen]; rfl
          have c3 : w4_.cell? ⟨g, 3, none⟩ = some (.int .i64 deep) := (S4_.out.blk.cell 3).trans rfl
          have z3 : w4_.frozen? ⟨g, 3, none⟩ = false := by rw [S4_.out.blk.frozen]; rfl
          have c9 : w4_.cell? ⟨g, 9, none⟩ = some (.int .i64 0) := (S4_.out.blk.cell 9).trans rfl
          have z9 : w4_.frozen? ⟨g, 9, none⟩ = false := by rw [S4_.out.blk.frozen]; rfl
          go_wp2_with fail
          refine (rblank_any w4_ b).mono ?_
          rintro e w9 ⟨rfl, rfl⟩
          go_wp2_with fail
          have HI : Hid (MI B g s i ⟨line, st, deep, cur, begun, eline, blank, words, fresh, out⟩ ⟨wa, wn, wk, oa, on, oc, eds, m⟩ R i w w4_) := Lib.hid ⟨S4_.out, k4_.out, Nat.le_refl _, Nat.le_of_lt hi, by
          have hE1 := hE0.out
          rw [b59.out, prun_stop (c2 := ⟨line, 4, deep, cur, begun, eline, blank, words, fresh, out⟩) (by rw [see_not (by exact hfr1.out), h01.out]; simp) (by rw [see_not (by exact hfr1.out), h01.out]; simp) (by decide) (by rw [see_not (by exact hfr1.out), ends_mark _ _ (by show st = 1 → False; rw [h01.out]; simp)]; exact mark_semi _ (by show st = 4 → False; rw [h01.out]; simp))] at hE1
          rw [hdr.out, b59.out, prun_rem (by rw [see_not (by exact hfr1.out)]) (by decide), see_not (by exact hfr1.out)]
          exact hE1⟩
          clear c0 c1 z1 c2 z2 c3 z3 c9 z9
          clear S4_ k4_
          go_loopg [] (s.length + 1 - i) (fun k wr => ∃ j, k = s.length + 1 - j ∧ Hid (MI B g s i ⟨line, st, deep, cur, begun, eline, blank, words, fresh, out⟩ ⟨wa, wn, wk, oa, on, oc, eds, m⟩ R j w wr))
          case atStart => exact ⟨i, rfl, HI⟩
          case round =>
            obtain ⟨j, hgk, HW⟩ := hrel
            replace hgk := Lib.hid hgk
            clear HI
            have hij := Lib.hid HW.out.ij
            have hjl := HW.out.le
            have hE2 := Lib.hid HW.out.eq
            have S5 := Lib.hid HW.out.rm
            have k5 := Lib.hid HW.out.bel
            dsimp only at hE2
            clear HW
            by_cases hlt : j < s.length
            · have hltI : (j : Int) < s.length := by omega
              obtain ⟨x, hxj⟩ : ∃ x, s[j] = x := ⟨_, rfl⟩
              have hx1 := Lib.hid hxj
              have hlt1 := Lib.hid hlt
              have hdr2 : Hid (s.drop j = x :: s.drop (j + 1)) := Lib.hid (by rw [List.drop_eq_getElem_cons hlt, hxj])
              by_cases x10 : x = 10
              · have ex : ((x.toNat : Int) == 10) = true := u8_beq (k := 10) x10 (by decide)
                have ex2 : ((x.toNat : Int) != 10) = false := by rw [bne_eq_false_iff_eq]; exact (beq_iff_eq.1 ex)
                have hlt9 : Hid (i < j) := Lib.hid (by
            rcases Nat.lt_or_ge i j with h | h
            · exact h
            · exfalso
              obtain rfl : i = j := by have := hij.out; omega
              have h2 := hx1.out
              rw [hb1.out, b59.out] at h2
              rw [← h2] at x10
              exact absurd x10 (by decide))
                replace x10 := Lib.hid x10
                have c0 : wr.cell? ⟨g, 0, none⟩ = some (.string (mk s)) := (S5.out.blk.cell 0).trans rfl
                have c1 : wr.cell? ⟨g, 1, none⟩ = some (.int .i64 j) := (S5.out.blk.cell 1).trans rfl
                have z1 : wr.frozen? ⟨g, 1, none⟩ = false := by rw [S5.out.blk.frozen]; rfl
                have c2 : wr.cell? ⟨g, 2, none⟩ = some (.int .i64 line) := (S5.out.blk.cell 2).trans rfl
                have z2 : wr.frozen? ⟨g, 2, none⟩ = false := by rw [S5.out.blk.frozen]; rfl
                have c3 : wr.cell? ⟨g, 3, none⟩ = some (.int .i64 deep) := (S5.out.blk.cell 3).trans rfl
                have z3 : wr.frozen? ⟨g, 3, none⟩ = false := by rw [S5.out.blk.frozen]; rfl
                have c9 : wr.cell? ⟨g, 9, none⟩ = some (.int .i64 0) := (S5.out.blk.cell 9).trans rfl
                have z9 : wr.frozen? ⟨g, 9, none⟩ = false := by rw [S5.out.blk.frozen]; rfl
                try go_wp2_with fail
                go_quiet (fail)
                have S5_ := Lib.hid (S5.out.drew nq)
                have k5_ := Lib.hid (bel_drewN k5.out nq)
                clear c0 c1 z1 c2 z2 c3 z3 c9 z9
                clear S5 k5
                generalize wr.drewN nq = w5_ at *
                clear nq
                clear hgk
                go_wp2_with fail
                go_end0
                refine ⟨rfl, k5_.out, .inl ⟨j, ⟨line, st, deep, cur, begun, eline, blank, words, fresh, out⟩, ⟨wa, wn, wk, oa, on, oc, eds, m⟩, hlt9.out, by omega, S5_.out, hfr1.out, h01.out, (hb0.out.more (by have := hij.out; omega)), ?_⟩⟩
                rw [← hE2.out]
                exact (rem_end (c := ⟨line, st, deep, cur, begun, eline, blank, words, fresh, out⟩) hfr1.out h01.out (fun b t h => by rw [hdr2.out] at h; cases h; exact x10.out)).symm
              · have ex : ((x.toNat : Int) == 10) = false := u8_ne (k := 10) x10
                have ex2 : ((x.toNat : Int) != 10) = true := by rw [bne_iff_ne]; exact beq_eq_false_iff_ne.1 ex
                replace x10 := Lib.hid x10
                have c0 : wr.cell? ⟨g, 0, none⟩ = some (.string (mk s)) := (S5.out.blk.cell 0).trans rfl
                have c1 : wr.cell? ⟨g, 1, none⟩ = some (.int .i64 j) := (S5.out.blk.cell 1).trans rfl
                have z1 : wr.frozen? ⟨g, 1, none⟩ = false := by rw [S5.out.blk.frozen]; rfl
                have c2 : wr.cell? ⟨g, 2, none⟩ = some (.int .i64 line) := (S5.out.blk.cell 2).trans rfl
                have z2 : wr.frozen? ⟨g, 2, none⟩ = false := by rw [S5.out.blk.frozen]; rfl
                have c3 : wr.cell? ⟨g, 3, none⟩ = some (.int .i64 deep) := (S5.out.blk.cell 3).trans rfl
                have z3 : wr.frozen? ⟨g, 3, none⟩ = false := by rw [S5.out.blk.frozen]; rfl
                have c9 : wr.cell? ⟨g, 9, none⟩ = some (.int .i64 0) := (S5.out.blk.cell 9).trans rfl
                have z9 : wr.frozen? ⟨g, 9, none⟩ = false := by rw [S5.out.blk.frozen]; rfl
                try go_wp2_with fail
                go_quiet (fail)
                have S6_ := Lib.hid (S5.out.drew nq)
                have k6_ := Lib.hid (bel_drewN k5.out nq)
                clear c0 c1 z1 c2 z2 c3 z3 c9 z9
                clear S5 k5
                generalize wr.drewN nq = w6_ at *
                clear nq
                have c0 : w6_.cell? ⟨g, 0, none⟩ = some (.string (mk s)) := (S6_.out.blk.cell 0).trans rfl
                have c1 : w6_.cell? ⟨g, 1, none⟩ = some (.int .i64 j) := (S6_.out.blk.cell 1).trans rfl
                have z1 : w6_.frozen? ⟨g, 1, none⟩ = false := by rw [S6_.out.blk.frozen]; rfl
                have c2 : w6_.cell? ⟨g, 2, none⟩ = some (.int .i64 line) := (S6_.out.blk.cell 2).trans rfl
                have z2 : w6_.frozen? ⟨g, 2, none⟩ = false := by rw [S6_.out.blk.frozen]; rfl
                have c3 : w6_.cell? ⟨g, 3, none⟩ = some (.int .i64 deep) := (S6_.out.blk.cell 3).trans rfl
                have z3 : w6_.frozen? ⟨g, 3, none⟩ = false := by rw [S6_.out.blk.frozen]; rfl
                have c9 : w6_.cell? ⟨g, 9, none⟩ = some (.int .i64 0) := (S6_.out.blk.cell 9).trans rfl
                have z9 : w6_.frozen? ⟨g, 9, none⟩ = false := by rw [S6_.out.blk.frozen]; rfl
                go_wp2_with fail
                have G9 : Hid (w6_.grownBy (w6_.setCell ⟨g, 1, none⟩ (.int .i64 ((j : Int) + 1))) (some g)) := Lib.hid (grown_set _ _ _ _)
                go_roundg (s.length + 1 - (j + 1))
                case measure => (have := hgk.out; omega)
                case rel =>
                  refine ⟨j + 1, rfl, Lib.hid ⟨RM.upd S6_.out G9.out (by have h := S6_.out.blk.set 1 (.int .i64 ((j : Int) + 1)); exact h) rfl rfl, k6_.out.trans (S6_.out.below G9.out), by have := hij.out; omega, by omega, ?_⟩⟩
                  have hE3 := hE2.out
                  rw [hdr2.out, prun_rem (by rw [see_not (by exact hfr1.out)]) x10.out, see_not (by exact hfr1.out)] at hE3
                  exact hE3
            · obtain rfl : j = s.length := by omega
              have hlt9 : Hid (i < s.length) := Lib.hid hi
              clear hlt
              have c0 : wr.cell? ⟨g, 0, none⟩ = some (.string (mk s)) := (S5.out.blk.cell 0).trans rfl
              have c1 : wr.cell? ⟨g, 1, none⟩ = some (.int .i64 s.length) := (S5.out.blk.cell 1).trans rfl
              have z1 : wr.frozen? ⟨g, 1, none⟩ = false := by rw [S5.out.blk.frozen]; rfl
              have c2 : wr.cell? ⟨g, 2, none⟩ = some (.int .i64 line) := (S5.out.blk.cell 2).trans rfl
              have z2 : wr.frozen? ⟨g, 2, none⟩ = false := by rw [S5.out.blk.frozen]; rfl
              have c3 : wr.cell? ⟨g, 3, none⟩ = some (.int .i64 deep) := (S5.out.blk.cell 3).trans rfl
              have z3 : wr.frozen? ⟨g, 3, none⟩ = false := by rw [S5.out.blk.frozen]; rfl
              have c9 : wr.cell? ⟨g, 9, none⟩ = some (.int .i64 0) := (S5.out.blk.cell 9).trans rfl
              have z9 : wr.frozen? ⟨g, 9, none⟩ = false := by rw [S5.out.blk.frozen]; rfl
              try go_wp2_with fail
              go_quiet (fail)
              have S7_ := Lib.hid (S5.out.drew nq)
              have k7_ := Lib.hid (bel_drewN k5.out nq)
              clear c0 c1 z1 c2 z2 c3 z3 c9 z9
              clear S5 k5
              generalize wr.drewN nq = w7_ at *
              clear nq
              clear hgk
              go_wp2_with fail
              go_end0
              refine ⟨rfl, k7_.out, .inl ⟨s.length, ⟨line, st, deep, cur, begun, eline, blank, words, fresh, out⟩, ⟨wa, wn, wk, oa, on, oc, eds, m⟩, hlt9.out, by omega, S7_.out, hfr1.out, h01.out, (hb0.out.more (by have := hij.out; omega)), ?_⟩⟩
              rw [← hE2.out]
              exact (rem_end (c := ⟨line, st, deep, cur, begun, eline, blank, words, fresh, out⟩) hfr1.out h01.out (fun b t h => by rw [List.drop_length] at h; cases h)).symm
      · skip
        have e59 : ((b.toNat : Int) == 59) = false := u8_ne (k := 59) b59
        replace b59 := Lib.hid b59
        by_cases b40 : b = 40
        · skip
          have e40 : ((b.toNat : Int) == 40) = true := u8_beq (k := 40) b40 (by decide)
          replace b40 := Lib.hid b40
          as_aux_lemma =>
            have c0 : w.cell? ⟨g, 0, none⟩ = some (.string (mk s)) := (S0.out.blk.cell 0).trans rfl
            have c1 : w.cell? ⟨g, 1, none⟩ = some (.int .i64 i) := (S0.out.blk.cell 1).trans rfl
            have z1 : w.frozen? ⟨g, 1, none⟩ = false := by rw [S0.out.blk.frozen]; rfl
            have c2 : w.cell? ⟨g, 2, none⟩ = some (.int .i64 line) := (S0.out.blk.cell 2).trans rfl
            have z2 : w.frozen? ⟨g, 2, none⟩ = false := by rw [S0.out.blk.frozen]; rfl
            have c3 : w.cell? ⟨g, 3, none⟩ = some (.int .i64 deep) := (S0.out.blk.cell 3).trans rfl
            have z3 : w.frozen? ⟨g, 3, none⟩ = false := by rw [S0.out.blk.frozen]; rfl
            have c9 : w.cell? ⟨g, 9, none⟩ = some (.int .i64 0) := (S0.out.blk.cell 9).trans rfl
            have z9 : w.frozen? ⟨g, 9, none⟩ = false := by rw [S0.out.blk.frozen]; rfl
            go_enter Try.func51, Try.ntmps51
            try go_wp2_with fail
            go_quiet (fail)
            have S8_ := Lib.hid (S0.out.drew nq)
            have k8_ := Lib.hid (bel_drewN k0.out nq)
            clear c0 c1 z1 c2 z2 c3 z3 c9 z9
            clear S0 k0
            generalize w.drewN nq = w8_ at *
            clear nq
            have c0 : w8_.cell? ⟨g, 0, none⟩ = some (.string (mk s)) := (S8_.out.blk.cell 0).trans rfl
            have c1 : w8_.cell? ⟨g, 1, none⟩ = some (.int .i64 i) := (S8_.out.blk.cell 1).trans rfl
            have z1 : w8_.frozen? ⟨g, 1, none⟩ = false := by rw [S8_.out.blk.frozen]; rfl
            have c2 : w8_.cell? ⟨g, 2, none⟩ = some (.int .i64 line) := (S8_.out.blk.cell 2).trans rfl
            have z2 : w8_.frozen? ⟨g, 2, none⟩ = false := by rw [S8_.out.blk.frozen]; rfl
            have c3 : w8_.cell? ⟨g, 3, none⟩ = some (.int .i64 deep) := (S8_.out.blk.cell 3).trans rfl
            have z3 : w8_.frozen? ⟨g, 3, none⟩ = false := by rw [S8_.out.blk.frozen]; rfl
            have c9 : w8_.cell? ⟨g, 9, none⟩ = some (.int .i64 0) := (S8_.out.blk.cell 9).trans rfl
            have z9 : w8_.frozen? ⟨g, 9, none⟩ = false := by rw [S8_.out.blk.frozen]; rfl
            go_wp2_with fail
            refine (rblank_any w8_ b).mono ?_
            rintro e w9 ⟨rfl, rfl⟩
            go_wp2_with fail
            have G9 : Hid (w8_.grownBy (((w8_).setCell ⟨g, 3, none⟩ (.int .i64 ((deep : Int) + 1))).setCell ⟨g, 1, none⟩ (.int .i64 ((i : Int) + 1))) (some g)) := Lib.hid (grown_trans (grown_set _ _ _ _) (grown_set _ _ _ _))
            go_end0
            refine ⟨rfl, k8_.out.trans (S8_.out.below G9.out), .inl ⟨i + 1, ⟨line, st, deep + 1, cur, begun, eline, blank, words, fresh, out⟩, ⟨wa, wn, wk, oa, on, oc, eds, m⟩, by omega, by omega, RM.upd S8_.out G9.out (by have h := ((S8_.out.blk.set 3 (.int .i64 ((deep : Int) + 1))).set 1 (.int .i64 ((i : Int) + 1))); exact h) rfl rfl, hfr1.out, h01.out, ⟨hb0.out.st, hb0.out.words, by have := hb0.out.deep; dsimp only at this ⊢; omega, hb0.out.lo, by have := hb0.out.hi; dsimp only at this ⊢; push_cast; omega, Nat.le_trans hb0.out.out (by omega)⟩, ?_⟩⟩
            have h02 : st = 0 := h01.out
            subst h02
            have hE1 := hE0.out; rw [b40.out] at hE1; rw [prun_stop (c2 := ⟨line, 0, deep + 1, cur, begun, eline, blank, words, fresh, out⟩) (by rw [see_not (by exact hfr1.out), h01.out]; simp) (by rw [see_not (by exact hfr1.out), h01.out]; simp) (by decide) (by rw [see_not (by exact hfr1.out), ends_mark _ _ (by simp)]; exact mark_open _ (by simp))] at hE1; exact hE1
        · skip
          have e40 : ((b.toNat : Int) == 40) = false := u8_ne (k := 40) b40
          replace b40 := Lib.hid b40
          by_cases b41 : b = 41
          · skip
            have e41 : ((b.toNat : Int) == 41) = true := u8_beq (k := 41) b41 (by decide)
            replace b41 := Lib.hid b41
            cases deep with
            | zero =>
              as_aux_lemma =>
                have c0 : w.cell? ⟨g, 0, none⟩ = some (.string (mk s)) := (S0.out.blk.cell 0).trans rfl
                have c1 : w.cell? ⟨g, 1, none⟩ = some (.int .i64 i) := (S0.out.blk.cell 1).trans rfl
                have z1 : w.frozen? ⟨g, 1, none⟩ = false := by rw [S0.out.blk.frozen]; rfl
                have c2 : w.cell? ⟨g, 2, none⟩ = some (.int .i64 line) := (S0.out.blk.cell 2).trans rfl
                have z2 : w.frozen? ⟨g, 2, none⟩ = false := by rw [S0.out.blk.frozen]; rfl
                have c3 : w.cell? ⟨g, 3, none⟩ = some (.int .i64 (0 : Nat)) := (S0.out.blk.cell 3).trans rfl
                have z3 : w.frozen? ⟨g, 3, none⟩ = false := by rw [S0.out.blk.frozen]; rfl
                have c9 : w.cell? ⟨g, 9, none⟩ = some (.int .i64 0) := (S0.out.blk.cell 9).trans rfl
                have z9 : w.frozen? ⟨g, 9, none⟩ = false := by rw [S0.out.blk.frozen]; rfl
                go_enter Try.func51, Try.ntmps51
                try go_wp2_with fail
                go_quiet (fail)
                have S9_ := Lib.hid (S0.out.drew nq)
                have k9_ := Lib.hid (bel_drewN k0.out nq)
                clear c0 c1 z1 c2 z2 c3 z3 c9 z9
                clear S0 k0
                generalize w.drewN nq = w9_ at *
                clear nq
                have c0 : w9_.cell? ⟨g, 0, none⟩ = some (.string (mk s)) := (S9_.out.blk.cell 0).trans rfl
                have c1 : w9_.cell? ⟨g, 1, none⟩ = some (.int .i64 i) := (S9_.out.blk.cell 1).trans rfl
                have z1 : w9_.frozen? ⟨g, 1, none⟩ = false := by rw [S9_.out.blk.frozen]; rfl
                have c2 : w9_.cell? ⟨g, 2, none⟩ = some (.int .i64 line) := (S9_.out.blk.cell 2).trans rfl
                have z2 : w9_.frozen? ⟨g, 2, none⟩ = false := by rw [S9_.out.blk.frozen]; rfl
                have c3 : w9_.cell? ⟨g, 3, none⟩ = some (.int .i64 (0 : Nat)) := (S9_.out.blk.cell 3).trans rfl
                have z3 : w9_.frozen? ⟨g, 3, none⟩ = false := by rw [S9_.out.blk.frozen]; rfl
                have c9 : w9_.cell? ⟨g, 9, none⟩ = some (.int .i64 0) := (S9_.out.blk.cell 9).trans rfl
                have z9 : w9_.frozen? ⟨g, 9, none⟩ = false := by rw [S9_.out.blk.frozen]; rfl
                go_wp2_with fail
                refine (rblank_any w9_ b).mono ?_
                rintro e w9 ⟨rfl, rfl⟩
                go_wp2_with fail
                obtain ⟨U, hU⟩ : ∃ U, ((w9_).setCell ⟨g, 1, none⟩ (.int .i64 ((i : Int) + 1))).setCell ⟨g, 3, none⟩ (.int .i64 (-1)) = U := ⟨_, rfl⟩
                rw [hU]
                have GU : Hid (w9_.grownBy U (some g)) := Lib.hid (by rw [← hU]; exact grown_trans (grown_set _ _ _ _) (grown_set _ _ _ _))
                have BU : Hid (Blk U g 86 (0, 0) [.string (mk s), .int .i64 ((i : Int) + 1), .int .i64 line, .int .i64 (-1), .bool blank, .int .i64 eline, .bool false, .slice wa wn wk, .slice oa on oc, .int .i64 0, .int .i64 0]) := Lib.hid (by rw [← hU]; exact (S9_.out.blk.set 1 _).set 3 _)
                clear c0 c1 z1 c2 z2 c3 z3 c9 z9
                clear hU
                refine (fault_any 230 line BU.out).mono ?_
                rintro e w6 ⟨rfl, g6, b6⟩
                replace g6 := Lib.hid g6
                replace b6 := Lib.hid b6
                go_wp2_with fail
                go_end0
                refine ⟨rfl, k9_.out.trans (S9_.out.below (grown_trans GU.out g6.out)), .inr ?_⟩
                have hRR : R = ([], (230, line)) := by have hE1 := hE0.out; rw [b41.out] at hE1; exact hE1.symm.trans (prun_stopx (by rw [see_not (by exact hfr1.out), h01.out]; simp) (by rw [see_not (by exact hfr1.out), h01.out]; simp) (by decide) (by rw [see_not (by exact hfr1.out), ends_mark _ _ (by show st = 1 → False; rw [h01.out]; simp)]; exact mark_shut0 _ (by show st = 4 → False; rw [h01.out]; simp) rfl))
                rw [hRR]
                exact ⟨rfl, by show (230 : Int) ≠ 0; decide, RF.of b6.out⟩
            | succ d =>
              as_aux_lemma =>
                obtain ⟨deep, hdeep⟩ : ∃ deep, d + 1 = deep := ⟨_, rfl⟩
                rw [hdeep] at S0 hb0 hR1 hfr1 h01 hE0 hdI hdJ
                have hd1 : (1 : Int) ≤ deep := by omega
                have ed : decide ((deep : Int) - 1 < 0) = false := by simp; omega
                have hdn : Hid (¬ deep = 0) := Lib.hid (by omega)
                have ec : Hid ((deep : Int) - 1 = ((deep - 1 : Nat) : Int)) := Lib.hid (by omega)
                clear hdeep
                have c0 : w.cell? ⟨g, 0, none⟩ = some (.string (mk s)) := (S0.out.blk.cell 0).trans rfl
                have c1 : w.cell? ⟨g, 1, none⟩ = some (.int .i64 i) := (S0.out.blk.cell 1).trans rfl
                have z1 : w.frozen? ⟨g, 1, none⟩ = false := by rw [S0.out.blk.frozen]; rfl
                have c2 : w.cell? ⟨g, 2, none⟩ = some (.int .i64 line) := (S0.out.blk.cell 2).trans rfl
                have z2 : w.frozen? ⟨g, 2, none⟩ = false := by rw [S0.out.blk.frozen]; rfl
                have c3 : w.cell? ⟨g, 3, none⟩ = some (.int .i64 deep) := (S0.out.blk.cell 3).trans rfl
                have z3 : w.frozen? ⟨g, 3, none⟩ = false := by rw [S0.out.blk.frozen]; rfl
                have c9 : w.cell? ⟨g, 9, none⟩ = some (.int .i64 0) := (S0.out.blk.cell 9).trans rfl
                have z9 : w.frozen? ⟨g, 9, none⟩ = false := by rw [S0.out.blk.frozen]; rfl
                go_enter Try.func51, Try.ntmps51
                try go_wp2_with fail
                go_quiet (fail)
                have S10_ := Lib.hid (S0.out.drew nq)
                have k10_ := Lib.hid (bel_drewN k0.out nq)
                clear c0 c1 z1 c2 z2 c3 z3 c9 z9
                clear S0 k0
                generalize w.drewN nq = w10_ at *
                clear nq
                have c0 : w10_.cell? ⟨g, 0, none⟩ = some (.string (mk s)) := (S10_.out.blk.cell 0).trans rfl
                have c1 : w10_.cell? ⟨g, 1, none⟩ = some (.int .i64 i) := (S10_.out.blk.cell 1).trans rfl
                have z1 : w10_.frozen? ⟨g, 1, none⟩ = false := by rw [S10_.out.blk.frozen]; rfl
                have c2 : w10_.cell? ⟨g, 2, none⟩ = some (.int .i64 line) := (S10_.out.blk.cell 2).trans rfl
                have z2 : w10_.frozen? ⟨g, 2, none⟩ = false := by rw [S10_.out.blk.frozen]; rfl
                have c3 : w10_.cell? ⟨g, 3, none⟩ = some (.int .i64 deep) := (S10_.out.blk.cell 3).trans rfl
                have z3 : w10_.frozen? ⟨g, 3, none⟩ = false := by rw [S10_.out.blk.frozen]; rfl
                have c9 : w10_.cell? ⟨g, 9, none⟩ = some (.int .i64 0) := (S10_.out.blk.cell 9).trans rfl
                have z9 : w10_.frozen? ⟨g, 9, none⟩ = false := by rw [S10_.out.blk.frozen]; rfl
                go_wp2_with fail
                refine (rblank_any w10_ b).mono ?_
                rintro e w9 ⟨rfl, rfl⟩
                go_wp2_with fail
                have G9 : Hid (w10_.grownBy (((w10_).setCell ⟨g, 1, none⟩ (.int .i64 ((i : Int) + 1))).setCell ⟨g, 3, none⟩ (.int .i64 ((deep : Int) - 1))) (some g)) := Lib.hid (grown_trans (grown_set _ _ _ _) (grown_set _ _ _ _))
                go_end0
                refine ⟨rfl, k10_.out.trans (S10_.out.below G9.out), .inl ⟨i + 1, ⟨line, st, deep - 1, cur, begun, eline, blank, words, fresh, out⟩, ⟨wa, wn, wk, oa, on, oc, eds, m⟩, by omega, by omega, RM.upd S10_.out G9.out (by have h := ((S10_.out.blk.set 1 (.int .i64 ((i : Int) + 1))).set 3 (.int .i64 ((deep : Int) - 1))); rw [ec.out] at h ⊢; exact h) rfl rfl, hfr1.out, h01.out, ⟨hb0.out.st, hb0.out.words, by have := hb0.out.deep; dsimp only at this ⊢; omega, hb0.out.lo, by have := hb0.out.hi; dsimp only at this ⊢; push_cast; omega, Nat.le_trans hb0.out.out (by omega)⟩, ?_⟩⟩
                have h02 : st = 0 := h01.out
                subst h02
                have hE1 := hE0.out; rw [b41.out] at hE1; rw [prun_stop (c2 := ⟨line, 0, deep - 1, cur, begun, eline, blank, words, fresh, out⟩) (by rw [see_not (by exact hfr1.out), h01.out]; simp) (by rw [see_not (by exact hfr1.out), h01.out]; simp) (by decide) (by rw [see_not (by exact hfr1.out), ends_mark _ _ (by simp)]; exact mark_shut _ (by simp) hdn.out)] at hE1; exact hE1
          · skip
            have e41 : ((b.toNat : Int) == 41) = false := u8_ne (k := 41) b41
            replace b41 := Lib.hid b41
            by_cases b34 : b = 34
            · skip
              have e34 : ((b.toNat : Int) == 34) = true := u8_beq (k := 34) b34 (by decide)
              replace b34 := Lib.hid b34
              as_aux_lemma =>
                have c0 : w.cell? ⟨g, 0, none⟩ = some (.string (mk s)) := (S0.out.blk.cell 0).trans rfl
                have c1 : w.cell? ⟨g, 1, none⟩ = some (.int .i64 i) := (S0.out.blk.cell 1).trans rfl
                have z1 : w.frozen? ⟨g, 1, none⟩ = false := by rw [S0.out.blk.frozen]; rfl
                have c2 : w.cell? ⟨g, 2, none⟩ = some (.int .i64 line) := (S0.out.blk.cell 2).trans rfl
                have z2 : w.frozen? ⟨g, 2, none⟩ = false := by rw [S0.out.blk.frozen]; rfl
                have c3 : w.cell? ⟨g, 3, none⟩ = some (.int .i64 deep) := (S0.out.blk.cell 3).trans rfl
                have z3 : w.frozen? ⟨g, 3, none⟩ = false := by rw [S0.out.blk.frozen]; rfl
                have c9 : w.cell? ⟨g, 9, none⟩ = some (.int .i64 0) := (S0.out.blk.cell 9).trans rfl
                have z9 : w.frozen? ⟨g, 9, none⟩ = false := by rw [S0.out.blk.frozen]; rfl
                go_enter Try.func51, Try.ntmps51
                try go_wp2_with fail
                go_quiet (fail)
                have S11_ := Lib.hid (S0.out.drew nq)
                have k11_ := Lib.hid (bel_drewN k0.out nq)
                clear c0 c1 z1 c2 z2 c3 z3 c9 z9
                clear S0 k0
                generalize w.drewN nq = w11_ at *
                clear nq
                have c0 : w11_.cell? ⟨g, 0, none⟩ = some (.string (mk s)) := (S11_.out.blk.cell 0).trans rfl
                have c1 : w11_.cell? ⟨g, 1, none⟩ = some (.int .i64 i) := (S11_.out.blk.cell 1).trans rfl
                have z1 : w11_.frozen? ⟨g, 1, none⟩ = false := by rw [S11_.out.blk.frozen]; rfl
                have c2 : w11_.cell? ⟨g, 2, none⟩ = some (.int .i64 line) := (S11_.out.blk.cell 2).trans rfl
                have z2 : w11_.frozen? ⟨g, 2, none⟩ = false := by rw [S11_.out.blk.frozen]; rfl
                have c3 : w11_.cell? ⟨g, 3, none⟩ = some (.int .i64 deep) := (S11_.out.blk.cell 3).trans rfl
                have z3 : w11_.frozen? ⟨g, 3, none⟩ = false := by rw [S11_.out.blk.frozen]; rfl
                have c9 : w11_.cell? ⟨g, 9, none⟩ = some (.int .i64 0) := (S11_.out.blk.cell 9).trans rfl
                have z9 : w11_.frozen? ⟨g, 9, none⟩ = false := by rw [S11_.out.blk.frozen]; rfl
                go_wp2_with fail
                refine (rblank_any w11_ b).mono ?_
                rintro e w9 ⟨rfl, rfl⟩
                go_wp2_with fail
                refine (rquoted_any S11_.out hfr1.out h01.out hb0.out hs1.out hi (by rw [hb1.out]; exact b34.out) hR1.out).mono ?_
                rintro e w6 ⟨rfl, k6, hP⟩
                replace k6 := Lib.hid k6
                replace hP := Lib.hid hP
                clear c0 c1 z1 c2 z2 c3 z3 c9 z9
                go_wp2_with fail
                go_end0
                exact ⟨rfl, k11_.out.trans k6.out, hP.out⟩
            · skip
              have e34 : ((b.toNat : Int) == 34) = false := u8_ne (k := 34) b34
              replace b34 := Lib.hid b34
              as_aux_lemma =>
                have hsb : Hid (stopB b = false) := Lib.hid (by unfold stopB; rw [hbl1.out]; simp [b59.out, b40.out, b41.out, b10.out])
                have c0 : w.cell? ⟨g, 0, none⟩ = some (.string (mk s)) := (S0.out.blk.cell 0).trans rfl
                have c1 : w.cell? ⟨g, 1, none⟩ = some (.int .i64 i) := (S0.out.blk.cell 1).trans rfl
                have z1 : w.frozen? ⟨g, 1, none⟩ = false := by rw [S0.out.blk.frozen]; rfl
                have c2 : w.cell? ⟨g, 2, none⟩ = some (.int .i64 line) := (S0.out.blk.cell 2).trans rfl
                have z2 : w.frozen? ⟨g, 2, none⟩ = false := by rw [S0.out.blk.frozen]; rfl
                have c3 : w.cell? ⟨g, 3, none⟩ = some (.int .i64 deep) := (S0.out.blk.cell 3).trans rfl
                have z3 : w.frozen? ⟨g, 3, none⟩ = false := by rw [S0.out.blk.frozen]; rfl
                have c9 : w.cell? ⟨g, 9, none⟩ = some (.int .i64 0) := (S0.out.blk.cell 9).trans rfl
                have z9 : w.frozen? ⟨g, 9, none⟩ = false := by rw [S0.out.blk.frozen]; rfl
                go_enter Try.func51, Try.ntmps51
                try go_wp2_with fail
                go_quiet (fail)
                have S12_ := Lib.hid (S0.out.drew nq)
                have k12_ := Lib.hid (bel_drewN k0.out nq)
                clear c0 c1 z1 c2 z2 c3 z3 c9 z9
                clear S0 k0
                generalize w.drewN nq = w12_ at *
                clear nq
                have c0 : w12_.cell? ⟨g, 0, none⟩ = some (.string (mk s)) := (S12_.out.blk.cell 0).trans rfl
                have c1 : w12_.cell? ⟨g, 1, none⟩ = some (.int .i64 i) := (S12_.out.blk.cell 1).trans rfl
                have z1 : w12_.frozen? ⟨g, 1, none⟩ = false := by rw [S12_.out.blk.frozen]; rfl
                have c2 : w12_.cell? ⟨g, 2, none⟩ = some (.int .i64 line) := (S12_.out.blk.cell 2).trans rfl
                have z2 : w12_.frozen? ⟨g, 2, none⟩ = false := by rw [S12_.out.blk.frozen]; rfl
                have c3 : w12_.cell? ⟨g, 3, none⟩ = some (.int .i64 deep) := (S12_.out.blk.cell 3).trans rfl
                have z3 : w12_.frozen? ⟨g, 3, none⟩ = false := by rw [S12_.out.blk.frozen]; rfl
                have c9 : w12_.cell? ⟨g, 9, none⟩ = some (.int .i64 0) := (S12_.out.blk.cell 9).trans rfl
                have z9 : w12_.frozen? ⟨g, 9, none⟩ = false := by rw [S12_.out.blk.frozen]; rfl
                go_wp2_with fail
                refine (rblank_any w12_ b).mono ?_
                rintro e w9 ⟨rfl, rfl⟩
                go_wp2_with fail
                refine (rword_any S12_.out hfr1.out h01.out hb0.out hs1.out hi (by rw [hb1.out]; exact hsb.out) (by rw [hb1.out]; exact b34.out) hR1.out).mono ?_
                rintro e w6 ⟨rfl, k6, hP⟩
                replace k6 := Lib.hid k6
                replace hP := Lib.hid hP
                clear c0 c1 z1 c2 z2 c3 z3 c9 z9
                go_wp2_with fail
                go_end0
                exact ⟨rfl, k12_.out.trans k6.out, hP.out⟩
end Go.Proofs.Ytojdjhicjhhblaa
