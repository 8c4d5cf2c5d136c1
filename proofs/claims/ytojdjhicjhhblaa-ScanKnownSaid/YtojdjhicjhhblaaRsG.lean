/- The document's Entries 46. -/
import Derived.Test.YtojdjhicjhhblaaRsF
import Derived.Deep.CutBlock
namespace Go.Proofs.Ytojdjhicjhhblaa
open Go Go.RowKit
/-- at the head of a step -/
structure LI (B g : Nat) (s : List UInt8) (R : List Ent × (Int × Int)) (j : Nat) (c : Sc) (q : RV) (w wr : World) : Prop where
  rm : RM B g s j c q wr
  bel : Below B w wr
  le : j ≤ s.length
  fr : c.fresh = false
  st : c.st = 0
  bnd : Bnd j c
  eq : prun (linesOf s) (s.drop j) c = R
/-- what the loop leaves -/
def LoopP (B g : Nat) (s : List UInt8) (R : List Ent × (Int × Int)) (w wr : World) : Prop :=
  Below B w wr ∧ ((∃ c q, LI B g s R s.length c q w wr) ∨ (R.1 = [] ∧ R.2.1 ≠ 0 ∧ RF g R.2 wr))
set_option maxHeartbeats 8000000 in
set_option maxRecDepth 100000 in
theorem fault_again {w : World} {g : Nat} {x0 x1 x2 x3 x4 x5 x6 x7 x8 : Value} {f1 f2 : Int} (e l : Int) (hB : Blk w g 86 (0, 0) [x0, x1, x2, x3, x4, x5, x6, x7, x8, .int .i64 f1, .int .i64 f2]) (hf : f1 ≠ 0) :
    Calls Try.prog 52 #[.pointer (some ⟨g, 0, none⟩), .int .i64 e, .int .i64 l] w fun r w' => r = .returned (.tuple #[]) ∧ w = w' := by
  have c9 : w.cell? ⟨g, 9, none⟩ = some (.int .i64 f1) := (hB.cell 9).trans rfl
  have e0 : (f1 == 0) = false := by rw [beq_eq_false_iff_ne]; exact hf
  clear hB hf
  go_enter Try.func52, Try.ntmps52
  go_wp2_with fail
  go_end0
  exact ⟨rfl, rfl⟩
theorem look0 (s : List UInt8) : (sc0.entry.look s).st = 0 := by rw [(look_same _ _).1]; rfl
set_option maxHeartbeats 8000000 in
set_option maxRecDepth 100000 in
theorem rentries_any (w : World) (s : List UInt8) (hs1 : (s.length : Int) ≤ 9223372036854775807) : Calls Try.prog 46 #[.string (mk s)] w fun e w' => Below w.heap.size w w' ∧ EntP w.heap.size (pEnt s) e w' := by
  by_cases hs : 65536 < s.length
  · have hp : pEnt s = ([], (3, 0)) := by unfold pEnt; rw [if_pos hs]
    rw [hp]
    have hI : (65536 : Int) < s.length := by omega
    clear hp hs1
    go_enter Try.func46, Try.ntmps46
    go_wp2_with fail
    refine bodyPost_ret (results_tc rfl _ rfl (Blk.new w 36 (0, 0) _) Try.underlying36 rfl (by kernel_rfl)) rfl ?_
    exact ⟨alloc_bel _ _, EntP.none _ (3, 0) _⟩
  have hp : pEnt s = prun (linesOf s) s sc0 := by unfold pEnt; rw [if_neg hs]
  rw [hp]
  have hI : ¬ (65536 : Int) < s.length := by omega
  have hsN := Lib.hid (show s.length ≤ 65536 by omega)
  have hsI : (s.length : Int) ≤ 65536 := by omega
  clear hp hs1 hs
  obtain ⟨R, hR⟩ : ∃ R, prun (linesOf s) s sc0 = R := ⟨_, rfl⟩
  rw [hR]
  have HR := Lib.hid hR
  clear hR
  go_enter Try.func46, Try.ntmps46
  go_wp2_with fail
  obtain ⟨W1, hW1⟩ : ∃ W, w.alloc (.cells #[.int .i64 0, .int .i64 0] 36) = W := ⟨_, rfl⟩
  have B0 : Hid (Blk W1 w.heap.size 36 (0, 0) [.int .i64 0, .int .i64 0]) := Lib.hid (by rw [← hW1]; exact Blk.new w 36 (0, 0) #[.int .i64 0, .int .i64 0])
  have k1 : Hid (Below w.heap.size w W1) := Lib.hid (by rw [← hW1]; exact alloc_bel _ _)
  have z1 : Hid (W1.heap.size = w.heap.size + 1) := Lib.hid (by rw [← hW1]; exact World.size_alloc _ _)
  rw [hW1, show w.heap.size + 1 = W1.heap.size from z1.out.symm]
  clear hW1
  obtain ⟨W2, hW2⟩ : ∃ W, W1.alloc (.cells #[.string (mk s), .int .i64 0, .int .i64 1, .int .i64 0, .bool false, .int .i64 0, .bool false, .slice none 0 0, .slice none 0 0, .int .i64 0, .int .i64 0] 86) = W := ⟨_, rfl⟩
  have B2 : Hid (Blk W2 W1.heap.size 86 (0, 0) [.string (mk s), .int .i64 0, .int .i64 1, .int .i64 0, .bool false, .int .i64 0, .bool false, .slice none 0 0, .slice none 0 0, .int .i64 0, .int .i64 0]) := Lib.hid (by rw [← hW2]; exact Blk.new W1 86 (0, 0) #[.string (mk s), .int .i64 0, .int .i64 1, .int .i64 0, .bool false, .int .i64 0, .bool false, .slice none 0 0, .slice none 0 0, .int .i64 0, .int .i64 0])
  have k2 : Hid (Below W1.heap.size W1 W2) := Lib.hid (by rw [← hW2]; exact alloc_bel _ _)
  rw [hW2]
  clear hW2
  have S2 : RM W1.heap.size W1.heap.size s 0 ⟨1, 0, 0, [], 0, 0, false, [], false, []⟩ ⟨none, 0, 0, none, 0, 0, [], W1.heap.size⟩ W2 :=
    ⟨Nat.le_refl _, B2.out, Own.nil _ _ _, rfl, Own.nil _ _ _, rfl, Ents.nil _ _ _, Nat.le_refl _, k2.out.size⟩
  refine (rend_any S2 rfl (Nat.zero_le _) (Nat.zero_le _)).mono ?_
  clear S2
  rintro e W3 ⟨rfl, k3, q3, R3⟩
  replace k3 := Lib.hid k3
  have HI : Hid (LI W1.heap.size W1.heap.size s R 0 (sc0.entry.look s) q3 W2 W3) := Lib.hid ⟨R3, k3.out, Nat.zero_le _, look_entry_fresh _ _, look0 s, look_bnd ⟨by decide, by decide, by decide, by decide, by decide, by decide⟩ _, by rw [List.drop_zero, prun_look rfl rfl, ← HR.out]; rfl⟩
  have B3 : Hid (Blk W2 w.heap.size 36 (0, 0) [.int .i64 0, .int .i64 0]) := Lib.hid (B0.out.below k2.out B0.out.lt)
  have hB3 : Hid (w.heap.size < W1.heap.size) := Lib.hid (by rw [z1.out]; omega)
  have kk2 : Hid (Below w.heap.size w W2) := Lib.hid (k1.out.trans (k2.out.mono k1.out.size))
  have gW1 : Hid (W1.heap.size < W2.heap.size) := Lib.hid B2.out.lt
  clear R3 k3 B0 k1 k2 z1 B2
  obtain ⟨g, hg⟩ : ∃ g, W1.heap.size = g := ⟨_, rfl⟩
  rw [hg] at HI hB3 gW1 ⊢
  clear hg
  go_upto_block 0 with (fail)
  go_cut [] from 14 to 30 (fun wx => LoopP g g s R W2 wx)
  case first =>
    go_wp2_with fail
    go_loopg [] (s.length + 1) (fun k wr => ∃ j, Hid ((k = s.length + 1 - j ∧ ∃ c q, LI g g s R j c q W2 wr) ∨ (k = 0 ∧ Below g W2 wr ∧ R.1 = [] ∧ R.2.1 ≠ 0 ∧ RF g R.2 wr)))
    case atStart => exact ⟨0, Lib.hid (.inl ⟨rfl, _, _, HI.out⟩)⟩
    case round =>
      obtain ⟨j, hrel⟩ := hrel
      clear HI
      rcases hrel.out with ⟨hgk, c, q, HW⟩ | ⟨hgk, k5, h1, h2, hF⟩
      · replace HW := Lib.hid HW
        replace hgk := Lib.hid hgk
        clear hrel
        obtain ⟨line, st, deep, cur, begun, eline, blank, words, fresh, out⟩ := c
        obtain ⟨wa, wn, wk, oa, on, oc, eds, m⟩ := q
        have S0 := Lib.hid HW.out.rm
        have k0 := Lib.hid HW.out.bel
        have hjl := HW.out.le
        by_cases hlt : j < s.length
        · have hltI : (j : Int) < s.length := by omega
          have c1 : wr.cell? ⟨g, 1, none⟩ = some (.int .i64 j) := (S0.out.blk.cell 1).trans rfl
          have z1 : wr.frozen? ⟨g, 1, none⟩ = false := by rw [S0.out.blk.frozen]; rfl
          have c9 : wr.cell? ⟨g, 9, none⟩ = some (.int .i64 0) := (S0.out.blk.cell 9).trans rfl
          have z9 : wr.frozen? ⟨g, 9, none⟩ = false := by rw [S0.out.blk.frozen]; rfl
          go_wp2_with fail
          refine (rstep_any S0.out HW.out.fr HW.out.st HW.out.bnd hsN.out hlt HW.out.eq).mono ?_
          rintro e w6 ⟨rfl, k6, hP⟩
          replace k6 := Lib.hid k6
          replace hP := Lib.hid hP
          clear c1 z1 c9 z9
          go_wp2_with fail
          rcases hP.out with ⟨j2, c2, q2, hj, hj2, R6, hf2, h02, hb2, hq2⟩ | ⟨h1, h2, F6⟩
          · go_roundg (s.length + 1 - j2)
            case measure => (have := hgk.out; omega)
            case rel => exact ⟨j2, Lib.hid (.inl ⟨rfl, c2, q2, R6, k0.out.trans k6.out, hj2, hf2, h02, hb2, hq2⟩)⟩
          · go_roundg 0
            case measure => (have := hgk.out; omega)
            case rel => exact ⟨0, Lib.hid (.inr ⟨rfl, k0.out.trans k6.out, h1, h2, F6⟩)⟩
        · obtain rfl : j = s.length := by omega
          clear hlt
          have c1 : wr.cell? ⟨g, 1, none⟩ = some (.int .i64 s.length) := (S0.out.blk.cell 1).trans rfl
          have z1 : wr.frozen? ⟨g, 1, none⟩ = false := by rw [S0.out.blk.frozen]; rfl
          have c9 : wr.cell? ⟨g, 9, none⟩ = some (.int .i64 0) := (S0.out.blk.cell 9).trans rfl
          have z9 : wr.frozen? ⟨g, 9, none⟩ = false := by rw [S0.out.blk.frozen]; rfl
          go_wp2_with fail
          go_meet
          exact ⟨k0.out, .inl ⟨_, _, HW.out⟩⟩
      · replace k5 := Lib.hid k5
        replace hgk := Lib.hid hgk
        clear hrel
        have hF0 := Lib.hid hF
        have h12 := Lib.hid (And.intro h1 h2)
        clear h1 h2
        obtain ⟨R1, f1, f2⟩ := R
        obtain ⟨x0, y, x2, y3, x4, x5, x6, x7, x8, hB⟩ := hF
        have e0 : (f1 == 0) = false := by rw [beq_eq_false_iff_ne]; exact h12.out.2
        have c1 : wr.cell? ⟨g, 1, none⟩ = some (.int .i64 y) := (hB.cell 1).trans rfl
        have c9 : wr.cell? ⟨g, 9, none⟩ = some (.int .i64 f1) := (hB.cell 9).trans rfl
        clear hB
        by_cases hy : y < (s.length : Int)
        · go_wp2_with fail
          go_meet
          exact ⟨k5.out, .inr ⟨h12.out.1, h12.out.2, hF0.out⟩⟩
        · have hy2 : decide (y < (s.length : Int)) = false := by simp; omega
          have hy3 : (s.length : Int) ≤ y := by omega
          clear hy
          go_wp2_with fail
          go_meet
          exact ⟨k5.out, .inr ⟨h12.out.1, h12.out.2, hF0.out⟩⟩
  case rest =>
    obtain ⟨k4, hL⟩ := hcut
    clear HI
    have kk : Hid (Below w.heap.size w wc) := Lib.hid (kk2.out.trans (k4.mono (Nat.le_of_lt hB3.out)))
    have B4 : Hid (Blk wc w.heap.size 36 (0, 0) [.int .i64 0, .int .i64 0]) := Lib.hid ((k4.block _ hB3.out).trans B3.out)
    clear k4 B3 kk2
    rcases hL with ⟨c, q, HW⟩ | ⟨h1, h2, hF⟩
    · replace HW := Lib.hid HW
      obtain ⟨line, st, deep, cur, begun, eline, blank, words, fresh, out⟩ := c
      obtain ⟨wa, wn, wk, oa, on, oc, eds, m⟩ := q
      have S0 := Lib.hid HW.out.rm
      have hE : Hid (pend (linesOf s) ⟨line, st, deep, cur, begun, eline, blank, words, fresh, out⟩ = R) := Lib.hid (by have h := HW.out.eq; rw [List.drop_length] at h; exact h)
      have h0 := Lib.hid HW.out.st
      have hfr := Lib.hid HW.out.fr
      have hbn := Lib.hid HW.out.bnd
      clear HW
      have hdI : (0 : Int) ≤ deep := by omega
      have hdJ := hbn.out.deep
      dsimp only at hdJ
      by_cases hd : deep = 0
      · subst hd
        have hRR : Hid (R = (Sc.out (Sc.entry ⟨line, st, 0, cur, begun, eline, blank, words, fresh, out⟩), (0, 0))) := Lib.hid (hE.out.symm.trans (pend_done _ _ (by rw [h0.out]; simp) (by rw [h0.out]; simp)))
        clear hE
        have c3 : wc.cell? ⟨g, 3, none⟩ = some (.int .i64 (0 : Nat)) := (S0.out.blk.cell 3).trans rfl
        have z3 : wc.frozen? ⟨g, 3, none⟩ = false := by rw [S0.out.blk.frozen]; rfl
        have c9 : wc.cell? ⟨g, 9, none⟩ = some (.int .i64 0) := (S0.out.blk.cell 9).trans rfl
        have z9 : wc.frozen? ⟨g, 9, none⟩ = false := by rw [S0.out.blk.frozen]; rfl
        clear hdI hdJ
        go_wp2_with fail
        refine (rend_any S0.out hfr.out (Nat.le_trans hbn.out.out (by have := hsN.out; omega)) (Nat.le_refl _)).mono ?_
        rintro e w6 ⟨rfl, k6, q6, R6⟩
        clear c3 z3 c9 z9
        have B5 : Hid (Blk w6 w.heap.size 36 (0, 0) [.int .i64 0, .int .i64 0]) := Lib.hid ((k6.block _ hB3.out).trans B4.out)
        have kk6 : Hid (Below w.heap.size w w6) := Lib.hid (kk.out.trans (k6.mono (Nat.le_of_lt hB3.out)))
        replace R6 := Lib.hid R6
        clear k6
        obtain ⟨wa6, wn6, wk6, oa6, on6, oc6, eds6, m6⟩ := q6
        have c8 : w6.cell? ⟨g, 8, none⟩ = some (.slice oa6 on6 oc6) := (R6.out.blk.cell 8).trans rfl
        go_wp2_with (refine store_whole rfl 36 (.tmp 3) (.tmp 56) rfl rfl rfl B5.out (by rfl) (by kernel_rfl) (by kernel_rfl) ?_; intro W5 hB4 hg4 hz4; have B6 := Lib.hid hB4; have g4 := Lib.hid hg4; clear hB4 hg4 hz4)
        refine bodyPost_ret (results_tc rfl _ rfl B6.out Try.underlying36 rfl (by kernel_rfl)) rfl ?_
        rw [hRR.out]
        refine ⟨kk6.out.grown g4.out kk6.out.size (fun k hk => by cases hk; exact Nat.le_refl _), oa6, on6, oc6, eds6, m6, rfl, (own_store R6.out.out B5.out (by decide) g4.out).mono (Nat.le_of_lt hB3.out), R6.out.ol, ?_, Nat.le_trans R6.out.hi g4.out.size⟩
        have hen := R6.out.ents
        rw [(look_same _ _).2.2.2.2] at hen
        refine (hen.keep fun k C _ hC => g4.out.block k hC.lt (fun e => ?_)).lower (Nat.le_of_lt hB3.out)
        have e2 := Option.some.inj e
        subst e2
        exact absurd (blk_type hC B5.out) (by decide)
      · have hd1 : (1 : Int) ≤ deep := by omega
        have hdn := Lib.hid hd
        have hRR : Hid (R = ([], (230, linesOf s))) := Lib.hid (hE.out.symm.trans (pend_deep _ _ (by rw [h0.out]; simp) (.inr (by show 0 < deep; omega))))
        clear hE hd
        have c0 : wc.cell? ⟨g, 0, none⟩ = some (.string (mk s)) := (S0.out.blk.cell 0).trans rfl
        have c3 : wc.cell? ⟨g, 3, none⟩ = some (.int .i64 deep) := (S0.out.blk.cell 3).trans rfl
        have z3 : wc.frozen? ⟨g, 3, none⟩ = false := by rw [S0.out.blk.frozen]; rfl
        have c9 : wc.cell? ⟨g, 9, none⟩ = some (.int .i64 0) := (S0.out.blk.cell 9).trans rfl
        have z9 : wc.frozen? ⟨g, 9, none⟩ = false := by rw [S0.out.blk.frozen]; rfl
        go_wp2_with fail
        refine (rlines_any wc s (Nat.le_trans hsN.out (by decide))).mono ?_
        rintro e w9 ⟨rfl, rfl⟩
        go_wp2_with fail
        refine (fault_any 230 (linesOf s) S0.out.blk).mono ?_
        rintro e w6 ⟨rfl, g6, b6⟩
        replace b6 := Lib.hid b6
        have k6 := Lib.hid (S0.out.below g6)
        have hne : Hid (w.heap.size ≠ g) := Lib.hid (Nat.ne_of_lt hB3.out)
        have B5 : Hid (Blk w6 w.heap.size 36 (0, 0) [.int .i64 0, .int .i64 0]) := Lib.hid (B4.out.grown_ g6 hne.out)
        clear g6
        clear c0 c3 z3 c9 z9
        have kk6 : Hid (Below w.heap.size w w6) := Lib.hid (kk.out.trans (k6.out.mono (Nat.le_of_lt hB3.out)))
        clear k6 S0
        have c9 : w6.cell? ⟨g, 9, none⟩ = some (.int .i64 230) := (b6.out.cell 9).trans rfl
        have c10 : w6.cell? ⟨g, 10, none⟩ = some (.int .i64 (linesOf s)) := (b6.out.cell 10).trans rfl
        go_upto_region 10 with (fail)
        refine wp_region_still_tail 5 (by kernel_rfl) (by kernel_rfl) ?_
        simp only [List.take_succ_cons, List.take_zero, List.drop_succ_cons, List.drop_zero]
        iterate 5 still_step
        refine wpStill_nil ?_
        change wpList _ _ _ _ _ w6.drew
        have B5 : Hid (Blk w6.drew w.heap.size 36 (0, 0) [.int .i64 0, .int .i64 0]) := Lib.hid B5.out
        have kk5 : Hid (Below w.heap.size w w6.drew) := Lib.hid (kk6.out.drew)
        generalize w6.drew = W4 at *
        go_wp2_with (refine store_whole rfl 36 (.tmp 3) (.tmp 49) rfl rfl rfl B5.out (by rfl) (by kernel_rfl) (by kernel_rfl) ?_; intro W5 hB4 hg4 hz4; have B6 := Lib.hid hB4; have g4 := Lib.hid hg4; clear hB4 hg4 hz4)
        refine bodyPost_ret (results_tc rfl _ rfl B6.out Try.underlying36 rfl (by kernel_rfl)) rfl ?_
        rw [hRR.out]
        exact ⟨kk5.out.grown g4.out kk5.out.size (fun k hk => by cases hk; exact Nat.le_refl _), EntP.none _ (230, linesOf s) _⟩
    · have h12 := Lib.hid (And.intro h1 h2)
      clear h1 h2
      obtain ⟨R1, f1, f2⟩ := R
      obtain rfl : R1 = [] := h12.out.1
      have hf1 := h12.out.2
      dsimp only at hf1
      have hF0 := Lib.hid hF
      obtain ⟨x0, y, x2, y3, x4, x5, x6, x7, x8, hB⟩ := hF
      have e0 : (f1 == 0) = false := by rw [beq_eq_false_iff_ne]; exact hf1
      have e1 : (f1 != 0) = true := by rw [bne_iff_ne]; exact hf1
      clear hf1
      have c3 : wc.cell? ⟨g, 3, none⟩ = some (.int .i64 y3) := (hB.cell 3).trans rfl
      have c9 : wc.cell? ⟨g, 9, none⟩ = some (.int .i64 f1) := (hB.cell 9).trans rfl
      have c10 : wc.cell? ⟨g, 10, none⟩ = some (.int .i64 f2) := (hB.cell 10).trans rfl
      have b0 := Lib.hid hB
      clear hB
      by_cases hy : 0 < y3
      · have hyy := hy
        go_wp2_with fail
        refine (rlines_any wc s (Nat.le_trans hsN.out (by decide))).mono ?_
        rintro e w9 ⟨rfl, rfl⟩
        go_wp2_with fail
        refine (fault_again 230 (linesOf s) b0.out h12.out.2).mono ?_
        rintro e w9 ⟨rfl, rfl⟩
        go_upto_region 10 with (fail)
        refine wp_region_still_tail 5 (by kernel_rfl) (by kernel_rfl) ?_
        simp only [List.take_succ_cons, List.take_zero, List.drop_succ_cons, List.drop_zero]
        iterate 5 still_step
        refine wpStill_nil ?_
        change wpList _ _ _ _ _ wc.drew
        have B5 : Hid (Blk wc.drew w.heap.size 36 (0, 0) [.int .i64 0, .int .i64 0]) := Lib.hid B4.out
        have kk5 : Hid (Below w.heap.size w wc.drew) := Lib.hid (kk.out.drew)
        generalize wc.drew = W4 at *
        go_wp2_with (refine store_whole rfl 36 (.tmp 3) (.tmp 49) rfl rfl rfl B5.out (by rfl) (by kernel_rfl) (by kernel_rfl) ?_; intro W5 hB4 hg4 hz4; have B6 := Lib.hid hB4; have g4 := Lib.hid hg4; clear hB4 hg4 hz4)
        refine bodyPost_ret (results_tc rfl _ rfl B6.out Try.underlying36 rfl (by kernel_rfl)) rfl ?_
        exact ⟨kk5.out.grown g4.out kk5.out.size (fun k hk => by cases hk; exact Nat.le_refl _), EntP.none _ (f1, f2) _⟩
      · have hy2 : decide (0 < y3) = false := by simp; omega
        have hy3 : y3 ≤ 0 := by omega
        clear hy
        go_upto_region 10 with (fail)
        refine wp_region_still_tail 5 (by kernel_rfl) (by kernel_rfl) ?_
        simp only [List.take_succ_cons, List.take_zero, List.drop_succ_cons, List.drop_zero]
        iterate 5 still_step
        refine wpStill_nil ?_
        change wpList _ _ _ _ _ wc.drew
        have B5 : Hid (Blk wc.drew w.heap.size 36 (0, 0) [.int .i64 0, .int .i64 0]) := Lib.hid B4.out
        have kk5 : Hid (Below w.heap.size w wc.drew) := Lib.hid (kk.out.drew)
        generalize wc.drew = W4 at *
        go_wp2_with (refine store_whole rfl 36 (.tmp 3) (.tmp 49) rfl rfl rfl B5.out (by rfl) (by kernel_rfl) (by kernel_rfl) ?_; intro W5 hB4 hg4 hz4; have B6 := Lib.hid hB4; have g4 := Lib.hid hg4; clear hB4 hg4 hz4)
        refine bodyPost_ret (results_tc rfl _ rfl B6.out Try.underlying36 rfl (by kernel_rfl)) rfl ?_
        exact ⟨kk5.out.grown g4.out kk5.out.size (fun k hk => by cases hk; exact Nat.le_refl _), EntP.none _ (f1, f2) _⟩
end Go.Proofs.Ytojdjhicjhhblaa
