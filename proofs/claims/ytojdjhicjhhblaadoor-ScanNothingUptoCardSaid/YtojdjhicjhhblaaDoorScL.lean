/- The scanner: what the end of the text does to it. -/
import Derived.Test.YtojdjhicjhhblaaDoorScJ
import Derived.Test.YtojdjhicjhhblaaDoorScK
namespace Go.Proofs.YtojdjhicjhhblaaDoor
open Go Go.RowKit
/-- the scanner behind its run -/
def RunP (B g : Nat) (s : List UInt8) (R : List Ent × (Int × Int)) (w : World) : Prop :=
  (R.2 = (0, 0) ∧ ∃ i c q, SM B g s i c q w ∧ c.out = R.1) ∨ (R.1 = [] ∧ R.2.1 ≠ 0 ∧ SF g R.2 w)
theorem pend_full (tot : Int) (c : Sc) (x : Int × Int) (h : c.st = 1) (hw : c.word = .error x) : pend tot c = ([], x) := by unfold pend; rw [if_pos h, hw]
theorem pend_word (tot : Int) (c c2 : Sc) (h : c.st = 1) (hw : c.word = .ok c2) : pend tot c = pend tot { c2 with st := 0 } := by
  obtain ⟨t1, _⟩ := word_ok hw
  unfold pend
  rw [if_pos h, hw, if_neg (by simp)]
  have h2 : ¬ c2.st = 2 := by omega
  simp [h2, Sc.entry]
theorem pend_deep (tot : Int) (c : Sc) (h : c.st = 1 → False) (hd : c.st = 2 ∨ 0 < c.deep) : pend tot c = ([], (230, tot)) := by
  unfold pend
  rw [if_neg h]
  simp only [hd, if_true]
theorem pend_done (tot : Int) (c : Sc) (h : c.st = 1 → False) (hd : c.st = 2 ∨ 0 < c.deep → False) : pend tot c = (c.entry.out, (0, 0)) := by
  unfold pend
  rw [if_neg h]
  simp only [if_neg hd]
theorem word_err {c : Sc} {x : Int × Int} (h : c.word = .error x) : x.1 = 3 := by
  unfold Sc.word at h
  by_cases h64 : c.words.length = 64
  · rw [if_pos h64] at h; cases h; rfl
  · rw [if_neg h64] at h; cases h
set_option maxHeartbeats 8000000 in
set_option maxRecDepth 100000 in
theorem end_sf {g : Nat} {f : Int × Int} {w : World} (B : Nat) (h : SF g f w) (hf : f.1 ≠ 0) :
    Calls Tryd.prog 36 #[.pointer (some ⟨g, 0, none⟩)] w fun e w' => e = .returned (.tuple #[]) ∧ Below B w w' ∧ SF g f w' := by
  have h0 := Lib.hid h
  obtain ⟨x0, x1, x2, x3, x4, x5, x6, x7, x8, x9, x10, hB⟩ := h
  obtain ⟨f1, f2⟩ := f
  have c11 : w.cell? ⟨g, 11, none⟩ = some (.int .i64 f1) := (hB.cell 11).trans rfl
  have c12 : w.cell? ⟨g, 12, none⟩ = some (.int .i64 f2) := (hB.cell 12).trans rfl
  have e0 : (f1 == 0) = false := by rw [beq_eq_false_iff_ne]; exact hf
  have e1 : (f1 != 0) = true := by rw [bne_iff_ne]; exact hf
  have B1 := Lib.hid hB
  clear hB hf
  go_enter Tryd.func36, Tryd.ntmps36
  go_wp2_with fail
  ((try simp only [Exit.inBlock, Exit.then]); refine bodyPost_ret (results_none rfl _ _ _) rfl ?_)
  exact ⟨rfl, Below.refl _ _, h0.out⟩
set_option maxHeartbeats 8000000 in
set_option maxRecDepth 100000 in
theorem end_0z {B g : Nat} {s : List UInt8} {line : Int} {cur : List UInt8} {begun eline : Int} {blank : Bool} {words : List Trm} {fresh : Bool} {out : List Ent} {q : SV} {w : World} (h : SM B g s s.length ⟨line, 0, 0, cur, begun, eline, blank, words, fresh, out⟩ q w)
    (hs : s.length ≤ 70000) (h64 : words.length ≤ 64) (hout : out.length ≤ 65600) :
    Calls Tryd.prog 36 #[.pointer (some ⟨g, 0, none⟩)] w fun e w' => e = .returned (.tuple #[]) ∧ Below B w w' ∧ RunP B g s (pend (linesOf s) ⟨line, 0, 0, cur, begun, eline, blank, words, fresh, out⟩) w' := by
  have hg0 := linesOf_le s
  obtain ⟨frm, wa, wn, wc, oa, on, oc, eds, m⟩ := q
  have S0 := Lib.hid h
  have ho3 := Lib.hid hout
  have h65 := Lib.hid h64
  have hs3 := Lib.hid hs
  clear h hout h64
  have k0 := Lib.hid (Below.refl B w)
  have c0 : w.cell? ⟨g, 0, none⟩ = some (.string (mk s)) := (S0.out.blk.cell 0).trans rfl
  have c2 : w.cell? ⟨g, 2, none⟩ = some (.int .u8 0) := (S0.out.blk.cell 2).trans rfl
  have c3 : w.cell? ⟨g, 3, none⟩ = some (.int .i64 (0 : Nat)) := (S0.out.blk.cell 3).trans rfl
  have c11 : w.cell? ⟨g, 11, none⟩ = some (.int .i64 0) := (S0.out.blk.cell 11).trans rfl
  have c12 : w.cell? ⟨g, 12, none⟩ = some (.int .i64 0) := (S0.out.blk.cell 12).trans rfl
  go_enter Tryd.func36, Tryd.ntmps36
  go_wp2_with fail
  refine (entry_sm S0.out ho3.out).mono ?_
  rintro e w9 ⟨rfl, k9, q9, S9⟩
  replace k9 := Lib.hid k9
  replace S9 := Lib.hid S9
  clear c0 c2 c3 c11 c12
  go_wp2_with fail
  go_end0
  refine ⟨rfl, k0.out.trans k9.out, .inl ?_⟩
  rw [pend_done _ _ (by simp) (by simp)]
  exact ⟨rfl, _, _, _, S9.out, rfl⟩
set_option maxHeartbeats 8000000 in
set_option maxRecDepth 100000 in
theorem end_0d {B g : Nat} {s : List UInt8} {line : Int} {d : Nat} {cur : List UInt8} {begun eline : Int} {blank : Bool} {words : List Trm} {fresh : Bool} {out : List Ent} {q : SV} {w : World} (h : SM B g s s.length ⟨line, 0, (d + 1), cur, begun, eline, blank, words, fresh, out⟩ q w)
    (hs : s.length ≤ 70000) (h64 : words.length ≤ 64) (hdp : d + 1 ≤ 70000) (hout : out.length ≤ 65600) :
    Calls Tryd.prog 36 #[.pointer (some ⟨g, 0, none⟩)] w fun e w' => e = .returned (.tuple #[]) ∧ Below B w w' ∧ RunP B g s (pend (linesOf s) ⟨line, 0, (d + 1), cur, begun, eline, blank, words, fresh, out⟩) w' := by
  have hg0 := linesOf_le s
  obtain ⟨deep, hdeep⟩ : ∃ deep, d + 1 = deep := ⟨_, rfl⟩
  rw [hdeep] at h ⊢
  replace hdp : deep ≤ 70000 := by omega
  have hd1 : (1 : Int) ≤ deep := by omega
  have hdJ : (deep : Int) ≤ 70000 := by omega
  have hdn : Hid (0 < deep) := Lib.hid (by omega)
  clear hdeep
  obtain ⟨frm, wa, wn, wc, oa, on, oc, eds, m⟩ := q
  have S0 := Lib.hid h
  have ho3 := Lib.hid hout
  have h65 := Lib.hid h64
  have hs3 := Lib.hid hs
  clear h hout h64
  have k0 := Lib.hid (Below.refl B w)
  have c0 : w.cell? ⟨g, 0, none⟩ = some (.string (mk s)) := (S0.out.blk.cell 0).trans rfl
  have c2 : w.cell? ⟨g, 2, none⟩ = some (.int .u8 0) := (S0.out.blk.cell 2).trans rfl
  have c3 : w.cell? ⟨g, 3, none⟩ = some (.int .i64 deep) := (S0.out.blk.cell 3).trans rfl
  have c11 : w.cell? ⟨g, 11, none⟩ = some (.int .i64 0) := (S0.out.blk.cell 11).trans rfl
  have c12 : w.cell? ⟨g, 12, none⟩ = some (.int .i64 0) := (S0.out.blk.cell 12).trans rfl
  go_enter Tryd.func36, Tryd.ntmps36
  go_wp2_with fail
  refine (lines_any w s hs3.out).mono ?_
  rintro e w5 ⟨rfl, k5⟩
  have S5 : Hid (Blk w5 g 62 (0, 0) _) := Lib.hid (S0.out.blk.below k5 S0.out.blk.lt)
  have k6 : Hid (Below B w w5) := Lib.hid (k0.out.trans (k5.mono (Nat.le_trans S0.out.lo S0.out.hi)))
  clear k5 c0 c2 c3 c11 c12
  have y1 : w5.frozen? ⟨g, 1, none⟩ = false := by rw [S5.out.frozen]; rfl
  have v1 : w5.cell? ⟨g, 1, none⟩ = some (.int .i64 line) := (S5.out.cell 1).trans rfl
  go_wp2_with fail
  obtain ⟨Y, hY⟩ : ∃ Y, w5.setCell ⟨g, 1, none⟩ (.int .i64 (linesOf s)) = Y := ⟨_, rfl⟩
  rw [hY]
  have GY : Hid (w5.grownBy Y (some g)) := Lib.hid (by rw [← hY]; exact grown_set _ _ _ _)
  have BY := Lib.hid (S5.out.set 1 (.int .i64 (linesOf s)))
  rw [hY] at BY
  clear hY y1 v1
  refine (wrong_any (g := g) (ln := linesOf s) BY.out).mono ?_
  rintro e w9 ⟨rfl, g9, b9⟩
  replace g9 := Lib.hid g9
  replace b9 := Lib.hid b9
  go_wp2_with fail
  ((try simp only [Exit.inBlock, Exit.then]); refine bodyPost_ret (results_none rfl _ _ _) rfl ?_)
  refine ⟨rfl, k6.out.grown (grown_trans GY.out g9.out) (Nat.le_trans S0.out.lo (Nat.le_trans S0.out.hi k6.out.size)) (fun k hk => by cases hk; exact S0.out.hB), .inr ?_⟩
  rw [pend_deep _ _ (by simp) (.inr hdn.out)]
  exact ⟨rfl, by simp, ⟨_, _, _, _, _, _, _, _, _, _, _, b9.out⟩⟩
set_option maxHeartbeats 8000000 in
set_option maxRecDepth 100000 in
theorem end_1z {B g : Nat} {s : List UInt8} {line : Int} {cur : List UInt8} {begun eline : Int} {blank : Bool} {words : List Trm} {fresh : Bool} {out : List Ent} {q : SV} {w : World} (h : SM B g s s.length ⟨line, 1, 0, cur, begun, eline, blank, words, fresh, out⟩ q w)
    (hs : s.length ≤ 70000) (h64 : words.length ≤ 64) (hout : out.length ≤ 65600) :
    Calls Tryd.prog 36 #[.pointer (some ⟨g, 0, none⟩)] w fun e w' => e = .returned (.tuple #[]) ∧ Below B w w' ∧ RunP B g s (pend (linesOf s) ⟨line, 1, 0, cur, begun, eline, blank, words, fresh, out⟩) w' := by
  have hg0 := linesOf_le s
  obtain ⟨frm, wa, wn, wc, oa, on, oc, eds, m⟩ := q
  have S0 := Lib.hid h
  have ho3 := Lib.hid hout
  have h65 := Lib.hid h64
  have hs3 := Lib.hid hs
  clear h hout h64
  have c0 : w.cell? ⟨g, 0, none⟩ = some (.string (mk s)) := (S0.out.blk.cell 0).trans rfl
  have c2 : w.cell? ⟨g, 2, none⟩ = some (.int .u8 1) := (S0.out.blk.cell 2).trans rfl
  have c3 : w.cell? ⟨g, 3, none⟩ = some (.int .i64 (0 : Nat)) := (S0.out.blk.cell 3).trans rfl
  have c11 : w.cell? ⟨g, 11, none⟩ = some (.int .i64 0) := (S0.out.blk.cell 11).trans rfl
  have c12 : w.cell? ⟨g, 12, none⟩ = some (.int .i64 0) := (S0.out.blk.cell 12).trans rfl
  go_enter Tryd.func36, Tryd.ntmps36
  go_wp2_with fail
  refine (word_sm S0.out (Or.inl rfl) (Nat.le_refl _) h65.out).mono ?_
  rintro e w1 ⟨k1, hoc⟩
  clear c0 c2 c3 c11 c12
  replace k1 := Lib.hid k1
  rcases hoc with ⟨c2, q2, hw, rfl, S1⟩ | ⟨x, hw, rfl, F1⟩
  · obtain ⟨t1, t2, t3, t4, t5, t6, t7⟩ := word_ok hw
    obtain ⟨line2, st2, deep2, cur2, begun2, eline2, blank2, words2, fresh2, out2⟩ := c2
    obtain ⟨frm, wa, wn, wc, oa, on, oc, eds, m⟩ := q2
    dsimp only at t1 t2 t3 t4 t5
    subst t1 t2 t3 t4
    replace S1 := Lib.hid S1
    replace hw := Lib.hid hw
    clear t5 t6 t7
    have c0 : w1.cell? ⟨g, 0, none⟩ = some (.string (mk s)) := (S1.out.blk.cell 0).trans rfl
    have c2 : w1.cell? ⟨g, 2, none⟩ = some (.int .u8 1) := (S1.out.blk.cell 2).trans rfl
    have c3 : w1.cell? ⟨g, 3, none⟩ = some (.int .i64 (0 : Nat)) := (S1.out.blk.cell 3).trans rfl
    have c11 : w1.cell? ⟨g, 11, none⟩ = some (.int .i64 0) := (S1.out.blk.cell 11).trans rfl
    have c12 : w1.cell? ⟨g, 12, none⟩ = some (.int .i64 0) := (S1.out.blk.cell 12).trans rfl
    go_wp2_with fail
    refine (entry_sm S1.out ho3.out).mono ?_
    rintro e w9 ⟨rfl, k9, q9, S9⟩
    replace k9 := Lib.hid k9
    replace S9 := Lib.hid S9
    clear c0 c2 c3 c11 c12
    go_wp2_with fail
    go_end0
    refine ⟨rfl, k1.out.trans k9.out, .inl ?_⟩
    rw [pend_word _ _ _ rfl hw.out, pend_done _ _ (by simp) (by simp)]
    exact ⟨rfl, _, _, _, S9.out, rfl⟩
  · replace hw := Lib.hid hw
    replace F1 := Lib.hid F1
    go_wp2_with fail
    ((try simp only [Exit.inBlock, Exit.then]); refine bodyPost_ret (results_none rfl _ _ _) rfl ?_)
    refine ⟨rfl, k1.out, .inr ?_⟩
    rw [pend_full _ _ _ rfl hw.out]
    exact ⟨rfl, by show x.1 ≠ 0; rw [word_err hw.out]; decide, F1.out⟩
set_option maxHeartbeats 8000000 in
set_option maxRecDepth 100000 in
theorem end_1d {B g : Nat} {s : List UInt8} {line : Int} {d : Nat} {cur : List UInt8} {begun eline : Int} {blank : Bool} {words : List Trm} {fresh : Bool} {out : List Ent} {q : SV} {w : World} (h : SM B g s s.length ⟨line, 1, (d + 1), cur, begun, eline, blank, words, fresh, out⟩ q w)
    (hs : s.length ≤ 70000) (h64 : words.length ≤ 64) (hdp : d + 1 ≤ 70000) (hout : out.length ≤ 65600) :
    Calls Tryd.prog 36 #[.pointer (some ⟨g, 0, none⟩)] w fun e w' => e = .returned (.tuple #[]) ∧ Below B w w' ∧ RunP B g s (pend (linesOf s) ⟨line, 1, (d + 1), cur, begun, eline, blank, words, fresh, out⟩) w' := by
  have hg0 := linesOf_le s
  obtain ⟨deep, hdeep⟩ : ∃ deep, d + 1 = deep := ⟨_, rfl⟩
  rw [hdeep] at h ⊢
  replace hdp : deep ≤ 70000 := by omega
  have hd1 : (1 : Int) ≤ deep := by omega
  have hdJ : (deep : Int) ≤ 70000 := by omega
  have hdn : Hid (0 < deep) := Lib.hid (by omega)
  clear hdeep
  obtain ⟨frm, wa, wn, wc, oa, on, oc, eds, m⟩ := q
  have S0 := Lib.hid h
  have ho3 := Lib.hid hout
  have h65 := Lib.hid h64
  have hs3 := Lib.hid hs
  clear h hout h64
  have c0 : w.cell? ⟨g, 0, none⟩ = some (.string (mk s)) := (S0.out.blk.cell 0).trans rfl
  have c2 : w.cell? ⟨g, 2, none⟩ = some (.int .u8 1) := (S0.out.blk.cell 2).trans rfl
  have c3 : w.cell? ⟨g, 3, none⟩ = some (.int .i64 deep) := (S0.out.blk.cell 3).trans rfl
  have c11 : w.cell? ⟨g, 11, none⟩ = some (.int .i64 0) := (S0.out.blk.cell 11).trans rfl
  have c12 : w.cell? ⟨g, 12, none⟩ = some (.int .i64 0) := (S0.out.blk.cell 12).trans rfl
  go_enter Tryd.func36, Tryd.ntmps36
  go_wp2_with fail
  refine (word_sm S0.out (Or.inl rfl) (Nat.le_refl _) h65.out).mono ?_
  rintro e w1 ⟨k1, hoc⟩
  clear c0 c2 c3 c11 c12
  replace k1 := Lib.hid k1
  rcases hoc with ⟨c2, q2, hw, rfl, S1⟩ | ⟨x, hw, rfl, F1⟩
  · obtain ⟨t1, t2, t3, t4, t5, t6, t7⟩ := word_ok hw
    obtain ⟨line2, st2, deep2, cur2, begun2, eline2, blank2, words2, fresh2, out2⟩ := c2
    obtain ⟨frm, wa, wn, wc, oa, on, oc, eds, m⟩ := q2
    dsimp only at t1 t2 t3 t4 t5
    subst t1 t2 t3 t4
    replace S1 := Lib.hid S1
    replace hw := Lib.hid hw
    clear t5 t6 t7
    have c0 : w1.cell? ⟨g, 0, none⟩ = some (.string (mk s)) := (S1.out.blk.cell 0).trans rfl
    have c2 : w1.cell? ⟨g, 2, none⟩ = some (.int .u8 1) := (S1.out.blk.cell 2).trans rfl
    have c3 : w1.cell? ⟨g, 3, none⟩ = some (.int .i64 deep) := (S1.out.blk.cell 3).trans rfl
    have c11 : w1.cell? ⟨g, 11, none⟩ = some (.int .i64 0) := (S1.out.blk.cell 11).trans rfl
    have c12 : w1.cell? ⟨g, 12, none⟩ = some (.int .i64 0) := (S1.out.blk.cell 12).trans rfl
    go_wp2_with fail
    refine (lines_any w1 s hs3.out).mono ?_
    rintro e w5 ⟨rfl, k5⟩
    have S5 : Hid (Blk w5 g 62 (0, 0) _) := Lib.hid (S1.out.blk.below k5 S1.out.blk.lt)
    have k6 : Hid (Below B w w5) := Lib.hid (k1.out.trans (k5.mono (Nat.le_trans S1.out.lo S1.out.hi)))
    clear k5 c0 c2 c3 c11 c12
    have y1 : w5.frozen? ⟨g, 1, none⟩ = false := by rw [S5.out.frozen]; rfl
    have v1 : w5.cell? ⟨g, 1, none⟩ = some (.int .i64 line) := (S5.out.cell 1).trans rfl
    go_wp2_with fail
    obtain ⟨Y, hY⟩ : ∃ Y, w5.setCell ⟨g, 1, none⟩ (.int .i64 (linesOf s)) = Y := ⟨_, rfl⟩
    rw [hY]
    have GY : Hid (w5.grownBy Y (some g)) := Lib.hid (by rw [← hY]; exact grown_set _ _ _ _)
    have BY := Lib.hid (S5.out.set 1 (.int .i64 (linesOf s)))
    rw [hY] at BY
    clear hY y1 v1
    refine (wrong_any (g := g) (ln := linesOf s) BY.out).mono ?_
    rintro e w9 ⟨rfl, g9, b9⟩
    replace g9 := Lib.hid g9
    replace b9 := Lib.hid b9
    go_wp2_with fail
    ((try simp only [Exit.inBlock, Exit.then]); refine bodyPost_ret (results_none rfl _ _ _) rfl ?_)
    refine ⟨rfl, k6.out.grown (grown_trans GY.out g9.out) (Nat.le_trans S0.out.lo (Nat.le_trans S0.out.hi k6.out.size)) (fun k hk => by cases hk; exact S0.out.hB), .inr ?_⟩
    rw [pend_word _ _ _ rfl hw.out, pend_deep _ _ (by simp) (.inr hdn.out)]
    exact ⟨rfl, by simp, ⟨_, _, _, _, _, _, _, _, _, _, _, b9.out⟩⟩
  · replace hw := Lib.hid hw
    replace F1 := Lib.hid F1
    go_wp2_with fail
    ((try simp only [Exit.inBlock, Exit.then]); refine bodyPost_ret (results_none rfl _ _ _) rfl ?_)
    refine ⟨rfl, k1.out, .inr ?_⟩
    rw [pend_full _ _ _ rfl hw.out]
    exact ⟨rfl, by show x.1 ≠ 0; rw [word_err hw.out]; decide, F1.out⟩
set_option maxHeartbeats 8000000 in
set_option maxRecDepth 100000 in
theorem end_2z {B g : Nat} {s : List UInt8} {line : Int} {cur : List UInt8} {begun eline : Int} {blank : Bool} {words : List Trm} {fresh : Bool} {out : List Ent} {q : SV} {w : World} (h : SM B g s s.length ⟨line, 2, 0, cur, begun, eline, blank, words, fresh, out⟩ q w)
    (hs : s.length ≤ 70000) (h64 : words.length ≤ 64) (hout : out.length ≤ 65600) :
    Calls Tryd.prog 36 #[.pointer (some ⟨g, 0, none⟩)] w fun e w' => e = .returned (.tuple #[]) ∧ Below B w w' ∧ RunP B g s (pend (linesOf s) ⟨line, 2, 0, cur, begun, eline, blank, words, fresh, out⟩) w' := by
  have hg0 := linesOf_le s
  obtain ⟨frm, wa, wn, wc, oa, on, oc, eds, m⟩ := q
  have S0 := Lib.hid h
  have ho3 := Lib.hid hout
  have h65 := Lib.hid h64
  have hs3 := Lib.hid hs
  clear h hout h64
  have k0 := Lib.hid (Below.refl B w)
  have c0 : w.cell? ⟨g, 0, none⟩ = some (.string (mk s)) := (S0.out.blk.cell 0).trans rfl
  have c2 : w.cell? ⟨g, 2, none⟩ = some (.int .u8 2) := (S0.out.blk.cell 2).trans rfl
  have c3 : w.cell? ⟨g, 3, none⟩ = some (.int .i64 (0 : Nat)) := (S0.out.blk.cell 3).trans rfl
  have c11 : w.cell? ⟨g, 11, none⟩ = some (.int .i64 0) := (S0.out.blk.cell 11).trans rfl
  have c12 : w.cell? ⟨g, 12, none⟩ = some (.int .i64 0) := (S0.out.blk.cell 12).trans rfl
  go_enter Tryd.func36, Tryd.ntmps36
  go_wp2_with fail
  refine (lines_any w s hs3.out).mono ?_
  rintro e w5 ⟨rfl, k5⟩
  have S5 : Hid (Blk w5 g 62 (0, 0) _) := Lib.hid (S0.out.blk.below k5 S0.out.blk.lt)
  have k6 : Hid (Below B w w5) := Lib.hid (k0.out.trans (k5.mono (Nat.le_trans S0.out.lo S0.out.hi)))
  clear k5 c0 c2 c3 c11 c12
  have y1 : w5.frozen? ⟨g, 1, none⟩ = false := by rw [S5.out.frozen]; rfl
  have v1 : w5.cell? ⟨g, 1, none⟩ = some (.int .i64 line) := (S5.out.cell 1).trans rfl
  go_wp2_with fail
  obtain ⟨Y, hY⟩ : ∃ Y, w5.setCell ⟨g, 1, none⟩ (.int .i64 (linesOf s)) = Y := ⟨_, rfl⟩
  rw [hY]
  have GY : Hid (w5.grownBy Y (some g)) := Lib.hid (by rw [← hY]; exact grown_set _ _ _ _)
  have BY := Lib.hid (S5.out.set 1 (.int .i64 (linesOf s)))
  rw [hY] at BY
  clear hY y1 v1
  refine (wrong_any (g := g) (ln := linesOf s) BY.out).mono ?_
  rintro e w9 ⟨rfl, g9, b9⟩
  replace g9 := Lib.hid g9
  replace b9 := Lib.hid b9
  go_wp2_with fail
  ((try simp only [Exit.inBlock, Exit.then]); refine bodyPost_ret (results_none rfl _ _ _) rfl ?_)
  refine ⟨rfl, k6.out.grown (grown_trans GY.out g9.out) (Nat.le_trans S0.out.lo (Nat.le_trans S0.out.hi k6.out.size)) (fun k hk => by cases hk; exact S0.out.hB), .inr ?_⟩
  rw [pend_deep _ _ (by simp) (.inl rfl)]
  exact ⟨rfl, by simp, ⟨_, _, _, _, _, _, _, _, _, _, _, b9.out⟩⟩
set_option maxHeartbeats 8000000 in
set_option maxRecDepth 100000 in
theorem end_2d {B g : Nat} {s : List UInt8} {line : Int} {d : Nat} {cur : List UInt8} {begun eline : Int} {blank : Bool} {words : List Trm} {fresh : Bool} {out : List Ent} {q : SV} {w : World} (h : SM B g s s.length ⟨line, 2, (d + 1), cur, begun, eline, blank, words, fresh, out⟩ q w)
    (hs : s.length ≤ 70000) (h64 : words.length ≤ 64) (hdp : d + 1 ≤ 70000) (hout : out.length ≤ 65600) :
    Calls Tryd.prog 36 #[.pointer (some ⟨g, 0, none⟩)] w fun e w' => e = .returned (.tuple #[]) ∧ Below B w w' ∧ RunP B g s (pend (linesOf s) ⟨line, 2, (d + 1), cur, begun, eline, blank, words, fresh, out⟩) w' := by
  have hg0 := linesOf_le s
  obtain ⟨deep, hdeep⟩ : ∃ deep, d + 1 = deep := ⟨_, rfl⟩
  rw [hdeep] at h ⊢
  replace hdp : deep ≤ 70000 := by omega
  have hd1 : (1 : Int) ≤ deep := by omega
  have hdJ : (deep : Int) ≤ 70000 := by omega
  have hdn : Hid (0 < deep) := Lib.hid (by omega)
  clear hdeep
  obtain ⟨frm, wa, wn, wc, oa, on, oc, eds, m⟩ := q
  have S0 := Lib.hid h
  have ho3 := Lib.hid hout
  have h65 := Lib.hid h64
  have hs3 := Lib.hid hs
  clear h hout h64
  have k0 := Lib.hid (Below.refl B w)
  have c0 : w.cell? ⟨g, 0, none⟩ = some (.string (mk s)) := (S0.out.blk.cell 0).trans rfl
  have c2 : w.cell? ⟨g, 2, none⟩ = some (.int .u8 2) := (S0.out.blk.cell 2).trans rfl
  have c3 : w.cell? ⟨g, 3, none⟩ = some (.int .i64 deep) := (S0.out.blk.cell 3).trans rfl
  have c11 : w.cell? ⟨g, 11, none⟩ = some (.int .i64 0) := (S0.out.blk.cell 11).trans rfl
  have c12 : w.cell? ⟨g, 12, none⟩ = some (.int .i64 0) := (S0.out.blk.cell 12).trans rfl
  go_enter Tryd.func36, Tryd.ntmps36
  go_wp2_with fail
  refine (lines_any w s hs3.out).mono ?_
  rintro e w5 ⟨rfl, k5⟩
  have S5 : Hid (Blk w5 g 62 (0, 0) _) := Lib.hid (S0.out.blk.below k5 S0.out.blk.lt)
  have k6 : Hid (Below B w w5) := Lib.hid (k0.out.trans (k5.mono (Nat.le_trans S0.out.lo S0.out.hi)))
  clear k5 c0 c2 c3 c11 c12
  have y1 : w5.frozen? ⟨g, 1, none⟩ = false := by rw [S5.out.frozen]; rfl
  have v1 : w5.cell? ⟨g, 1, none⟩ = some (.int .i64 line) := (S5.out.cell 1).trans rfl
  go_wp2_with fail
  obtain ⟨Y, hY⟩ : ∃ Y, w5.setCell ⟨g, 1, none⟩ (.int .i64 (linesOf s)) = Y := ⟨_, rfl⟩
  rw [hY]
  have GY : Hid (w5.grownBy Y (some g)) := Lib.hid (by rw [← hY]; exact grown_set _ _ _ _)
  have BY := Lib.hid (S5.out.set 1 (.int .i64 (linesOf s)))
  rw [hY] at BY
  clear hY y1 v1
  refine (wrong_any (g := g) (ln := linesOf s) BY.out).mono ?_
  rintro e w9 ⟨rfl, g9, b9⟩
  replace g9 := Lib.hid g9
  replace b9 := Lib.hid b9
  go_wp2_with fail
  ((try simp only [Exit.inBlock, Exit.then]); refine bodyPost_ret (results_none rfl _ _ _) rfl ?_)
  refine ⟨rfl, k6.out.grown (grown_trans GY.out g9.out) (Nat.le_trans S0.out.lo (Nat.le_trans S0.out.hi k6.out.size)) (fun k hk => by cases hk; exact S0.out.hB), .inr ?_⟩
  rw [pend_deep _ _ (by simp) (.inl rfl)]
  exact ⟨rfl, by simp, ⟨_, _, _, _, _, _, _, _, _, _, _, b9.out⟩⟩
set_option maxHeartbeats 8000000 in
set_option maxRecDepth 100000 in
theorem end_3z {B g : Nat} {s : List UInt8} {line : Int} {cur : List UInt8} {begun eline : Int} {blank : Bool} {words : List Trm} {fresh : Bool} {out : List Ent} {q : SV} {w : World} (h : SM B g s s.length ⟨line, 3, 0, cur, begun, eline, blank, words, fresh, out⟩ q w)
    (hs : s.length ≤ 70000) (h64 : words.length ≤ 64) (hout : out.length ≤ 65600) :
    Calls Tryd.prog 36 #[.pointer (some ⟨g, 0, none⟩)] w fun e w' => e = .returned (.tuple #[]) ∧ Below B w w' ∧ RunP B g s (pend (linesOf s) ⟨line, 3, 0, cur, begun, eline, blank, words, fresh, out⟩) w' := by
  have hg0 := linesOf_le s
  obtain ⟨frm, wa, wn, wc, oa, on, oc, eds, m⟩ := q
  have S0 := Lib.hid h
  have ho3 := Lib.hid hout
  have h65 := Lib.hid h64
  have hs3 := Lib.hid hs
  clear h hout h64
  have k0 := Lib.hid (Below.refl B w)
  have c0 : w.cell? ⟨g, 0, none⟩ = some (.string (mk s)) := (S0.out.blk.cell 0).trans rfl
  have c2 : w.cell? ⟨g, 2, none⟩ = some (.int .u8 3) := (S0.out.blk.cell 2).trans rfl
  have c3 : w.cell? ⟨g, 3, none⟩ = some (.int .i64 (0 : Nat)) := (S0.out.blk.cell 3).trans rfl
  have c11 : w.cell? ⟨g, 11, none⟩ = some (.int .i64 0) := (S0.out.blk.cell 11).trans rfl
  have c12 : w.cell? ⟨g, 12, none⟩ = some (.int .i64 0) := (S0.out.blk.cell 12).trans rfl
  go_enter Tryd.func36, Tryd.ntmps36
  go_wp2_with fail
  refine (entry_sm S0.out ho3.out).mono ?_
  rintro e w9 ⟨rfl, k9, q9, S9⟩
  replace k9 := Lib.hid k9
  replace S9 := Lib.hid S9
  clear c0 c2 c3 c11 c12
  go_wp2_with fail
  go_end0
  refine ⟨rfl, k0.out.trans k9.out, .inl ?_⟩
  rw [pend_done _ _ (by simp) (by simp)]
  exact ⟨rfl, _, _, _, S9.out, rfl⟩
set_option maxHeartbeats 8000000 in
set_option maxRecDepth 100000 in
theorem end_3d {B g : Nat} {s : List UInt8} {line : Int} {d : Nat} {cur : List UInt8} {begun eline : Int} {blank : Bool} {words : List Trm} {fresh : Bool} {out : List Ent} {q : SV} {w : World} (h : SM B g s s.length ⟨line, 3, (d + 1), cur, begun, eline, blank, words, fresh, out⟩ q w)
    (hs : s.length ≤ 70000) (h64 : words.length ≤ 64) (hdp : d + 1 ≤ 70000) (hout : out.length ≤ 65600) :
    Calls Tryd.prog 36 #[.pointer (some ⟨g, 0, none⟩)] w fun e w' => e = .returned (.tuple #[]) ∧ Below B w w' ∧ RunP B g s (pend (linesOf s) ⟨line, 3, (d + 1), cur, begun, eline, blank, words, fresh, out⟩) w' := by
  have hg0 := linesOf_le s
  obtain ⟨deep, hdeep⟩ : ∃ deep, d + 1 = deep := ⟨_, rfl⟩
  rw [hdeep] at h ⊢
  replace hdp : deep ≤ 70000 := by omega
  have hd1 : (1 : Int) ≤ deep := by omega
  have hdJ : (deep : Int) ≤ 70000 := by omega
  have hdn : Hid (0 < deep) := Lib.hid (by omega)
  clear hdeep
  obtain ⟨frm, wa, wn, wc, oa, on, oc, eds, m⟩ := q
  have S0 := Lib.hid h
  have ho3 := Lib.hid hout
  have h65 := Lib.hid h64
  have hs3 := Lib.hid hs
  clear h hout h64
  have k0 := Lib.hid (Below.refl B w)
  have c0 : w.cell? ⟨g, 0, none⟩ = some (.string (mk s)) := (S0.out.blk.cell 0).trans rfl
  have c2 : w.cell? ⟨g, 2, none⟩ = some (.int .u8 3) := (S0.out.blk.cell 2).trans rfl
  have c3 : w.cell? ⟨g, 3, none⟩ = some (.int .i64 deep) := (S0.out.blk.cell 3).trans rfl
  have c11 : w.cell? ⟨g, 11, none⟩ = some (.int .i64 0) := (S0.out.blk.cell 11).trans rfl
  have c12 : w.cell? ⟨g, 12, none⟩ = some (.int .i64 0) := (S0.out.blk.cell 12).trans rfl
  go_enter Tryd.func36, Tryd.ntmps36
  go_wp2_with fail
  refine (lines_any w s hs3.out).mono ?_
  rintro e w5 ⟨rfl, k5⟩
  have S5 : Hid (Blk w5 g 62 (0, 0) _) := Lib.hid (S0.out.blk.below k5 S0.out.blk.lt)
  have k6 : Hid (Below B w w5) := Lib.hid (k0.out.trans (k5.mono (Nat.le_trans S0.out.lo S0.out.hi)))
  clear k5 c0 c2 c3 c11 c12
  have y1 : w5.frozen? ⟨g, 1, none⟩ = false := by rw [S5.out.frozen]; rfl
  have v1 : w5.cell? ⟨g, 1, none⟩ = some (.int .i64 line) := (S5.out.cell 1).trans rfl
  go_wp2_with fail
  obtain ⟨Y, hY⟩ : ∃ Y, w5.setCell ⟨g, 1, none⟩ (.int .i64 (linesOf s)) = Y := ⟨_, rfl⟩
  rw [hY]
  have GY : Hid (w5.grownBy Y (some g)) := Lib.hid (by rw [← hY]; exact grown_set _ _ _ _)
  have BY := Lib.hid (S5.out.set 1 (.int .i64 (linesOf s)))
  rw [hY] at BY
  clear hY y1 v1
  refine (wrong_any (g := g) (ln := linesOf s) BY.out).mono ?_
  rintro e w9 ⟨rfl, g9, b9⟩
  replace g9 := Lib.hid g9
  replace b9 := Lib.hid b9
  go_wp2_with fail
  ((try simp only [Exit.inBlock, Exit.then]); refine bodyPost_ret (results_none rfl _ _ _) rfl ?_)
  refine ⟨rfl, k6.out.grown (grown_trans GY.out g9.out) (Nat.le_trans S0.out.lo (Nat.le_trans S0.out.hi k6.out.size)) (fun k hk => by cases hk; exact S0.out.hB), .inr ?_⟩
  rw [pend_deep _ _ (by simp) (.inr hdn.out)]
  exact ⟨rfl, by simp, ⟨_, _, _, _, _, _, _, _, _, _, _, b9.out⟩⟩
set_option maxHeartbeats 8000000 in
set_option maxRecDepth 100000 in
theorem end_4z {B g : Nat} {s : List UInt8} {line : Int} {cur : List UInt8} {begun eline : Int} {blank : Bool} {words : List Trm} {fresh : Bool} {out : List Ent} {q : SV} {w : World} (h : SM B g s s.length ⟨line, 4, 0, cur, begun, eline, blank, words, fresh, out⟩ q w)
    (hs : s.length ≤ 70000) (h64 : words.length ≤ 64) (hout : out.length ≤ 65600) :
    Calls Tryd.prog 36 #[.pointer (some ⟨g, 0, none⟩)] w fun e w' => e = .returned (.tuple #[]) ∧ Below B w w' ∧ RunP B g s (pend (linesOf s) ⟨line, 4, 0, cur, begun, eline, blank, words, fresh, out⟩) w' := by
  have hg0 := linesOf_le s
  obtain ⟨frm, wa, wn, wc, oa, on, oc, eds, m⟩ := q
  have S0 := Lib.hid h
  have ho3 := Lib.hid hout
  have h65 := Lib.hid h64
  have hs3 := Lib.hid hs
  clear h hout h64
  have k0 := Lib.hid (Below.refl B w)
  have c0 : w.cell? ⟨g, 0, none⟩ = some (.string (mk s)) := (S0.out.blk.cell 0).trans rfl
  have c2 : w.cell? ⟨g, 2, none⟩ = some (.int .u8 4) := (S0.out.blk.cell 2).trans rfl
  have c3 : w.cell? ⟨g, 3, none⟩ = some (.int .i64 (0 : Nat)) := (S0.out.blk.cell 3).trans rfl
  have c11 : w.cell? ⟨g, 11, none⟩ = some (.int .i64 0) := (S0.out.blk.cell 11).trans rfl
  have c12 : w.cell? ⟨g, 12, none⟩ = some (.int .i64 0) := (S0.out.blk.cell 12).trans rfl
  go_enter Tryd.func36, Tryd.ntmps36
  go_wp2_with fail
  refine (entry_sm S0.out ho3.out).mono ?_
  rintro e w9 ⟨rfl, k9, q9, S9⟩
  replace k9 := Lib.hid k9
  replace S9 := Lib.hid S9
  clear c0 c2 c3 c11 c12
  go_wp2_with fail
  go_end0
  refine ⟨rfl, k0.out.trans k9.out, .inl ?_⟩
  rw [pend_done _ _ (by simp) (by simp)]
  exact ⟨rfl, _, _, _, S9.out, rfl⟩
set_option maxHeartbeats 8000000 in
set_option maxRecDepth 100000 in
theorem end_4d {B g : Nat} {s : List UInt8} {line : Int} {d : Nat} {cur : List UInt8} {begun eline : Int} {blank : Bool} {words : List Trm} {fresh : Bool} {out : List Ent} {q : SV} {w : World} (h : SM B g s s.length ⟨line, 4, (d + 1), cur, begun, eline, blank, words, fresh, out⟩ q w)
    (hs : s.length ≤ 70000) (h64 : words.length ≤ 64) (hdp : d + 1 ≤ 70000) (hout : out.length ≤ 65600) :
    Calls Tryd.prog 36 #[.pointer (some ⟨g, 0, none⟩)] w fun e w' => e = .returned (.tuple #[]) ∧ Below B w w' ∧ RunP B g s (pend (linesOf s) ⟨line, 4, (d + 1), cur, begun, eline, blank, words, fresh, out⟩) w' := by
  have hg0 := linesOf_le s
  obtain ⟨deep, hdeep⟩ : ∃ deep, d + 1 = deep := ⟨_, rfl⟩
  rw [hdeep] at h ⊢
  replace hdp : deep ≤ 70000 := by omega
  have hd1 : (1 : Int) ≤ deep := by omega
  have hdJ : (deep : Int) ≤ 70000 := by omega
  have hdn : Hid (0 < deep) := Lib.hid (by omega)
  clear hdeep
  obtain ⟨frm, wa, wn, wc, oa, on, oc, eds, m⟩ := q
  have S0 := Lib.hid h
  have ho3 := Lib.hid hout
  have h65 := Lib.hid h64
  have hs3 := Lib.hid hs
  clear h hout h64
  have k0 := Lib.hid (Below.refl B w)
  have c0 : w.cell? ⟨g, 0, none⟩ = some (.string (mk s)) := (S0.out.blk.cell 0).trans rfl
  have c2 : w.cell? ⟨g, 2, none⟩ = some (.int .u8 4) := (S0.out.blk.cell 2).trans rfl
  have c3 : w.cell? ⟨g, 3, none⟩ = some (.int .i64 deep) := (S0.out.blk.cell 3).trans rfl
  have c11 : w.cell? ⟨g, 11, none⟩ = some (.int .i64 0) := (S0.out.blk.cell 11).trans rfl
  have c12 : w.cell? ⟨g, 12, none⟩ = some (.int .i64 0) := (S0.out.blk.cell 12).trans rfl
  go_enter Tryd.func36, Tryd.ntmps36
  go_wp2_with fail
  refine (lines_any w s hs3.out).mono ?_
  rintro e w5 ⟨rfl, k5⟩
  have S5 : Hid (Blk w5 g 62 (0, 0) _) := Lib.hid (S0.out.blk.below k5 S0.out.blk.lt)
  have k6 : Hid (Below B w w5) := Lib.hid (k0.out.trans (k5.mono (Nat.le_trans S0.out.lo S0.out.hi)))
  clear k5 c0 c2 c3 c11 c12
  have y1 : w5.frozen? ⟨g, 1, none⟩ = false := by rw [S5.out.frozen]; rfl
  have v1 : w5.cell? ⟨g, 1, none⟩ = some (.int .i64 line) := (S5.out.cell 1).trans rfl
  go_wp2_with fail
  obtain ⟨Y, hY⟩ : ∃ Y, w5.setCell ⟨g, 1, none⟩ (.int .i64 (linesOf s)) = Y := ⟨_, rfl⟩
  rw [hY]
  have GY : Hid (w5.grownBy Y (some g)) := Lib.hid (by rw [← hY]; exact grown_set _ _ _ _)
  have BY := Lib.hid (S5.out.set 1 (.int .i64 (linesOf s)))
  rw [hY] at BY
  clear hY y1 v1
  refine (wrong_any (g := g) (ln := linesOf s) BY.out).mono ?_
  rintro e w9 ⟨rfl, g9, b9⟩
  replace g9 := Lib.hid g9
  replace b9 := Lib.hid b9
  go_wp2_with fail
  ((try simp only [Exit.inBlock, Exit.then]); refine bodyPost_ret (results_none rfl _ _ _) rfl ?_)
  refine ⟨rfl, k6.out.grown (grown_trans GY.out g9.out) (Nat.le_trans S0.out.lo (Nat.le_trans S0.out.hi k6.out.size)) (fun k hk => by cases hk; exact S0.out.hB), .inr ?_⟩
  rw [pend_deep _ _ (by simp) (.inr hdn.out)]
  exact ⟨rfl, by simp, ⟨_, _, _, _, _, _, _, _, _, _, _, b9.out⟩⟩
theorem end_sm {B g : Nat} {s : List UInt8} {c : Sc} {q : SV} {w : World} (h : SM B g s s.length c q w) (hst : c.st ≤ 4) (hs : s.length ≤ 70000) (h64 : c.words.length ≤ 64) (hdp : c.deep ≤ 70000) (hout : c.out.length ≤ 65600) :
    Calls Tryd.prog 36 #[.pointer (some ⟨g, 0, none⟩)] w fun e w' => e = .returned (.tuple #[]) ∧ Below B w w' ∧ RunP B g s (pend (linesOf s) c) w' := by
  obtain ⟨line, st, deep, cur, begun, eline, blank, words, fresh, out⟩ := c
  dsimp only at *
  have h5 : st = 0 ∨ st = 1 ∨ st = 2 ∨ st = 3 ∨ st = 4 := by omega
  cases deep with
  | zero =>
    rcases h5 with rfl | rfl | rfl | rfl | rfl
    · exact end_0z h hs h64 hout
    · exact end_1z h hs h64 hout
    · exact end_2z h hs h64 hout
    · exact end_3z h hs h64 hout
    · exact end_4z h hs h64 hout
  | succ d =>
    rcases h5 with rfl | rfl | rfl | rfl | rfl
    · exact end_0d h hs h64 hdp hout
    · exact end_1d h hs h64 hdp hout
    · exact end_2d h hs h64 hdp hout
    · exact end_3d h hs h64 hdp hout
    · exact end_4d h hs h64 hdp hout
end Go.Proofs.YtojdjhicjhhblaaDoor
