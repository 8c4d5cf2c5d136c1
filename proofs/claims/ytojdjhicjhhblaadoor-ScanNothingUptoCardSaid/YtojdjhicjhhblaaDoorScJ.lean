/- The scanner: what ends does to it. -/
import Derived.Test.YtojdjhicjhhblaaDoorScI
namespace Go.Proofs.YtojdjhicjhhblaaDoor
open Go Go.RowKit
theorem SM.upd {B g : Nat} {s : List UInt8} {i j f : Nat} {c c2 : Sc} {q : SV} {w w2 : World} (h : SM B g s i c q w) (hg : w.grownBy w2 (some g)) (hb : Blk w2 g 62 (0, 0) (scC s c2 { q with frm := f })) (hw : c2.words = c.words) (ho : c2.out = c.out)
    (hc : c2.st = 1 ∨ c2.st = 2 → f ≤ j ∧ c2.cur = (s.take j).drop f) : SM B g s j c2 { q with frm := f } w2 := by
  refine ⟨h.hB, hb, ?_, ?_, own_store h.out h.blk (by decide) hg, h.ol, ?_, h.lo, Nat.le_trans h.hi hg.size, hc⟩
  · rw [hw]; exact own_store h.words h.blk (by decide) hg
  · rw [hw]; exact h.wl
  · rw [ho]; exact h.ents.keep fun k C _ hC => keep_g h.blk hg (by decide) hC
theorem SM.below {B g : Nat} {s : List UInt8} {i : Nat} {c : Sc} {q : SV} {w w2 : World} (h : SM B g s i c q w) (hg : w.grownBy w2 (some g)) : Below B w w2 :=
  (Below.refl B w).grown hg (Nat.le_trans h.lo h.hi) (fun k hk => by cases hk; exact h.hB)
/-- the marks -/
theorem mark_semi (c : Sc) (h : c.st = 4 → False) : c.mark 59 = .ok { c with st := 4 } := by
  have h4 : (c.st == 4) = false := by rw [beq_eq_false_iff_ne]; exact h
  unfold Sc.mark; simp [h4]
theorem mark_open (c : Sc) (h : c.st = 4 → False) : c.mark 40 = .ok { c with st := 0, deep := c.deep + 1 } := by
  have h4 : (c.st == 4) = false := by rw [beq_eq_false_iff_ne]; exact h
  unfold Sc.mark; simp [h4]
theorem mark_shut0 (c : Sc) (h : c.st = 4 → False) (hd : c.deep = 0) : c.mark 41 = .error (230, c.line) := by
  have h4 : (c.st == 4) = false := by rw [beq_eq_false_iff_ne]; exact h
  unfold Sc.mark; simp [h4, hd]
theorem mark_shut (c : Sc) (h : c.st = 4 → False) (hd : ¬ c.deep = 0) : c.mark 41 = .ok { c with st := 0, deep := c.deep - 1 } := by
  have h4 : (c.st == 4) = false := by rw [beq_eq_false_iff_ne]; exact h
  unfold Sc.mark; simp [h4, hd]
theorem mark_line0 (c : Sc) (hd : c.deep = 0) : c.mark 10 = .ok { ({ c with st := 0 } : Sc).entry with line := c.line + 1 } := by
  unfold Sc.mark Sc.entry; simp [hd]
theorem mark_line (c : Sc) (hd : ¬ c.deep = 0) : c.mark 10 = .ok { c with st := 0, line := c.line + 1 } := by
  unfold Sc.mark; simp [hd]
theorem mark_else (c : Sc) (h : c.st = 4 → False) (b : UInt8) (h1 : ¬ b = 59) (h2 : ¬ b = 40) (h3 : ¬ b = 41) (h4 : ¬ b = 10) : c.mark b = .ok { c with st := 0 } := by
  have h5 : (c.st == 4) = false := by rw [beq_eq_false_iff_ne]; exact h
  unfold Sc.mark; simp [h1, h2, h3, h4, h5]
/-- ends, read -/
theorem ends_word (b : UInt8) (c c2 : Sc) (h : c.st = 1) (hw : c.word = .ok c2) : c.ends b = c2.mark b := by unfold Sc.ends; rw [if_pos h, hw]
theorem ends_full (b : UInt8) (c : Sc) (x : Int × Int) (h : c.st = 1) (hw : c.word = .error x) : c.ends b = .error x := by unfold Sc.ends; rw [if_pos h, hw]
theorem ends_mark (b : UInt8) (c : Sc) (h : c.st = 1 → False) : c.ends b = c.mark b := by unfold Sc.ends; rw [if_neg h]
theorem word_ok {c c2 : Sc} (h : c.word = .ok c2) : c.st = c2.st ∧ c.line = c2.line ∧ c.deep = c2.deep ∧ c.out = c2.out ∧ c.fresh = c2.fresh ∧ c2.words.length = c.words.length + 1 ∧ c.words.length ≠ 64 := by
  unfold Sc.word at h
  by_cases h64 : c.words.length = 64
  · rw [if_pos h64] at h; cases h
  · rw [if_neg h64] at h; cases h; exact ⟨rfl, rfl, rfl, rfl, rfl, by simp, h64⟩
theorem u8_ne {b : UInt8} {k : Nat} (h : ¬ b = UInt8.ofNat k) : ((b.toNat : Int) == (k : Int)) = false := by
  rw [beq_eq_false_iff_ne]
  intro e
  have e2 : b.toNat = k := by exact_mod_cast e
  exact h (by rw [← e2]; simp)
set_option maxHeartbeats 8000000 in
set_option maxRecDepth 100000 in
theorem ends_semi0 {B g : Nat} {s : List UInt8} {i : Nat} {line : Int} {deep : Nat} {cur : List UInt8} {begun eline : Int} {blank : Bool} {words : List Trm} {fresh : Bool} {out : List Ent} {q : SV} {w : World} (h : SM B g s i ⟨line, 0, deep, cur, begun, eline, blank, words, fresh, out⟩ q w)
    (hi2 : i ≤ s.length) (h64 : words.length ≤ 64) (hdp : deep ≤ 70000) (hout : out.length ≤ 65600) :
    Calls Tryd.prog 31 #[.pointer (some ⟨g, 0, none⟩), .int .u8 59, .int .i64 i] w fun e w' => Below B w w' ∧ Oc B g s i (Sc.ends (59 : UInt8) ⟨line, 0, deep, cur, begun, eline, blank, words, fresh, out⟩) e w' := by
  have hdI : (0 : Int) ≤ deep := by omega
  have hdJ : (deep : Int) ≤ 70000 := by omega
  obtain ⟨frm, wa, wn, wc, oa, on, oc, eds, m⟩ := q
  have S0 := Lib.hid h
  have hout1 := Lib.hid hout
  have hi3 := Lib.hid hi2
  have h65 := Lib.hid h64
  clear h hout hi2 h64
  have hout2 := hout1
  have k0 := Lib.hid (Below.refl B w)
  have c1 : w.cell? ⟨g, 1, none⟩ = some (.int .i64 line) := (S0.out.blk.cell 1).trans rfl
  have z1 : w.frozen? ⟨g, 1, none⟩ = false := by rw [S0.out.blk.frozen]; rfl
  have c2 : w.cell? ⟨g, 2, none⟩ = some (.int .u8 0) := (S0.out.blk.cell 2).trans rfl
  have z2 : w.frozen? ⟨g, 2, none⟩ = false := by rw [S0.out.blk.frozen]; rfl
  have c3 : w.cell? ⟨g, 3, none⟩ = some (.int .i64 deep) := (S0.out.blk.cell 3).trans rfl
  have z3 : w.frozen? ⟨g, 3, none⟩ = false := by rw [S0.out.blk.frozen]; rfl
  go_enter Tryd.func31, Tryd.ntmps31
  go_wp2_with fail
  go_ret
  have G9 : Hid (w.grownBy (((w).setCell ⟨g, 2, none⟩ (.int .u8 0)).setCell ⟨g, 2, none⟩ (.int .u8 4)) (some g)) := Lib.hid (grown_trans (grown_set _ _ _ _) (grown_set _ _ _ _))
  exact ⟨k0.out.trans (S0.out.below G9.out), .inl ⟨_, _, (ends_mark _ _ (by simp)).trans (mark_semi _ (by simp)), rfl, SM.upd (f := frm) S0.out G9.out (((S0.out.blk.set 2 _).set 2 _)) rfl rfl (fun h => by rcases h with h | h <;> cases h)⟩⟩
set_option maxHeartbeats 8000000 in
set_option maxRecDepth 100000 in
theorem ends_open0 {B g : Nat} {s : List UInt8} {i : Nat} {line : Int} {deep : Nat} {cur : List UInt8} {begun eline : Int} {blank : Bool} {words : List Trm} {fresh : Bool} {out : List Ent} {q : SV} {w : World} (h : SM B g s i ⟨line, 0, deep, cur, begun, eline, blank, words, fresh, out⟩ q w)
    (hi2 : i ≤ s.length) (h64 : words.length ≤ 64) (hdp : deep ≤ 70000) (hout : out.length ≤ 65600) :
    Calls Tryd.prog 31 #[.pointer (some ⟨g, 0, none⟩), .int .u8 40, .int .i64 i] w fun e w' => Below B w w' ∧ Oc B g s i (Sc.ends (40 : UInt8) ⟨line, 0, deep, cur, begun, eline, blank, words, fresh, out⟩) e w' := by
  have hdI : (0 : Int) ≤ deep := by omega
  have hdJ : (deep : Int) ≤ 70000 := by omega
  obtain ⟨frm, wa, wn, wc, oa, on, oc, eds, m⟩ := q
  have S0 := Lib.hid h
  have hout1 := Lib.hid hout
  have hi3 := Lib.hid hi2
  have h65 := Lib.hid h64
  clear h hout hi2 h64
  have hout2 := hout1
  have k0 := Lib.hid (Below.refl B w)
  have c1 : w.cell? ⟨g, 1, none⟩ = some (.int .i64 line) := (S0.out.blk.cell 1).trans rfl
  have z1 : w.frozen? ⟨g, 1, none⟩ = false := by rw [S0.out.blk.frozen]; rfl
  have c2 : w.cell? ⟨g, 2, none⟩ = some (.int .u8 0) := (S0.out.blk.cell 2).trans rfl
  have z2 : w.frozen? ⟨g, 2, none⟩ = false := by rw [S0.out.blk.frozen]; rfl
  have c3 : w.cell? ⟨g, 3, none⟩ = some (.int .i64 deep) := (S0.out.blk.cell 3).trans rfl
  have z3 : w.frozen? ⟨g, 3, none⟩ = false := by rw [S0.out.blk.frozen]; rfl
  go_enter Tryd.func31, Tryd.ntmps31
  go_wp2_with fail
  go_ret
  have G9 : Hid (w.grownBy (((w).setCell ⟨g, 2, none⟩ (.int .u8 0)).setCell ⟨g, 3, none⟩ (.int .i64 ((deep : Int) + 1))) (some g)) := Lib.hid (grown_trans (grown_set _ _ _ _) (grown_set _ _ _ _))
  exact ⟨k0.out.trans (S0.out.below G9.out), .inl ⟨_, _, (ends_mark _ _ (by simp)).trans (mark_open _ (by simp)), rfl, SM.upd (f := frm) S0.out G9.out (((S0.out.blk.set 2 _).set 3 _)) rfl rfl (fun h => by rcases h with h | h <;> cases h)⟩⟩
set_option maxHeartbeats 8000000 in
set_option maxRecDepth 100000 in
theorem ends_shut00 {B g : Nat} {s : List UInt8} {i : Nat} {line : Int} {cur : List UInt8} {begun eline : Int} {blank : Bool} {words : List Trm} {fresh : Bool} {out : List Ent} {q : SV} {w : World} (h : SM B g s i ⟨line, 0, 0, cur, begun, eline, blank, words, fresh, out⟩ q w)
    (hi2 : i ≤ s.length) (h64 : words.length ≤ 64) (hout : out.length ≤ 65600) :
    Calls Tryd.prog 31 #[.pointer (some ⟨g, 0, none⟩), .int .u8 41, .int .i64 i] w fun e w' => Below B w w' ∧ Oc B g s i (Sc.ends (41 : UInt8) ⟨line, 0, 0, cur, begun, eline, blank, words, fresh, out⟩) e w' := by
  obtain ⟨frm, wa, wn, wc, oa, on, oc, eds, m⟩ := q
  have S0 := Lib.hid h
  have hout1 := Lib.hid hout
  have hi3 := Lib.hid hi2
  have h65 := Lib.hid h64
  clear h hout hi2 h64
  have hout2 := hout1
  have k0 := Lib.hid (Below.refl B w)
  have c1 : w.cell? ⟨g, 1, none⟩ = some (.int .i64 line) := (S0.out.blk.cell 1).trans rfl
  have z1 : w.frozen? ⟨g, 1, none⟩ = false := by rw [S0.out.blk.frozen]; rfl
  have c2 : w.cell? ⟨g, 2, none⟩ = some (.int .u8 0) := (S0.out.blk.cell 2).trans rfl
  have z2 : w.frozen? ⟨g, 2, none⟩ = false := by rw [S0.out.blk.frozen]; rfl
  have c3 : w.cell? ⟨g, 3, none⟩ = some (.int .i64 (0 : Nat)) := (S0.out.blk.cell 3).trans rfl
  have z3 : w.frozen? ⟨g, 3, none⟩ = false := by rw [S0.out.blk.frozen]; rfl
  go_enter Tryd.func31, Tryd.ntmps31
  go_wp2_with fail
  obtain ⟨Y, hY⟩ : ∃ Y, w.setCell ⟨g, 2, none⟩ (.int .u8 0) = Y := ⟨_, rfl⟩
  rw [hY]
  have GY : Hid (w.grownBy Y (some g)) := Lib.hid (by rw [← hY]; exact grown_set _ _ _ _)
  have BY := Lib.hid (S0.out.blk.set 2 (.int .u8 0))
  rw [hY] at BY
  clear hY
  refine (wrong_any (g := g) (ln := line) BY.out).mono ?_
  rintro e w9 ⟨rfl, g9, b9⟩
  replace g9 := Lib.hid g9
  replace b9 := Lib.hid b9
  clear c1 c2 c3 z1 z2 z3
  go_wp2_with fail
  go_ret
  exact ⟨k0.out.trans (S0.out.below (grown_trans GY.out g9.out)), .inr ⟨_, (ends_mark _ _ (by simp)).trans (mark_shut0 _ (by simp) rfl), rfl, ⟨_, _, _, _, _, _, _, _, _, _, _, b9.out⟩⟩⟩
set_option maxHeartbeats 8000000 in
set_option maxRecDepth 100000 in
theorem ends_shut0 {B g : Nat} {s : List UInt8} {i : Nat} {line : Int} {d : Nat} {cur : List UInt8} {begun eline : Int} {blank : Bool} {words : List Trm} {fresh : Bool} {out : List Ent} {q : SV} {w : World} (h : SM B g s i ⟨line, 0, (d + 1), cur, begun, eline, blank, words, fresh, out⟩ q w)
    (hi2 : i ≤ s.length) (h64 : words.length ≤ 64) (hdp : d + 1 ≤ 70000) (hout : out.length ≤ 65600) :
    Calls Tryd.prog 31 #[.pointer (some ⟨g, 0, none⟩), .int .u8 41, .int .i64 i] w fun e w' => Below B w w' ∧ Oc B g s i (Sc.ends (41 : UInt8) ⟨line, 0, (d + 1), cur, begun, eline, blank, words, fresh, out⟩) e w' := by
  obtain ⟨deep, hdeep⟩ : ∃ deep, d + 1 = deep := ⟨_, rfl⟩
  rw [hdeep] at h ⊢
  replace hdp : deep ≤ 70000 := by omega
  have hd1 : (1 : Int) ≤ deep := by omega
  have ed : ((deep : Int) == 0) = false := by rw [beq_eq_false_iff_ne]; omega
  have hdn : Hid (¬ deep = 0) := Lib.hid (by omega)
  clear hdeep
  have hdI : (0 : Int) ≤ deep := by omega
  have hdJ : (deep : Int) ≤ 70000 := by omega
  obtain ⟨frm, wa, wn, wc, oa, on, oc, eds, m⟩ := q
  have S0 := Lib.hid h
  have hout1 := Lib.hid hout
  have hi3 := Lib.hid hi2
  have h65 := Lib.hid h64
  clear h hout hi2 h64
  have hout2 := hout1
  have k0 := Lib.hid (Below.refl B w)
  have c1 : w.cell? ⟨g, 1, none⟩ = some (.int .i64 line) := (S0.out.blk.cell 1).trans rfl
  have z1 : w.frozen? ⟨g, 1, none⟩ = false := by rw [S0.out.blk.frozen]; rfl
  have c2 : w.cell? ⟨g, 2, none⟩ = some (.int .u8 0) := (S0.out.blk.cell 2).trans rfl
  have z2 : w.frozen? ⟨g, 2, none⟩ = false := by rw [S0.out.blk.frozen]; rfl
  have c3 : w.cell? ⟨g, 3, none⟩ = some (.int .i64 deep) := (S0.out.blk.cell 3).trans rfl
  have z3 : w.frozen? ⟨g, 3, none⟩ = false := by rw [S0.out.blk.frozen]; rfl
  go_enter Tryd.func31, Tryd.ntmps31
  go_wp2_with fail
  have ec : (deep : Int) - 1 = ((deep - 1 : Nat) : Int) := by omega
  rw [ec]
  go_ret
  have G9 : Hid (w.grownBy (((w).setCell ⟨g, 2, none⟩ (.int .u8 0)).setCell ⟨g, 3, none⟩ (.int .i64 ((deep - 1 : Nat) : Int))) (some g)) := Lib.hid (grown_trans (grown_set _ _ _ _) (grown_set _ _ _ _))
  exact ⟨k0.out.trans (S0.out.below G9.out), .inl ⟨_, _, (ends_mark _ _ (by simp)).trans (mark_shut _ (by simp) hdn.out), rfl, SM.upd (f := frm) S0.out G9.out (((S0.out.blk.set 2 _).set 3 _)) rfl rfl (fun h => by rcases h with h | h <;> cases h)⟩⟩
set_option maxHeartbeats 8000000 in
set_option maxRecDepth 100000 in
theorem ends_line00 {B g : Nat} {s : List UInt8} {i : Nat} {line : Int} {cur : List UInt8} {begun eline : Int} {blank : Bool} {words : List Trm} {fresh : Bool} {out : List Ent} {q : SV} {w : World} (h : SM B g s i ⟨line, 0, 0, cur, begun, eline, blank, words, fresh, out⟩ q w)
    (hi2 : i ≤ s.length) (h64 : words.length ≤ 64) (hl0 : 0 ≤ line) (hl1 : line ≤ 70000) (hout : out.length ≤ 65600) :
    Calls Tryd.prog 31 #[.pointer (some ⟨g, 0, none⟩), .int .u8 10, .int .i64 i] w fun e w' => Below B w w' ∧ Oc B g s i (Sc.ends (10 : UInt8) ⟨line, 0, 0, cur, begun, eline, blank, words, fresh, out⟩) e w' := by
  obtain ⟨frm, wa, wn, wc, oa, on, oc, eds, m⟩ := q
  have S0 := Lib.hid h
  have hout1 := Lib.hid hout
  have hi3 := Lib.hid hi2
  have h65 := Lib.hid h64
  clear h hout hi2 h64
  have hout2 := hout1
  have k0 := Lib.hid (Below.refl B w)
  have c1 : w.cell? ⟨g, 1, none⟩ = some (.int .i64 line) := (S0.out.blk.cell 1).trans rfl
  have z1 : w.frozen? ⟨g, 1, none⟩ = false := by rw [S0.out.blk.frozen]; rfl
  have c2 : w.cell? ⟨g, 2, none⟩ = some (.int .u8 0) := (S0.out.blk.cell 2).trans rfl
  have z2 : w.frozen? ⟨g, 2, none⟩ = false := by rw [S0.out.blk.frozen]; rfl
  have c3 : w.cell? ⟨g, 3, none⟩ = some (.int .i64 (0 : Nat)) := (S0.out.blk.cell 3).trans rfl
  have z3 : w.frozen? ⟨g, 3, none⟩ = false := by rw [S0.out.blk.frozen]; rfl
  go_enter Tryd.func31, Tryd.ntmps31
  go_wp2_with fail
  obtain ⟨Y, hY⟩ : ∃ Y, w.setCell ⟨g, 2, none⟩ (.int .u8 0) = Y := ⟨_, rfl⟩
  rw [hY]
  have GY : Hid (w.grownBy Y (some g)) := Lib.hid (by rw [← hY]; exact grown_set _ _ _ _)
  have BY := Lib.hid (S0.out.blk.set 2 (.int .u8 0))
  rw [hY] at BY
  clear hY
  have SY := Lib.hid (SM.upd (f := frm) (c2 := ⟨line, 0, 0, cur, begun, eline, blank, words, fresh, out⟩) S0.out GY.out BY.out rfl rfl (fun h => by rcases h with h | h <;> cases h) : SM B g s i _ _ Y)
  refine (entry_sm SY.out (by first | exact hout.out | exact hout2.out)).mono ?_
  rintro e w9 ⟨rfl, k9, q9, S9⟩
  replace k9 := Lib.hid k9
  replace S9 := Lib.hid S9
  clear c1 c2 c3 z1 z2 z3
  have d1 : w9.cell? ⟨g, 1, none⟩ = some (.int .i64 line) := (S9.out.blk.cell 1).trans rfl
  have y1 : w9.frozen? ⟨g, 1, none⟩ = false := by rw [S9.out.blk.frozen]; rfl
  go_wp2_with fail
  go_ret
  have G9 : Hid (w9.grownBy (w9.setCell ⟨g, 1, none⟩ (.int .i64 (line + 1))) (some g)) := Lib.hid (grown_set _ _ _ _)
  exact ⟨((k0.out.trans (S0.out.below GY.out)).trans k9.out).trans (S9.out.below G9.out), .inl ⟨_, _, (ends_mark _ _ (by simp)).trans (mark_line0 _ rfl), rfl, SM.upd (f := q9.frm) S9.out G9.out (S9.out.blk.set 1 _) rfl rfl (fun h => by rcases h with h | h <;> cases h)⟩⟩
set_option maxHeartbeats 8000000 in
set_option maxRecDepth 100000 in
theorem ends_line0 {B g : Nat} {s : List UInt8} {i : Nat} {line : Int} {d : Nat} {cur : List UInt8} {begun eline : Int} {blank : Bool} {words : List Trm} {fresh : Bool} {out : List Ent} {q : SV} {w : World} (h : SM B g s i ⟨line, 0, (d + 1), cur, begun, eline, blank, words, fresh, out⟩ q w)
    (hi2 : i ≤ s.length) (h64 : words.length ≤ 64) (hl0 : 0 ≤ line) (hl1 : line ≤ 70000) (hdp : d + 1 ≤ 70000) (hout : out.length ≤ 65600) :
    Calls Tryd.prog 31 #[.pointer (some ⟨g, 0, none⟩), .int .u8 10, .int .i64 i] w fun e w' => Below B w w' ∧ Oc B g s i (Sc.ends (10 : UInt8) ⟨line, 0, (d + 1), cur, begun, eline, blank, words, fresh, out⟩) e w' := by
  obtain ⟨deep, hdeep⟩ : ∃ deep, d + 1 = deep := ⟨_, rfl⟩
  rw [hdeep] at h ⊢
  replace hdp : deep ≤ 70000 := by omega
  have hd1 : (1 : Int) ≤ deep := by omega
  have ed : ((deep : Int) == 0) = false := by rw [beq_eq_false_iff_ne]; omega
  have hdn : Hid (¬ deep = 0) := Lib.hid (by omega)
  clear hdeep
  have hdI : (0 : Int) ≤ deep := by omega
  have hdJ : (deep : Int) ≤ 70000 := by omega
  obtain ⟨frm, wa, wn, wc, oa, on, oc, eds, m⟩ := q
  have S0 := Lib.hid h
  have hout1 := Lib.hid hout
  have hi3 := Lib.hid hi2
  have h65 := Lib.hid h64
  clear h hout hi2 h64
  have hout2 := hout1
  have k0 := Lib.hid (Below.refl B w)
  have c1 : w.cell? ⟨g, 1, none⟩ = some (.int .i64 line) := (S0.out.blk.cell 1).trans rfl
  have z1 : w.frozen? ⟨g, 1, none⟩ = false := by rw [S0.out.blk.frozen]; rfl
  have c2 : w.cell? ⟨g, 2, none⟩ = some (.int .u8 0) := (S0.out.blk.cell 2).trans rfl
  have z2 : w.frozen? ⟨g, 2, none⟩ = false := by rw [S0.out.blk.frozen]; rfl
  have c3 : w.cell? ⟨g, 3, none⟩ = some (.int .i64 deep) := (S0.out.blk.cell 3).trans rfl
  have z3 : w.frozen? ⟨g, 3, none⟩ = false := by rw [S0.out.blk.frozen]; rfl
  go_enter Tryd.func31, Tryd.ntmps31
  go_wp2_with fail
  go_ret
  have G9 : Hid (w.grownBy (((w).setCell ⟨g, 2, none⟩ (.int .u8 0)).setCell ⟨g, 1, none⟩ (.int .i64 (line + 1))) (some g)) := Lib.hid (grown_trans (grown_set _ _ _ _) (grown_set _ _ _ _))
  exact ⟨k0.out.trans (S0.out.below G9.out), .inl ⟨_, _, (ends_mark _ _ (by simp)).trans (mark_line _ hdn.out), rfl, SM.upd (f := frm) S0.out G9.out (((S0.out.blk.set 2 _).set 1 _)) rfl rfl (fun h => by rcases h with h | h <;> cases h)⟩⟩
set_option maxHeartbeats 8000000 in
set_option maxRecDepth 100000 in
theorem ends_else0 {B g : Nat} {s : List UInt8} {i : Nat} {line : Int} {deep : Nat} {cur : List UInt8} {begun eline : Int} {blank : Bool} {words : List Trm} {fresh : Bool} {out : List Ent} {q : SV} {w : World} (b : UInt8) (h1 : Hid (¬ b = 59)) (h2 : Hid (¬ b = 40)) (h3 : Hid (¬ b = 41)) (h4 : Hid (¬ b = 10)) (h : SM B g s i ⟨line, 0, deep, cur, begun, eline, blank, words, fresh, out⟩ q w)
    (hi2 : i ≤ s.length) (h64 : words.length ≤ 64) (hdp : deep ≤ 70000) (hout : out.length ≤ 65600) :
    Calls Tryd.prog 31 #[.pointer (some ⟨g, 0, none⟩), .int .u8 (b.toNat : Int), .int .i64 i] w fun e w' => Below B w w' ∧ Oc B g s i (Sc.ends b ⟨line, 0, deep, cur, begun, eline, blank, words, fresh, out⟩) e w' := by
  have e1 : ((b.toNat : Int) == 59) = false := u8_ne (k := 59) h1.out
  have e2 : ((b.toNat : Int) == 40) = false := u8_ne (k := 40) h2.out
  have e3 : ((b.toNat : Int) == 41) = false := u8_ne (k := 41) h3.out
  have e4 : ((b.toNat : Int) == 10) = false := u8_ne (k := 10) h4.out
  generalize hbx : (b.toNat : Int) = bx at *
  have hdI : (0 : Int) ≤ deep := by omega
  have hdJ : (deep : Int) ≤ 70000 := by omega
  obtain ⟨frm, wa, wn, wc, oa, on, oc, eds, m⟩ := q
  have S0 := Lib.hid h
  have hout1 := Lib.hid hout
  have hi3 := Lib.hid hi2
  have h65 := Lib.hid h64
  clear h hout hi2 h64
  have hout2 := hout1
  have k0 := Lib.hid (Below.refl B w)
  have c1 : w.cell? ⟨g, 1, none⟩ = some (.int .i64 line) := (S0.out.blk.cell 1).trans rfl
  have z1 : w.frozen? ⟨g, 1, none⟩ = false := by rw [S0.out.blk.frozen]; rfl
  have c2 : w.cell? ⟨g, 2, none⟩ = some (.int .u8 0) := (S0.out.blk.cell 2).trans rfl
  have z2 : w.frozen? ⟨g, 2, none⟩ = false := by rw [S0.out.blk.frozen]; rfl
  have c3 : w.cell? ⟨g, 3, none⟩ = some (.int .i64 deep) := (S0.out.blk.cell 3).trans rfl
  have z3 : w.frozen? ⟨g, 3, none⟩ = false := by rw [S0.out.blk.frozen]; rfl
  go_enter Tryd.func31, Tryd.ntmps31
  go_wp2_with fail
  go_ret
  have G9 : Hid (w.grownBy ((w).setCell ⟨g, 2, none⟩ (.int .u8 0)) (some g)) := Lib.hid (grown_set _ _ _ _)
  exact ⟨k0.out.trans (S0.out.below G9.out), .inl ⟨_, _, (ends_mark _ _ (by simp)).trans (mark_else _ (by simp) b h1.out h2.out h3.out h4.out), rfl, SM.upd (f := frm) S0.out G9.out ((S0.out.blk.set 2 _)) rfl rfl (fun h => by rcases h with h | h <;> cases h)⟩⟩
set_option maxHeartbeats 8000000 in
set_option maxRecDepth 100000 in
theorem ends_semi1 {B g : Nat} {s : List UInt8} {i : Nat} {line : Int} {deep : Nat} {cur : List UInt8} {begun eline : Int} {blank : Bool} {words : List Trm} {fresh : Bool} {out : List Ent} {q : SV} {w : World} (h : SM B g s i ⟨line, 1, deep, cur, begun, eline, blank, words, fresh, out⟩ q w)
    (hi2 : i ≤ s.length) (h64 : words.length ≤ 64) (hdp : deep ≤ 70000) (hout : out.length ≤ 65600) :
    Calls Tryd.prog 31 #[.pointer (some ⟨g, 0, none⟩), .int .u8 59, .int .i64 i] w fun e w' => Below B w w' ∧ Oc B g s i (Sc.ends (59 : UInt8) ⟨line, 1, deep, cur, begun, eline, blank, words, fresh, out⟩) e w' := by
  have hdI : (0 : Int) ≤ deep := by omega
  have hdJ : (deep : Int) ≤ 70000 := by omega
  obtain ⟨frm, wa, wn, wc, oa, on, oc, eds, m⟩ := q
  have S0 := Lib.hid h
  have hout1 := Lib.hid hout
  have hi3 := Lib.hid hi2
  have h65 := Lib.hid h64
  clear h hout hi2 h64
  have c1 : w.cell? ⟨g, 1, none⟩ = some (.int .i64 line) := (S0.out.blk.cell 1).trans rfl
  have z1 : w.frozen? ⟨g, 1, none⟩ = false := by rw [S0.out.blk.frozen]; rfl
  have c2 : w.cell? ⟨g, 2, none⟩ = some (.int .u8 1) := (S0.out.blk.cell 2).trans rfl
  have z2 : w.frozen? ⟨g, 2, none⟩ = false := by rw [S0.out.blk.frozen]; rfl
  have c3 : w.cell? ⟨g, 3, none⟩ = some (.int .i64 deep) := (S0.out.blk.cell 3).trans rfl
  have z3 : w.frozen? ⟨g, 3, none⟩ = false := by rw [S0.out.blk.frozen]; rfl
  go_enter Tryd.func31, Tryd.ntmps31
  go_wp2_with fail
  refine (word_sm S0.out (Or.inl rfl) hi3.out h65.out).mono ?_
  rintro e w1 ⟨k1, hoc⟩
  clear c1 c2 c3 z1 z2 z3
  replace k1 := Lib.hid k1
  rcases hoc with ⟨c2, q2, hw, rfl, S1⟩ | ⟨x, hw, rfl, F1⟩
  · obtain ⟨t1, t2, t3, t4, t5, t6, t7⟩ := word_ok hw
    obtain ⟨line2, st2, deep2, cur2, begun2, eline2, blank2, words2, fresh2, out2⟩ := c2
    obtain ⟨frm, wa, wn, wc, oa, on, oc, eds, m⟩ := q2
    dsimp only at t1 t2 t3 t4 t5
    subst t1 t2 t3 t4
    have hout2 := hout1
    replace S1 := Lib.hid S1
    replace hw := Lib.hid hw
    clear t5 t6 t7
    have c1 : w1.cell? ⟨g, 1, none⟩ = some (.int .i64 line) := (S1.out.blk.cell 1).trans rfl
    have z1 : w1.frozen? ⟨g, 1, none⟩ = false := by rw [S1.out.blk.frozen]; rfl
    have c2 : w1.cell? ⟨g, 2, none⟩ = some (.int .u8 1) := (S1.out.blk.cell 2).trans rfl
    have z2 : w1.frozen? ⟨g, 2, none⟩ = false := by rw [S1.out.blk.frozen]; rfl
    have c3 : w1.cell? ⟨g, 3, none⟩ = some (.int .i64 deep) := (S1.out.blk.cell 3).trans rfl
    have z3 : w1.frozen? ⟨g, 3, none⟩ = false := by rw [S1.out.blk.frozen]; rfl
    go_wp2_with fail
    go_ret
    have G9 : Hid (w1.grownBy (((w1).setCell ⟨g, 2, none⟩ (.int .u8 0)).setCell ⟨g, 2, none⟩ (.int .u8 4)) (some g)) := Lib.hid (grown_trans (grown_set _ _ _ _) (grown_set _ _ _ _))
    exact ⟨k1.out.trans (S1.out.below G9.out), .inl ⟨_, _, (ends_word _ _ _ rfl hw.out).trans (mark_semi _ (by simp)), rfl, SM.upd (f := frm) S1.out G9.out (((S1.out.blk.set 2 _).set 2 _)) rfl rfl (fun h => by rcases h with h | h <;> cases h)⟩⟩
  · replace hw := Lib.hid hw
    replace F1 := Lib.hid F1
    go_wp2_with fail
    go_ret
    exact ⟨k1.out, .inr ⟨x, ends_full _ _ _ rfl hw.out, rfl, F1.out⟩⟩
set_option maxHeartbeats 8000000 in
set_option maxRecDepth 100000 in
theorem ends_open1 {B g : Nat} {s : List UInt8} {i : Nat} {line : Int} {deep : Nat} {cur : List UInt8} {begun eline : Int} {blank : Bool} {words : List Trm} {fresh : Bool} {out : List Ent} {q : SV} {w : World} (h : SM B g s i ⟨line, 1, deep, cur, begun, eline, blank, words, fresh, out⟩ q w)
    (hi2 : i ≤ s.length) (h64 : words.length ≤ 64) (hdp : deep ≤ 70000) (hout : out.length ≤ 65600) :
    Calls Tryd.prog 31 #[.pointer (some ⟨g, 0, none⟩), .int .u8 40, .int .i64 i] w fun e w' => Below B w w' ∧ Oc B g s i (Sc.ends (40 : UInt8) ⟨line, 1, deep, cur, begun, eline, blank, words, fresh, out⟩) e w' := by
  have hdI : (0 : Int) ≤ deep := by omega
  have hdJ : (deep : Int) ≤ 70000 := by omega
  obtain ⟨frm, wa, wn, wc, oa, on, oc, eds, m⟩ := q
  have S0 := Lib.hid h
  have hout1 := Lib.hid hout
  have hi3 := Lib.hid hi2
  have h65 := Lib.hid h64
  clear h hout hi2 h64
  have c1 : w.cell? ⟨g, 1, none⟩ = some (.int .i64 line) := (S0.out.blk.cell 1).trans rfl
  have z1 : w.frozen? ⟨g, 1, none⟩ = false := by rw [S0.out.blk.frozen]; rfl
  have c2 : w.cell? ⟨g, 2, none⟩ = some (.int .u8 1) := (S0.out.blk.cell 2).trans rfl
  have z2 : w.frozen? ⟨g, 2, none⟩ = false := by rw [S0.out.blk.frozen]; rfl
  have c3 : w.cell? ⟨g, 3, none⟩ = some (.int .i64 deep) := (S0.out.blk.cell 3).trans rfl
  have z3 : w.frozen? ⟨g, 3, none⟩ = false := by rw [S0.out.blk.frozen]; rfl
  go_enter Tryd.func31, Tryd.ntmps31
  go_wp2_with fail
  refine (word_sm S0.out (Or.inl rfl) hi3.out h65.out).mono ?_
  rintro e w1 ⟨k1, hoc⟩
  clear c1 c2 c3 z1 z2 z3
  replace k1 := Lib.hid k1
  rcases hoc with ⟨c2, q2, hw, rfl, S1⟩ | ⟨x, hw, rfl, F1⟩
  · obtain ⟨t1, t2, t3, t4, t5, t6, t7⟩ := word_ok hw
    obtain ⟨line2, st2, deep2, cur2, begun2, eline2, blank2, words2, fresh2, out2⟩ := c2
    obtain ⟨frm, wa, wn, wc, oa, on, oc, eds, m⟩ := q2
    dsimp only at t1 t2 t3 t4 t5
    subst t1 t2 t3 t4
    have hout2 := hout1
    replace S1 := Lib.hid S1
    replace hw := Lib.hid hw
    clear t5 t6 t7
    have c1 : w1.cell? ⟨g, 1, none⟩ = some (.int .i64 line) := (S1.out.blk.cell 1).trans rfl
    have z1 : w1.frozen? ⟨g, 1, none⟩ = false := by rw [S1.out.blk.frozen]; rfl
    have c2 : w1.cell? ⟨g, 2, none⟩ = some (.int .u8 1) := (S1.out.blk.cell 2).trans rfl
    have z2 : w1.frozen? ⟨g, 2, none⟩ = false := by rw [S1.out.blk.frozen]; rfl
    have c3 : w1.cell? ⟨g, 3, none⟩ = some (.int .i64 deep) := (S1.out.blk.cell 3).trans rfl
    have z3 : w1.frozen? ⟨g, 3, none⟩ = false := by rw [S1.out.blk.frozen]; rfl
    go_wp2_with fail
    go_ret
    have G9 : Hid (w1.grownBy (((w1).setCell ⟨g, 2, none⟩ (.int .u8 0)).setCell ⟨g, 3, none⟩ (.int .i64 ((deep : Int) + 1))) (some g)) := Lib.hid (grown_trans (grown_set _ _ _ _) (grown_set _ _ _ _))
    exact ⟨k1.out.trans (S1.out.below G9.out), .inl ⟨_, _, (ends_word _ _ _ rfl hw.out).trans (mark_open _ (by simp)), rfl, SM.upd (f := frm) S1.out G9.out (((S1.out.blk.set 2 _).set 3 _)) rfl rfl (fun h => by rcases h with h | h <;> cases h)⟩⟩
  · replace hw := Lib.hid hw
    replace F1 := Lib.hid F1
    go_wp2_with fail
    go_ret
    exact ⟨k1.out, .inr ⟨x, ends_full _ _ _ rfl hw.out, rfl, F1.out⟩⟩
set_option maxHeartbeats 8000000 in
set_option maxRecDepth 100000 in
theorem ends_shut01 {B g : Nat} {s : List UInt8} {i : Nat} {line : Int} {cur : List UInt8} {begun eline : Int} {blank : Bool} {words : List Trm} {fresh : Bool} {out : List Ent} {q : SV} {w : World} (h : SM B g s i ⟨line, 1, 0, cur, begun, eline, blank, words, fresh, out⟩ q w)
    (hi2 : i ≤ s.length) (h64 : words.length ≤ 64) (hout : out.length ≤ 65600) :
    Calls Tryd.prog 31 #[.pointer (some ⟨g, 0, none⟩), .int .u8 41, .int .i64 i] w fun e w' => Below B w w' ∧ Oc B g s i (Sc.ends (41 : UInt8) ⟨line, 1, 0, cur, begun, eline, blank, words, fresh, out⟩) e w' := by
  obtain ⟨frm, wa, wn, wc, oa, on, oc, eds, m⟩ := q
  have S0 := Lib.hid h
  have hout1 := Lib.hid hout
  have hi3 := Lib.hid hi2
  have h65 := Lib.hid h64
  clear h hout hi2 h64
  have c1 : w.cell? ⟨g, 1, none⟩ = some (.int .i64 line) := (S0.out.blk.cell 1).trans rfl
  have z1 : w.frozen? ⟨g, 1, none⟩ = false := by rw [S0.out.blk.frozen]; rfl
  have c2 : w.cell? ⟨g, 2, none⟩ = some (.int .u8 1) := (S0.out.blk.cell 2).trans rfl
  have z2 : w.frozen? ⟨g, 2, none⟩ = false := by rw [S0.out.blk.frozen]; rfl
  have c3 : w.cell? ⟨g, 3, none⟩ = some (.int .i64 (0 : Nat)) := (S0.out.blk.cell 3).trans rfl
  have z3 : w.frozen? ⟨g, 3, none⟩ = false := by rw [S0.out.blk.frozen]; rfl
  go_enter Tryd.func31, Tryd.ntmps31
  go_wp2_with fail
  refine (word_sm S0.out (Or.inl rfl) hi3.out h65.out).mono ?_
  rintro e w1 ⟨k1, hoc⟩
  clear c1 c2 c3 z1 z2 z3
  replace k1 := Lib.hid k1
  rcases hoc with ⟨c2, q2, hw, rfl, S1⟩ | ⟨x, hw, rfl, F1⟩
  · obtain ⟨t1, t2, t3, t4, t5, t6, t7⟩ := word_ok hw
    obtain ⟨line2, st2, deep2, cur2, begun2, eline2, blank2, words2, fresh2, out2⟩ := c2
    obtain ⟨frm, wa, wn, wc, oa, on, oc, eds, m⟩ := q2
    dsimp only at t1 t2 t3 t4 t5
    subst t1 t2 t3 t4
    have hout2 := hout1
    replace S1 := Lib.hid S1
    replace hw := Lib.hid hw
    clear t5 t6 t7
    have c1 : w1.cell? ⟨g, 1, none⟩ = some (.int .i64 line) := (S1.out.blk.cell 1).trans rfl
    have z1 : w1.frozen? ⟨g, 1, none⟩ = false := by rw [S1.out.blk.frozen]; rfl
    have c2 : w1.cell? ⟨g, 2, none⟩ = some (.int .u8 1) := (S1.out.blk.cell 2).trans rfl
    have z2 : w1.frozen? ⟨g, 2, none⟩ = false := by rw [S1.out.blk.frozen]; rfl
    have c3 : w1.cell? ⟨g, 3, none⟩ = some (.int .i64 (0 : Nat)) := (S1.out.blk.cell 3).trans rfl
    have z3 : w1.frozen? ⟨g, 3, none⟩ = false := by rw [S1.out.blk.frozen]; rfl
    go_wp2_with fail
    obtain ⟨Y, hY⟩ : ∃ Y, w1.setCell ⟨g, 2, none⟩ (.int .u8 0) = Y := ⟨_, rfl⟩
    rw [hY]
    have GY : Hid (w1.grownBy Y (some g)) := Lib.hid (by rw [← hY]; exact grown_set _ _ _ _)
    have BY := Lib.hid (S1.out.blk.set 2 (.int .u8 0))
    rw [hY] at BY
    clear hY
    refine (wrong_any (g := g) (ln := line) BY.out).mono ?_
    rintro e w9 ⟨rfl, g9, b9⟩
    replace g9 := Lib.hid g9
    replace b9 := Lib.hid b9
    clear c1 c2 c3 z1 z2 z3
    go_wp2_with fail
    go_ret
    exact ⟨k1.out.trans (S1.out.below (grown_trans GY.out g9.out)), .inr ⟨_, (ends_word _ _ _ rfl hw.out).trans (mark_shut0 _ (by simp) rfl), rfl, ⟨_, _, _, _, _, _, _, _, _, _, _, b9.out⟩⟩⟩
  · replace hw := Lib.hid hw
    replace F1 := Lib.hid F1
    go_wp2_with fail
    go_ret
    exact ⟨k1.out, .inr ⟨x, ends_full _ _ _ rfl hw.out, rfl, F1.out⟩⟩
set_option maxHeartbeats 8000000 in
set_option maxRecDepth 100000 in
theorem ends_shut1 {B g : Nat} {s : List UInt8} {i : Nat} {line : Int} {d : Nat} {cur : List UInt8} {begun eline : Int} {blank : Bool} {words : List Trm} {fresh : Bool} {out : List Ent} {q : SV} {w : World} (h : SM B g s i ⟨line, 1, (d + 1), cur, begun, eline, blank, words, fresh, out⟩ q w)
    (hi2 : i ≤ s.length) (h64 : words.length ≤ 64) (hdp : d + 1 ≤ 70000) (hout : out.length ≤ 65600) :
    Calls Tryd.prog 31 #[.pointer (some ⟨g, 0, none⟩), .int .u8 41, .int .i64 i] w fun e w' => Below B w w' ∧ Oc B g s i (Sc.ends (41 : UInt8) ⟨line, 1, (d + 1), cur, begun, eline, blank, words, fresh, out⟩) e w' := by
  obtain ⟨deep, hdeep⟩ : ∃ deep, d + 1 = deep := ⟨_, rfl⟩
  rw [hdeep] at h ⊢
  replace hdp : deep ≤ 70000 := by omega
  have hd1 : (1 : Int) ≤ deep := by omega
  have ed : ((deep : Int) == 0) = false := by rw [beq_eq_false_iff_ne]; omega
  have hdn : Hid (¬ deep = 0) := Lib.hid (by omega)
  clear hdeep
  have hdI : (0 : Int) ≤ deep := by omega
  have hdJ : (deep : Int) ≤ 70000 := by omega
  obtain ⟨frm, wa, wn, wc, oa, on, oc, eds, m⟩ := q
  have S0 := Lib.hid h
  have hout1 := Lib.hid hout
  have hi3 := Lib.hid hi2
  have h65 := Lib.hid h64
  clear h hout hi2 h64
  have c1 : w.cell? ⟨g, 1, none⟩ = some (.int .i64 line) := (S0.out.blk.cell 1).trans rfl
  have z1 : w.frozen? ⟨g, 1, none⟩ = false := by rw [S0.out.blk.frozen]; rfl
  have c2 : w.cell? ⟨g, 2, none⟩ = some (.int .u8 1) := (S0.out.blk.cell 2).trans rfl
  have z2 : w.frozen? ⟨g, 2, none⟩ = false := by rw [S0.out.blk.frozen]; rfl
  have c3 : w.cell? ⟨g, 3, none⟩ = some (.int .i64 deep) := (S0.out.blk.cell 3).trans rfl
  have z3 : w.frozen? ⟨g, 3, none⟩ = false := by rw [S0.out.blk.frozen]; rfl
  go_enter Tryd.func31, Tryd.ntmps31
  go_wp2_with fail
  refine (word_sm S0.out (Or.inl rfl) hi3.out h65.out).mono ?_
  rintro e w1 ⟨k1, hoc⟩
  clear c1 c2 c3 z1 z2 z3
  replace k1 := Lib.hid k1
  rcases hoc with ⟨c2, q2, hw, rfl, S1⟩ | ⟨x, hw, rfl, F1⟩
  · obtain ⟨t1, t2, t3, t4, t5, t6, t7⟩ := word_ok hw
    obtain ⟨line2, st2, deep2, cur2, begun2, eline2, blank2, words2, fresh2, out2⟩ := c2
    obtain ⟨frm, wa, wn, wc, oa, on, oc, eds, m⟩ := q2
    dsimp only at t1 t2 t3 t4 t5
    subst t1 t2 t3 t4
    have hout2 := hout1
    replace S1 := Lib.hid S1
    replace hw := Lib.hid hw
    clear t5 t6 t7
    have c1 : w1.cell? ⟨g, 1, none⟩ = some (.int .i64 line) := (S1.out.blk.cell 1).trans rfl
    have z1 : w1.frozen? ⟨g, 1, none⟩ = false := by rw [S1.out.blk.frozen]; rfl
    have c2 : w1.cell? ⟨g, 2, none⟩ = some (.int .u8 1) := (S1.out.blk.cell 2).trans rfl
    have z2 : w1.frozen? ⟨g, 2, none⟩ = false := by rw [S1.out.blk.frozen]; rfl
    have c3 : w1.cell? ⟨g, 3, none⟩ = some (.int .i64 deep) := (S1.out.blk.cell 3).trans rfl
    have z3 : w1.frozen? ⟨g, 3, none⟩ = false := by rw [S1.out.blk.frozen]; rfl
    go_wp2_with fail
    have ec : (deep : Int) - 1 = ((deep - 1 : Nat) : Int) := by omega
    rw [ec]
    go_ret
    have G9 : Hid (w1.grownBy (((w1).setCell ⟨g, 2, none⟩ (.int .u8 0)).setCell ⟨g, 3, none⟩ (.int .i64 ((deep - 1 : Nat) : Int))) (some g)) := Lib.hid (grown_trans (grown_set _ _ _ _) (grown_set _ _ _ _))
    exact ⟨k1.out.trans (S1.out.below G9.out), .inl ⟨_, _, (ends_word _ _ _ rfl hw.out).trans (mark_shut _ (by simp) hdn.out), rfl, SM.upd (f := frm) S1.out G9.out (((S1.out.blk.set 2 _).set 3 _)) rfl rfl (fun h => by rcases h with h | h <;> cases h)⟩⟩
  · replace hw := Lib.hid hw
    replace F1 := Lib.hid F1
    go_wp2_with fail
    go_ret
    exact ⟨k1.out, .inr ⟨x, ends_full _ _ _ rfl hw.out, rfl, F1.out⟩⟩
set_option maxHeartbeats 8000000 in
set_option maxRecDepth 100000 in
theorem ends_line01 {B g : Nat} {s : List UInt8} {i : Nat} {line : Int} {cur : List UInt8} {begun eline : Int} {blank : Bool} {words : List Trm} {fresh : Bool} {out : List Ent} {q : SV} {w : World} (h : SM B g s i ⟨line, 1, 0, cur, begun, eline, blank, words, fresh, out⟩ q w)
    (hi2 : i ≤ s.length) (h64 : words.length ≤ 64) (hl0 : 0 ≤ line) (hl1 : line ≤ 70000) (hout : out.length ≤ 65600) :
    Calls Tryd.prog 31 #[.pointer (some ⟨g, 0, none⟩), .int .u8 10, .int .i64 i] w fun e w' => Below B w w' ∧ Oc B g s i (Sc.ends (10 : UInt8) ⟨line, 1, 0, cur, begun, eline, blank, words, fresh, out⟩) e w' := by
  obtain ⟨frm, wa, wn, wc, oa, on, oc, eds, m⟩ := q
  have S0 := Lib.hid h
  have hout1 := Lib.hid hout
  have hi3 := Lib.hid hi2
  have h65 := Lib.hid h64
  clear h hout hi2 h64
  have c1 : w.cell? ⟨g, 1, none⟩ = some (.int .i64 line) := (S0.out.blk.cell 1).trans rfl
  have z1 : w.frozen? ⟨g, 1, none⟩ = false := by rw [S0.out.blk.frozen]; rfl
  have c2 : w.cell? ⟨g, 2, none⟩ = some (.int .u8 1) := (S0.out.blk.cell 2).trans rfl
  have z2 : w.frozen? ⟨g, 2, none⟩ = false := by rw [S0.out.blk.frozen]; rfl
  have c3 : w.cell? ⟨g, 3, none⟩ = some (.int .i64 (0 : Nat)) := (S0.out.blk.cell 3).trans rfl
  have z3 : w.frozen? ⟨g, 3, none⟩ = false := by rw [S0.out.blk.frozen]; rfl
  go_enter Tryd.func31, Tryd.ntmps31
  go_wp2_with fail
  refine (word_sm S0.out (Or.inl rfl) hi3.out h65.out).mono ?_
  rintro e w1 ⟨k1, hoc⟩
  clear c1 c2 c3 z1 z2 z3
  replace k1 := Lib.hid k1
  rcases hoc with ⟨c2, q2, hw, rfl, S1⟩ | ⟨x, hw, rfl, F1⟩
  · obtain ⟨t1, t2, t3, t4, t5, t6, t7⟩ := word_ok hw
    obtain ⟨line2, st2, deep2, cur2, begun2, eline2, blank2, words2, fresh2, out2⟩ := c2
    obtain ⟨frm, wa, wn, wc, oa, on, oc, eds, m⟩ := q2
    dsimp only at t1 t2 t3 t4 t5
    subst t1 t2 t3 t4
    have hout2 := hout1
    replace S1 := Lib.hid S1
    replace hw := Lib.hid hw
    clear t5 t6 t7
    have c1 : w1.cell? ⟨g, 1, none⟩ = some (.int .i64 line) := (S1.out.blk.cell 1).trans rfl
    have z1 : w1.frozen? ⟨g, 1, none⟩ = false := by rw [S1.out.blk.frozen]; rfl
    have c2 : w1.cell? ⟨g, 2, none⟩ = some (.int .u8 1) := (S1.out.blk.cell 2).trans rfl
    have z2 : w1.frozen? ⟨g, 2, none⟩ = false := by rw [S1.out.blk.frozen]; rfl
    have c3 : w1.cell? ⟨g, 3, none⟩ = some (.int .i64 (0 : Nat)) := (S1.out.blk.cell 3).trans rfl
    have z3 : w1.frozen? ⟨g, 3, none⟩ = false := by rw [S1.out.blk.frozen]; rfl
    go_wp2_with fail
    obtain ⟨Y, hY⟩ : ∃ Y, w1.setCell ⟨g, 2, none⟩ (.int .u8 0) = Y := ⟨_, rfl⟩
    rw [hY]
    have GY : Hid (w1.grownBy Y (some g)) := Lib.hid (by rw [← hY]; exact grown_set _ _ _ _)
    have BY := Lib.hid (S1.out.blk.set 2 (.int .u8 0))
    rw [hY] at BY
    clear hY
    have SY := Lib.hid (SM.upd (f := frm) (c2 := ⟨line, 0, 0, cur2, begun2, eline2, blank2, words2, fresh2, out⟩) S1.out GY.out BY.out rfl rfl (fun h => by rcases h with h | h <;> cases h) : SM B g s i _ _ Y)
    refine (entry_sm SY.out (by first | exact hout.out | exact hout2.out)).mono ?_
    rintro e w9 ⟨rfl, k9, q9, S9⟩
    replace k9 := Lib.hid k9
    replace S9 := Lib.hid S9
    clear c1 c2 c3 z1 z2 z3
    have d1 : w9.cell? ⟨g, 1, none⟩ = some (.int .i64 line) := (S9.out.blk.cell 1).trans rfl
    have y1 : w9.frozen? ⟨g, 1, none⟩ = false := by rw [S9.out.blk.frozen]; rfl
    go_wp2_with fail
    go_ret
    have G9 : Hid (w9.grownBy (w9.setCell ⟨g, 1, none⟩ (.int .i64 (line + 1))) (some g)) := Lib.hid (grown_set _ _ _ _)
    exact ⟨((k1.out.trans (S1.out.below GY.out)).trans k9.out).trans (S9.out.below G9.out), .inl ⟨_, _, (ends_word _ _ _ rfl hw.out).trans (mark_line0 _ rfl), rfl, SM.upd (f := q9.frm) S9.out G9.out (S9.out.blk.set 1 _) rfl rfl (fun h => by rcases h with h | h <;> cases h)⟩⟩
  · replace hw := Lib.hid hw
    replace F1 := Lib.hid F1
    go_wp2_with fail
    go_ret
    exact ⟨k1.out, .inr ⟨x, ends_full _ _ _ rfl hw.out, rfl, F1.out⟩⟩
set_option maxHeartbeats 8000000 in
set_option maxRecDepth 100000 in
theorem ends_line1 {B g : Nat} {s : List UInt8} {i : Nat} {line : Int} {d : Nat} {cur : List UInt8} {begun eline : Int} {blank : Bool} {words : List Trm} {fresh : Bool} {out : List Ent} {q : SV} {w : World} (h : SM B g s i ⟨line, 1, (d + 1), cur, begun, eline, blank, words, fresh, out⟩ q w)
    (hi2 : i ≤ s.length) (h64 : words.length ≤ 64) (hl0 : 0 ≤ line) (hl1 : line ≤ 70000) (hdp : d + 1 ≤ 70000) (hout : out.length ≤ 65600) :
    Calls Tryd.prog 31 #[.pointer (some ⟨g, 0, none⟩), .int .u8 10, .int .i64 i] w fun e w' => Below B w w' ∧ Oc B g s i (Sc.ends (10 : UInt8) ⟨line, 1, (d + 1), cur, begun, eline, blank, words, fresh, out⟩) e w' := by
  obtain ⟨deep, hdeep⟩ : ∃ deep, d + 1 = deep := ⟨_, rfl⟩
  rw [hdeep] at h ⊢
  replace hdp : deep ≤ 70000 := by omega
  have hd1 : (1 : Int) ≤ deep := by omega
  have ed : ((deep : Int) == 0) = false := by rw [beq_eq_false_iff_ne]; omega
  have hdn : Hid (¬ deep = 0) := Lib.hid (by omega)
  clear hdeep
  have hdI : (0 : Int) ≤ deep := by omega
  have hdJ : (deep : Int) ≤ 70000 := by omega
  obtain ⟨frm, wa, wn, wc, oa, on, oc, eds, m⟩ := q
  have S0 := Lib.hid h
  have hout1 := Lib.hid hout
  have hi3 := Lib.hid hi2
  have h65 := Lib.hid h64
  clear h hout hi2 h64
  have c1 : w.cell? ⟨g, 1, none⟩ = some (.int .i64 line) := (S0.out.blk.cell 1).trans rfl
  have z1 : w.frozen? ⟨g, 1, none⟩ = false := by rw [S0.out.blk.frozen]; rfl
  have c2 : w.cell? ⟨g, 2, none⟩ = some (.int .u8 1) := (S0.out.blk.cell 2).trans rfl
  have z2 : w.frozen? ⟨g, 2, none⟩ = false := by rw [S0.out.blk.frozen]; rfl
  have c3 : w.cell? ⟨g, 3, none⟩ = some (.int .i64 deep) := (S0.out.blk.cell 3).trans rfl
  have z3 : w.frozen? ⟨g, 3, none⟩ = false := by rw [S0.out.blk.frozen]; rfl
  go_enter Tryd.func31, Tryd.ntmps31
  go_wp2_with fail
  refine (word_sm S0.out (Or.inl rfl) hi3.out h65.out).mono ?_
  rintro e w1 ⟨k1, hoc⟩
  clear c1 c2 c3 z1 z2 z3
  replace k1 := Lib.hid k1
  rcases hoc with ⟨c2, q2, hw, rfl, S1⟩ | ⟨x, hw, rfl, F1⟩
  · obtain ⟨t1, t2, t3, t4, t5, t6, t7⟩ := word_ok hw
    obtain ⟨line2, st2, deep2, cur2, begun2, eline2, blank2, words2, fresh2, out2⟩ := c2
    obtain ⟨frm, wa, wn, wc, oa, on, oc, eds, m⟩ := q2
    dsimp only at t1 t2 t3 t4 t5
    subst t1 t2 t3 t4
    have hout2 := hout1
    replace S1 := Lib.hid S1
    replace hw := Lib.hid hw
    clear t5 t6 t7
    have c1 : w1.cell? ⟨g, 1, none⟩ = some (.int .i64 line) := (S1.out.blk.cell 1).trans rfl
    have z1 : w1.frozen? ⟨g, 1, none⟩ = false := by rw [S1.out.blk.frozen]; rfl
    have c2 : w1.cell? ⟨g, 2, none⟩ = some (.int .u8 1) := (S1.out.blk.cell 2).trans rfl
    have z2 : w1.frozen? ⟨g, 2, none⟩ = false := by rw [S1.out.blk.frozen]; rfl
    have c3 : w1.cell? ⟨g, 3, none⟩ = some (.int .i64 deep) := (S1.out.blk.cell 3).trans rfl
    have z3 : w1.frozen? ⟨g, 3, none⟩ = false := by rw [S1.out.blk.frozen]; rfl
    go_wp2_with fail
    go_ret
    have G9 : Hid (w1.grownBy (((w1).setCell ⟨g, 2, none⟩ (.int .u8 0)).setCell ⟨g, 1, none⟩ (.int .i64 (line + 1))) (some g)) := Lib.hid (grown_trans (grown_set _ _ _ _) (grown_set _ _ _ _))
    exact ⟨k1.out.trans (S1.out.below G9.out), .inl ⟨_, _, (ends_word _ _ _ rfl hw.out).trans (mark_line _ hdn.out), rfl, SM.upd (f := frm) S1.out G9.out (((S1.out.blk.set 2 _).set 1 _)) rfl rfl (fun h => by rcases h with h | h <;> cases h)⟩⟩
  · replace hw := Lib.hid hw
    replace F1 := Lib.hid F1
    go_wp2_with fail
    go_ret
    exact ⟨k1.out, .inr ⟨x, ends_full _ _ _ rfl hw.out, rfl, F1.out⟩⟩
set_option maxHeartbeats 8000000 in
set_option maxRecDepth 100000 in
theorem ends_else1 {B g : Nat} {s : List UInt8} {i : Nat} {line : Int} {deep : Nat} {cur : List UInt8} {begun eline : Int} {blank : Bool} {words : List Trm} {fresh : Bool} {out : List Ent} {q : SV} {w : World} (b : UInt8) (h1 : Hid (¬ b = 59)) (h2 : Hid (¬ b = 40)) (h3 : Hid (¬ b = 41)) (h4 : Hid (¬ b = 10)) (h : SM B g s i ⟨line, 1, deep, cur, begun, eline, blank, words, fresh, out⟩ q w)
    (hi2 : i ≤ s.length) (h64 : words.length ≤ 64) (hdp : deep ≤ 70000) (hout : out.length ≤ 65600) :
    Calls Tryd.prog 31 #[.pointer (some ⟨g, 0, none⟩), .int .u8 (b.toNat : Int), .int .i64 i] w fun e w' => Below B w w' ∧ Oc B g s i (Sc.ends b ⟨line, 1, deep, cur, begun, eline, blank, words, fresh, out⟩) e w' := by
  have e1 : ((b.toNat : Int) == 59) = false := u8_ne (k := 59) h1.out
  have e2 : ((b.toNat : Int) == 40) = false := u8_ne (k := 40) h2.out
  have e3 : ((b.toNat : Int) == 41) = false := u8_ne (k := 41) h3.out
  have e4 : ((b.toNat : Int) == 10) = false := u8_ne (k := 10) h4.out
  generalize hbx : (b.toNat : Int) = bx at *
  have hdI : (0 : Int) ≤ deep := by omega
  have hdJ : (deep : Int) ≤ 70000 := by omega
  obtain ⟨frm, wa, wn, wc, oa, on, oc, eds, m⟩ := q
  have S0 := Lib.hid h
  have hout1 := Lib.hid hout
  have hi3 := Lib.hid hi2
  have h65 := Lib.hid h64
  clear h hout hi2 h64
  have c1 : w.cell? ⟨g, 1, none⟩ = some (.int .i64 line) := (S0.out.blk.cell 1).trans rfl
  have z1 : w.frozen? ⟨g, 1, none⟩ = false := by rw [S0.out.blk.frozen]; rfl
  have c2 : w.cell? ⟨g, 2, none⟩ = some (.int .u8 1) := (S0.out.blk.cell 2).trans rfl
  have z2 : w.frozen? ⟨g, 2, none⟩ = false := by rw [S0.out.blk.frozen]; rfl
  have c3 : w.cell? ⟨g, 3, none⟩ = some (.int .i64 deep) := (S0.out.blk.cell 3).trans rfl
  have z3 : w.frozen? ⟨g, 3, none⟩ = false := by rw [S0.out.blk.frozen]; rfl
  go_enter Tryd.func31, Tryd.ntmps31
  go_wp2_with fail
  refine (word_sm S0.out (Or.inl rfl) hi3.out h65.out).mono ?_
  rintro e w1 ⟨k1, hoc⟩
  clear c1 c2 c3 z1 z2 z3
  replace k1 := Lib.hid k1
  rcases hoc with ⟨c2, q2, hw, rfl, S1⟩ | ⟨x, hw, rfl, F1⟩
  · obtain ⟨t1, t2, t3, t4, t5, t6, t7⟩ := word_ok hw
    obtain ⟨line2, st2, deep2, cur2, begun2, eline2, blank2, words2, fresh2, out2⟩ := c2
    obtain ⟨frm, wa, wn, wc, oa, on, oc, eds, m⟩ := q2
    dsimp only at t1 t2 t3 t4 t5
    subst t1 t2 t3 t4
    have hout2 := hout1
    replace S1 := Lib.hid S1
    replace hw := Lib.hid hw
    clear t5 t6 t7
    have c1 : w1.cell? ⟨g, 1, none⟩ = some (.int .i64 line) := (S1.out.blk.cell 1).trans rfl
    have z1 : w1.frozen? ⟨g, 1, none⟩ = false := by rw [S1.out.blk.frozen]; rfl
    have c2 : w1.cell? ⟨g, 2, none⟩ = some (.int .u8 1) := (S1.out.blk.cell 2).trans rfl
    have z2 : w1.frozen? ⟨g, 2, none⟩ = false := by rw [S1.out.blk.frozen]; rfl
    have c3 : w1.cell? ⟨g, 3, none⟩ = some (.int .i64 deep) := (S1.out.blk.cell 3).trans rfl
    have z3 : w1.frozen? ⟨g, 3, none⟩ = false := by rw [S1.out.blk.frozen]; rfl
    go_wp2_with fail
    go_ret
    have G9 : Hid (w1.grownBy ((w1).setCell ⟨g, 2, none⟩ (.int .u8 0)) (some g)) := Lib.hid (grown_set _ _ _ _)
    exact ⟨k1.out.trans (S1.out.below G9.out), .inl ⟨_, _, (ends_word _ _ _ rfl hw.out).trans (mark_else _ (by simp) b h1.out h2.out h3.out h4.out), rfl, SM.upd (f := frm) S1.out G9.out ((S1.out.blk.set 2 _)) rfl rfl (fun h => by rcases h with h | h <;> cases h)⟩⟩
  · replace hw := Lib.hid hw
    replace F1 := Lib.hid F1
    go_wp2_with fail
    go_ret
    exact ⟨k1.out, .inr ⟨x, ends_full _ _ _ rfl hw.out, rfl, F1.out⟩⟩
set_option maxHeartbeats 8000000 in
set_option maxRecDepth 100000 in
theorem ends_semi3 {B g : Nat} {s : List UInt8} {i : Nat} {line : Int} {deep : Nat} {cur : List UInt8} {begun eline : Int} {blank : Bool} {words : List Trm} {fresh : Bool} {out : List Ent} {q : SV} {w : World} (h : SM B g s i ⟨line, 3, deep, cur, begun, eline, blank, words, fresh, out⟩ q w)
    (hi2 : i ≤ s.length) (h64 : words.length ≤ 64) (hdp : deep ≤ 70000) (hout : out.length ≤ 65600) :
    Calls Tryd.prog 31 #[.pointer (some ⟨g, 0, none⟩), .int .u8 59, .int .i64 i] w fun e w' => Below B w w' ∧ Oc B g s i (Sc.ends (59 : UInt8) ⟨line, 3, deep, cur, begun, eline, blank, words, fresh, out⟩) e w' := by
  have hdI : (0 : Int) ≤ deep := by omega
  have hdJ : (deep : Int) ≤ 70000 := by omega
  obtain ⟨frm, wa, wn, wc, oa, on, oc, eds, m⟩ := q
  have S0 := Lib.hid h
  have hout1 := Lib.hid hout
  have hi3 := Lib.hid hi2
  have h65 := Lib.hid h64
  clear h hout hi2 h64
  have hout2 := hout1
  have k0 := Lib.hid (Below.refl B w)
  have c1 : w.cell? ⟨g, 1, none⟩ = some (.int .i64 line) := (S0.out.blk.cell 1).trans rfl
  have z1 : w.frozen? ⟨g, 1, none⟩ = false := by rw [S0.out.blk.frozen]; rfl
  have c2 : w.cell? ⟨g, 2, none⟩ = some (.int .u8 3) := (S0.out.blk.cell 2).trans rfl
  have z2 : w.frozen? ⟨g, 2, none⟩ = false := by rw [S0.out.blk.frozen]; rfl
  have c3 : w.cell? ⟨g, 3, none⟩ = some (.int .i64 deep) := (S0.out.blk.cell 3).trans rfl
  have z3 : w.frozen? ⟨g, 3, none⟩ = false := by rw [S0.out.blk.frozen]; rfl
  go_enter Tryd.func31, Tryd.ntmps31
  go_wp2_with fail
  go_ret
  have G9 : Hid (w.grownBy (((w).setCell ⟨g, 2, none⟩ (.int .u8 0)).setCell ⟨g, 2, none⟩ (.int .u8 4)) (some g)) := Lib.hid (grown_trans (grown_set _ _ _ _) (grown_set _ _ _ _))
  exact ⟨k0.out.trans (S0.out.below G9.out), .inl ⟨_, _, (ends_mark _ _ (by simp)).trans (mark_semi _ (by simp)), rfl, SM.upd (f := frm) S0.out G9.out (((S0.out.blk.set 2 _).set 2 _)) rfl rfl (fun h => by rcases h with h | h <;> cases h)⟩⟩
set_option maxHeartbeats 8000000 in
set_option maxRecDepth 100000 in
theorem ends_open3 {B g : Nat} {s : List UInt8} {i : Nat} {line : Int} {deep : Nat} {cur : List UInt8} {begun eline : Int} {blank : Bool} {words : List Trm} {fresh : Bool} {out : List Ent} {q : SV} {w : World} (h : SM B g s i ⟨line, 3, deep, cur, begun, eline, blank, words, fresh, out⟩ q w)
    (hi2 : i ≤ s.length) (h64 : words.length ≤ 64) (hdp : deep ≤ 70000) (hout : out.length ≤ 65600) :
    Calls Tryd.prog 31 #[.pointer (some ⟨g, 0, none⟩), .int .u8 40, .int .i64 i] w fun e w' => Below B w w' ∧ Oc B g s i (Sc.ends (40 : UInt8) ⟨line, 3, deep, cur, begun, eline, blank, words, fresh, out⟩) e w' := by
  have hdI : (0 : Int) ≤ deep := by omega
  have hdJ : (deep : Int) ≤ 70000 := by omega
  obtain ⟨frm, wa, wn, wc, oa, on, oc, eds, m⟩ := q
  have S0 := Lib.hid h
  have hout1 := Lib.hid hout
  have hi3 := Lib.hid hi2
  have h65 := Lib.hid h64
  clear h hout hi2 h64
  have hout2 := hout1
  have k0 := Lib.hid (Below.refl B w)
  have c1 : w.cell? ⟨g, 1, none⟩ = some (.int .i64 line) := (S0.out.blk.cell 1).trans rfl
  have z1 : w.frozen? ⟨g, 1, none⟩ = false := by rw [S0.out.blk.frozen]; rfl
  have c2 : w.cell? ⟨g, 2, none⟩ = some (.int .u8 3) := (S0.out.blk.cell 2).trans rfl
  have z2 : w.frozen? ⟨g, 2, none⟩ = false := by rw [S0.out.blk.frozen]; rfl
  have c3 : w.cell? ⟨g, 3, none⟩ = some (.int .i64 deep) := (S0.out.blk.cell 3).trans rfl
  have z3 : w.frozen? ⟨g, 3, none⟩ = false := by rw [S0.out.blk.frozen]; rfl
  go_enter Tryd.func31, Tryd.ntmps31
  go_wp2_with fail
  go_ret
  have G9 : Hid (w.grownBy (((w).setCell ⟨g, 2, none⟩ (.int .u8 0)).setCell ⟨g, 3, none⟩ (.int .i64 ((deep : Int) + 1))) (some g)) := Lib.hid (grown_trans (grown_set _ _ _ _) (grown_set _ _ _ _))
  exact ⟨k0.out.trans (S0.out.below G9.out), .inl ⟨_, _, (ends_mark _ _ (by simp)).trans (mark_open _ (by simp)), rfl, SM.upd (f := frm) S0.out G9.out (((S0.out.blk.set 2 _).set 3 _)) rfl rfl (fun h => by rcases h with h | h <;> cases h)⟩⟩
set_option maxHeartbeats 8000000 in
set_option maxRecDepth 100000 in
theorem ends_shut03 {B g : Nat} {s : List UInt8} {i : Nat} {line : Int} {cur : List UInt8} {begun eline : Int} {blank : Bool} {words : List Trm} {fresh : Bool} {out : List Ent} {q : SV} {w : World} (h : SM B g s i ⟨line, 3, 0, cur, begun, eline, blank, words, fresh, out⟩ q w)
    (hi2 : i ≤ s.length) (h64 : words.length ≤ 64) (hout : out.length ≤ 65600) :
    Calls Tryd.prog 31 #[.pointer (some ⟨g, 0, none⟩), .int .u8 41, .int .i64 i] w fun e w' => Below B w w' ∧ Oc B g s i (Sc.ends (41 : UInt8) ⟨line, 3, 0, cur, begun, eline, blank, words, fresh, out⟩) e w' := by
  obtain ⟨frm, wa, wn, wc, oa, on, oc, eds, m⟩ := q
  have S0 := Lib.hid h
  have hout1 := Lib.hid hout
  have hi3 := Lib.hid hi2
  have h65 := Lib.hid h64
  clear h hout hi2 h64
  have hout2 := hout1
  have k0 := Lib.hid (Below.refl B w)
  have c1 : w.cell? ⟨g, 1, none⟩ = some (.int .i64 line) := (S0.out.blk.cell 1).trans rfl
  have z1 : w.frozen? ⟨g, 1, none⟩ = false := by rw [S0.out.blk.frozen]; rfl
  have c2 : w.cell? ⟨g, 2, none⟩ = some (.int .u8 3) := (S0.out.blk.cell 2).trans rfl
  have z2 : w.frozen? ⟨g, 2, none⟩ = false := by rw [S0.out.blk.frozen]; rfl
  have c3 : w.cell? ⟨g, 3, none⟩ = some (.int .i64 (0 : Nat)) := (S0.out.blk.cell 3).trans rfl
  have z3 : w.frozen? ⟨g, 3, none⟩ = false := by rw [S0.out.blk.frozen]; rfl
  go_enter Tryd.func31, Tryd.ntmps31
  go_wp2_with fail
  obtain ⟨Y, hY⟩ : ∃ Y, w.setCell ⟨g, 2, none⟩ (.int .u8 0) = Y := ⟨_, rfl⟩
  rw [hY]
  have GY : Hid (w.grownBy Y (some g)) := Lib.hid (by rw [← hY]; exact grown_set _ _ _ _)
  have BY := Lib.hid (S0.out.blk.set 2 (.int .u8 0))
  rw [hY] at BY
  clear hY
  refine (wrong_any (g := g) (ln := line) BY.out).mono ?_
  rintro e w9 ⟨rfl, g9, b9⟩
  replace g9 := Lib.hid g9
  replace b9 := Lib.hid b9
  clear c1 c2 c3 z1 z2 z3
  go_wp2_with fail
  go_ret
  exact ⟨k0.out.trans (S0.out.below (grown_trans GY.out g9.out)), .inr ⟨_, (ends_mark _ _ (by simp)).trans (mark_shut0 _ (by simp) rfl), rfl, ⟨_, _, _, _, _, _, _, _, _, _, _, b9.out⟩⟩⟩
set_option maxHeartbeats 8000000 in
set_option maxRecDepth 100000 in
theorem ends_shut3 {B g : Nat} {s : List UInt8} {i : Nat} {line : Int} {d : Nat} {cur : List UInt8} {begun eline : Int} {blank : Bool} {words : List Trm} {fresh : Bool} {out : List Ent} {q : SV} {w : World} (h : SM B g s i ⟨line, 3, (d + 1), cur, begun, eline, blank, words, fresh, out⟩ q w)
    (hi2 : i ≤ s.length) (h64 : words.length ≤ 64) (hdp : d + 1 ≤ 70000) (hout : out.length ≤ 65600) :
    Calls Tryd.prog 31 #[.pointer (some ⟨g, 0, none⟩), .int .u8 41, .int .i64 i] w fun e w' => Below B w w' ∧ Oc B g s i (Sc.ends (41 : UInt8) ⟨line, 3, (d + 1), cur, begun, eline, blank, words, fresh, out⟩) e w' := by
  obtain ⟨deep, hdeep⟩ : ∃ deep, d + 1 = deep := ⟨_, rfl⟩
  rw [hdeep] at h ⊢
  replace hdp : deep ≤ 70000 := by omega
  have hd1 : (1 : Int) ≤ deep := by omega
  have ed : ((deep : Int) == 0) = false := by rw [beq_eq_false_iff_ne]; omega
  have hdn : Hid (¬ deep = 0) := Lib.hid (by omega)
  clear hdeep
  have hdI : (0 : Int) ≤ deep := by omega
  have hdJ : (deep : Int) ≤ 70000 := by omega
  obtain ⟨frm, wa, wn, wc, oa, on, oc, eds, m⟩ := q
  have S0 := Lib.hid h
  have hout1 := Lib.hid hout
  have hi3 := Lib.hid hi2
  have h65 := Lib.hid h64
  clear h hout hi2 h64
  have hout2 := hout1
  have k0 := Lib.hid (Below.refl B w)
  have c1 : w.cell? ⟨g, 1, none⟩ = some (.int .i64 line) := (S0.out.blk.cell 1).trans rfl
  have z1 : w.frozen? ⟨g, 1, none⟩ = false := by rw [S0.out.blk.frozen]; rfl
  have c2 : w.cell? ⟨g, 2, none⟩ = some (.int .u8 3) := (S0.out.blk.cell 2).trans rfl
  have z2 : w.frozen? ⟨g, 2, none⟩ = false := by rw [S0.out.blk.frozen]; rfl
  have c3 : w.cell? ⟨g, 3, none⟩ = some (.int .i64 deep) := (S0.out.blk.cell 3).trans rfl
  have z3 : w.frozen? ⟨g, 3, none⟩ = false := by rw [S0.out.blk.frozen]; rfl
  go_enter Tryd.func31, Tryd.ntmps31
  go_wp2_with fail
  have ec : (deep : Int) - 1 = ((deep - 1 : Nat) : Int) := by omega
  rw [ec]
  go_ret
  have G9 : Hid (w.grownBy (((w).setCell ⟨g, 2, none⟩ (.int .u8 0)).setCell ⟨g, 3, none⟩ (.int .i64 ((deep - 1 : Nat) : Int))) (some g)) := Lib.hid (grown_trans (grown_set _ _ _ _) (grown_set _ _ _ _))
  exact ⟨k0.out.trans (S0.out.below G9.out), .inl ⟨_, _, (ends_mark _ _ (by simp)).trans (mark_shut _ (by simp) hdn.out), rfl, SM.upd (f := frm) S0.out G9.out (((S0.out.blk.set 2 _).set 3 _)) rfl rfl (fun h => by rcases h with h | h <;> cases h)⟩⟩
set_option maxHeartbeats 8000000 in
set_option maxRecDepth 100000 in
theorem ends_line03 {B g : Nat} {s : List UInt8} {i : Nat} {line : Int} {cur : List UInt8} {begun eline : Int} {blank : Bool} {words : List Trm} {fresh : Bool} {out : List Ent} {q : SV} {w : World} (h : SM B g s i ⟨line, 3, 0, cur, begun, eline, blank, words, fresh, out⟩ q w)
    (hi2 : i ≤ s.length) (h64 : words.length ≤ 64) (hl0 : 0 ≤ line) (hl1 : line ≤ 70000) (hout : out.length ≤ 65600) :
    Calls Tryd.prog 31 #[.pointer (some ⟨g, 0, none⟩), .int .u8 10, .int .i64 i] w fun e w' => Below B w w' ∧ Oc B g s i (Sc.ends (10 : UInt8) ⟨line, 3, 0, cur, begun, eline, blank, words, fresh, out⟩) e w' := by
  obtain ⟨frm, wa, wn, wc, oa, on, oc, eds, m⟩ := q
  have S0 := Lib.hid h
  have hout1 := Lib.hid hout
  have hi3 := Lib.hid hi2
  have h65 := Lib.hid h64
  clear h hout hi2 h64
  have hout2 := hout1
  have k0 := Lib.hid (Below.refl B w)
  have c1 : w.cell? ⟨g, 1, none⟩ = some (.int .i64 line) := (S0.out.blk.cell 1).trans rfl
  have z1 : w.frozen? ⟨g, 1, none⟩ = false := by rw [S0.out.blk.frozen]; rfl
  have c2 : w.cell? ⟨g, 2, none⟩ = some (.int .u8 3) := (S0.out.blk.cell 2).trans rfl
  have z2 : w.frozen? ⟨g, 2, none⟩ = false := by rw [S0.out.blk.frozen]; rfl
  have c3 : w.cell? ⟨g, 3, none⟩ = some (.int .i64 (0 : Nat)) := (S0.out.blk.cell 3).trans rfl
  have z3 : w.frozen? ⟨g, 3, none⟩ = false := by rw [S0.out.blk.frozen]; rfl
  go_enter Tryd.func31, Tryd.ntmps31
  go_wp2_with fail
  obtain ⟨Y, hY⟩ : ∃ Y, w.setCell ⟨g, 2, none⟩ (.int .u8 0) = Y := ⟨_, rfl⟩
  rw [hY]
  have GY : Hid (w.grownBy Y (some g)) := Lib.hid (by rw [← hY]; exact grown_set _ _ _ _)
  have BY := Lib.hid (S0.out.blk.set 2 (.int .u8 0))
  rw [hY] at BY
  clear hY
  have SY := Lib.hid (SM.upd (f := frm) (c2 := ⟨line, 0, 0, cur, begun, eline, blank, words, fresh, out⟩) S0.out GY.out BY.out rfl rfl (fun h => by rcases h with h | h <;> cases h) : SM B g s i _ _ Y)
  refine (entry_sm SY.out (by first | exact hout.out | exact hout2.out)).mono ?_
  rintro e w9 ⟨rfl, k9, q9, S9⟩
  replace k9 := Lib.hid k9
  replace S9 := Lib.hid S9
  clear c1 c2 c3 z1 z2 z3
  have d1 : w9.cell? ⟨g, 1, none⟩ = some (.int .i64 line) := (S9.out.blk.cell 1).trans rfl
  have y1 : w9.frozen? ⟨g, 1, none⟩ = false := by rw [S9.out.blk.frozen]; rfl
  go_wp2_with fail
  go_ret
  have G9 : Hid (w9.grownBy (w9.setCell ⟨g, 1, none⟩ (.int .i64 (line + 1))) (some g)) := Lib.hid (grown_set _ _ _ _)
  exact ⟨((k0.out.trans (S0.out.below GY.out)).trans k9.out).trans (S9.out.below G9.out), .inl ⟨_, _, (ends_mark _ _ (by simp)).trans (mark_line0 _ rfl), rfl, SM.upd (f := q9.frm) S9.out G9.out (S9.out.blk.set 1 _) rfl rfl (fun h => by rcases h with h | h <;> cases h)⟩⟩
set_option maxHeartbeats 8000000 in
set_option maxRecDepth 100000 in
theorem ends_line3 {B g : Nat} {s : List UInt8} {i : Nat} {line : Int} {d : Nat} {cur : List UInt8} {begun eline : Int} {blank : Bool} {words : List Trm} {fresh : Bool} {out : List Ent} {q : SV} {w : World} (h : SM B g s i ⟨line, 3, (d + 1), cur, begun, eline, blank, words, fresh, out⟩ q w)
    (hi2 : i ≤ s.length) (h64 : words.length ≤ 64) (hl0 : 0 ≤ line) (hl1 : line ≤ 70000) (hdp : d + 1 ≤ 70000) (hout : out.length ≤ 65600) :
    Calls Tryd.prog 31 #[.pointer (some ⟨g, 0, none⟩), .int .u8 10, .int .i64 i] w fun e w' => Below B w w' ∧ Oc B g s i (Sc.ends (10 : UInt8) ⟨line, 3, (d + 1), cur, begun, eline, blank, words, fresh, out⟩) e w' := by
  obtain ⟨deep, hdeep⟩ : ∃ deep, d + 1 = deep := ⟨_, rfl⟩
  rw [hdeep] at h ⊢
  replace hdp : deep ≤ 70000 := by omega
  have hd1 : (1 : Int) ≤ deep := by omega
  have ed : ((deep : Int) == 0) = false := by rw [beq_eq_false_iff_ne]; omega
  have hdn : Hid (¬ deep = 0) := Lib.hid (by omega)
  clear hdeep
  have hdI : (0 : Int) ≤ deep := by omega
  have hdJ : (deep : Int) ≤ 70000 := by omega
  obtain ⟨frm, wa, wn, wc, oa, on, oc, eds, m⟩ := q
  have S0 := Lib.hid h
  have hout1 := Lib.hid hout
  have hi3 := Lib.hid hi2
  have h65 := Lib.hid h64
  clear h hout hi2 h64
  have hout2 := hout1
  have k0 := Lib.hid (Below.refl B w)
  have c1 : w.cell? ⟨g, 1, none⟩ = some (.int .i64 line) := (S0.out.blk.cell 1).trans rfl
  have z1 : w.frozen? ⟨g, 1, none⟩ = false := by rw [S0.out.blk.frozen]; rfl
  have c2 : w.cell? ⟨g, 2, none⟩ = some (.int .u8 3) := (S0.out.blk.cell 2).trans rfl
  have z2 : w.frozen? ⟨g, 2, none⟩ = false := by rw [S0.out.blk.frozen]; rfl
  have c3 : w.cell? ⟨g, 3, none⟩ = some (.int .i64 deep) := (S0.out.blk.cell 3).trans rfl
  have z3 : w.frozen? ⟨g, 3, none⟩ = false := by rw [S0.out.blk.frozen]; rfl
  go_enter Tryd.func31, Tryd.ntmps31
  go_wp2_with fail
  go_ret
  have G9 : Hid (w.grownBy (((w).setCell ⟨g, 2, none⟩ (.int .u8 0)).setCell ⟨g, 1, none⟩ (.int .i64 (line + 1))) (some g)) := Lib.hid (grown_trans (grown_set _ _ _ _) (grown_set _ _ _ _))
  exact ⟨k0.out.trans (S0.out.below G9.out), .inl ⟨_, _, (ends_mark _ _ (by simp)).trans (mark_line _ hdn.out), rfl, SM.upd (f := frm) S0.out G9.out (((S0.out.blk.set 2 _).set 1 _)) rfl rfl (fun h => by rcases h with h | h <;> cases h)⟩⟩
set_option maxHeartbeats 8000000 in
set_option maxRecDepth 100000 in
theorem ends_else3 {B g : Nat} {s : List UInt8} {i : Nat} {line : Int} {deep : Nat} {cur : List UInt8} {begun eline : Int} {blank : Bool} {words : List Trm} {fresh : Bool} {out : List Ent} {q : SV} {w : World} (b : UInt8) (h1 : Hid (¬ b = 59)) (h2 : Hid (¬ b = 40)) (h3 : Hid (¬ b = 41)) (h4 : Hid (¬ b = 10)) (h : SM B g s i ⟨line, 3, deep, cur, begun, eline, blank, words, fresh, out⟩ q w)
    (hi2 : i ≤ s.length) (h64 : words.length ≤ 64) (hdp : deep ≤ 70000) (hout : out.length ≤ 65600) :
    Calls Tryd.prog 31 #[.pointer (some ⟨g, 0, none⟩), .int .u8 (b.toNat : Int), .int .i64 i] w fun e w' => Below B w w' ∧ Oc B g s i (Sc.ends b ⟨line, 3, deep, cur, begun, eline, blank, words, fresh, out⟩) e w' := by
  have e1 : ((b.toNat : Int) == 59) = false := u8_ne (k := 59) h1.out
  have e2 : ((b.toNat : Int) == 40) = false := u8_ne (k := 40) h2.out
  have e3 : ((b.toNat : Int) == 41) = false := u8_ne (k := 41) h3.out
  have e4 : ((b.toNat : Int) == 10) = false := u8_ne (k := 10) h4.out
  generalize hbx : (b.toNat : Int) = bx at *
  have hdI : (0 : Int) ≤ deep := by omega
  have hdJ : (deep : Int) ≤ 70000 := by omega
  obtain ⟨frm, wa, wn, wc, oa, on, oc, eds, m⟩ := q
  have S0 := Lib.hid h
  have hout1 := Lib.hid hout
  have hi3 := Lib.hid hi2
  have h65 := Lib.hid h64
  clear h hout hi2 h64
  have hout2 := hout1
  have k0 := Lib.hid (Below.refl B w)
  have c1 : w.cell? ⟨g, 1, none⟩ = some (.int .i64 line) := (S0.out.blk.cell 1).trans rfl
  have z1 : w.frozen? ⟨g, 1, none⟩ = false := by rw [S0.out.blk.frozen]; rfl
  have c2 : w.cell? ⟨g, 2, none⟩ = some (.int .u8 3) := (S0.out.blk.cell 2).trans rfl
  have z2 : w.frozen? ⟨g, 2, none⟩ = false := by rw [S0.out.blk.frozen]; rfl
  have c3 : w.cell? ⟨g, 3, none⟩ = some (.int .i64 deep) := (S0.out.blk.cell 3).trans rfl
  have z3 : w.frozen? ⟨g, 3, none⟩ = false := by rw [S0.out.blk.frozen]; rfl
  go_enter Tryd.func31, Tryd.ntmps31
  go_wp2_with fail
  go_ret
  have G9 : Hid (w.grownBy ((w).setCell ⟨g, 2, none⟩ (.int .u8 0)) (some g)) := Lib.hid (grown_set _ _ _ _)
  exact ⟨k0.out.trans (S0.out.below G9.out), .inl ⟨_, _, (ends_mark _ _ (by simp)).trans (mark_else _ (by simp) b h1.out h2.out h3.out h4.out), rfl, SM.upd (f := frm) S0.out G9.out ((S0.out.blk.set 2 _)) rfl rfl (fun h => by rcases h with h | h <;> cases h)⟩⟩
set_option maxHeartbeats 8000000 in
set_option maxRecDepth 100000 in
theorem ends_line04 {B g : Nat} {s : List UInt8} {i : Nat} {line : Int} {cur : List UInt8} {begun eline : Int} {blank : Bool} {words : List Trm} {fresh : Bool} {out : List Ent} {q : SV} {w : World} (h : SM B g s i ⟨line, 4, 0, cur, begun, eline, blank, words, fresh, out⟩ q w)
    (hi2 : i ≤ s.length) (h64 : words.length ≤ 64) (hl0 : 0 ≤ line) (hl1 : line ≤ 70000) (hout : out.length ≤ 65600) :
    Calls Tryd.prog 31 #[.pointer (some ⟨g, 0, none⟩), .int .u8 10, .int .i64 i] w fun e w' => Below B w w' ∧ Oc B g s i (Sc.ends (10 : UInt8) ⟨line, 4, 0, cur, begun, eline, blank, words, fresh, out⟩) e w' := by
  obtain ⟨frm, wa, wn, wc, oa, on, oc, eds, m⟩ := q
  have S0 := Lib.hid h
  have hout1 := Lib.hid hout
  have hi3 := Lib.hid hi2
  have h65 := Lib.hid h64
  clear h hout hi2 h64
  have hout2 := hout1
  have k0 := Lib.hid (Below.refl B w)
  have c1 : w.cell? ⟨g, 1, none⟩ = some (.int .i64 line) := (S0.out.blk.cell 1).trans rfl
  have z1 : w.frozen? ⟨g, 1, none⟩ = false := by rw [S0.out.blk.frozen]; rfl
  have c2 : w.cell? ⟨g, 2, none⟩ = some (.int .u8 4) := (S0.out.blk.cell 2).trans rfl
  have z2 : w.frozen? ⟨g, 2, none⟩ = false := by rw [S0.out.blk.frozen]; rfl
  have c3 : w.cell? ⟨g, 3, none⟩ = some (.int .i64 (0 : Nat)) := (S0.out.blk.cell 3).trans rfl
  have z3 : w.frozen? ⟨g, 3, none⟩ = false := by rw [S0.out.blk.frozen]; rfl
  go_enter Tryd.func31, Tryd.ntmps31
  go_wp2_with fail
  obtain ⟨Y, hY⟩ : ∃ Y, w.setCell ⟨g, 2, none⟩ (.int .u8 0) = Y := ⟨_, rfl⟩
  rw [hY]
  have GY : Hid (w.grownBy Y (some g)) := Lib.hid (by rw [← hY]; exact grown_set _ _ _ _)
  have BY := Lib.hid (S0.out.blk.set 2 (.int .u8 0))
  rw [hY] at BY
  clear hY
  have SY := Lib.hid (SM.upd (f := frm) (c2 := ⟨line, 0, 0, cur, begun, eline, blank, words, fresh, out⟩) S0.out GY.out BY.out rfl rfl (fun h => by rcases h with h | h <;> cases h) : SM B g s i _ _ Y)
  refine (entry_sm SY.out (by first | exact hout.out | exact hout2.out)).mono ?_
  rintro e w9 ⟨rfl, k9, q9, S9⟩
  replace k9 := Lib.hid k9
  replace S9 := Lib.hid S9
  clear c1 c2 c3 z1 z2 z3
  have d1 : w9.cell? ⟨g, 1, none⟩ = some (.int .i64 line) := (S9.out.blk.cell 1).trans rfl
  have y1 : w9.frozen? ⟨g, 1, none⟩ = false := by rw [S9.out.blk.frozen]; rfl
  go_wp2_with fail
  go_ret
  have G9 : Hid (w9.grownBy (w9.setCell ⟨g, 1, none⟩ (.int .i64 (line + 1))) (some g)) := Lib.hid (grown_set _ _ _ _)
  exact ⟨((k0.out.trans (S0.out.below GY.out)).trans k9.out).trans (S9.out.below G9.out), .inl ⟨_, _, (ends_mark _ _ (by simp)).trans (mark_line0 _ rfl), rfl, SM.upd (f := q9.frm) S9.out G9.out (S9.out.blk.set 1 _) rfl rfl (fun h => by rcases h with h | h <;> cases h)⟩⟩
set_option maxHeartbeats 8000000 in
set_option maxRecDepth 100000 in
theorem ends_line4 {B g : Nat} {s : List UInt8} {i : Nat} {line : Int} {d : Nat} {cur : List UInt8} {begun eline : Int} {blank : Bool} {words : List Trm} {fresh : Bool} {out : List Ent} {q : SV} {w : World} (h : SM B g s i ⟨line, 4, (d + 1), cur, begun, eline, blank, words, fresh, out⟩ q w)
    (hi2 : i ≤ s.length) (h64 : words.length ≤ 64) (hl0 : 0 ≤ line) (hl1 : line ≤ 70000) (hdp : d + 1 ≤ 70000) (hout : out.length ≤ 65600) :
    Calls Tryd.prog 31 #[.pointer (some ⟨g, 0, none⟩), .int .u8 10, .int .i64 i] w fun e w' => Below B w w' ∧ Oc B g s i (Sc.ends (10 : UInt8) ⟨line, 4, (d + 1), cur, begun, eline, blank, words, fresh, out⟩) e w' := by
  obtain ⟨deep, hdeep⟩ : ∃ deep, d + 1 = deep := ⟨_, rfl⟩
  rw [hdeep] at h ⊢
  replace hdp : deep ≤ 70000 := by omega
  have hd1 : (1 : Int) ≤ deep := by omega
  have ed : ((deep : Int) == 0) = false := by rw [beq_eq_false_iff_ne]; omega
  have hdn : Hid (¬ deep = 0) := Lib.hid (by omega)
  clear hdeep
  have hdI : (0 : Int) ≤ deep := by omega
  have hdJ : (deep : Int) ≤ 70000 := by omega
  obtain ⟨frm, wa, wn, wc, oa, on, oc, eds, m⟩ := q
  have S0 := Lib.hid h
  have hout1 := Lib.hid hout
  have hi3 := Lib.hid hi2
  have h65 := Lib.hid h64
  clear h hout hi2 h64
  have hout2 := hout1
  have k0 := Lib.hid (Below.refl B w)
  have c1 : w.cell? ⟨g, 1, none⟩ = some (.int .i64 line) := (S0.out.blk.cell 1).trans rfl
  have z1 : w.frozen? ⟨g, 1, none⟩ = false := by rw [S0.out.blk.frozen]; rfl
  have c2 : w.cell? ⟨g, 2, none⟩ = some (.int .u8 4) := (S0.out.blk.cell 2).trans rfl
  have z2 : w.frozen? ⟨g, 2, none⟩ = false := by rw [S0.out.blk.frozen]; rfl
  have c3 : w.cell? ⟨g, 3, none⟩ = some (.int .i64 deep) := (S0.out.blk.cell 3).trans rfl
  have z3 : w.frozen? ⟨g, 3, none⟩ = false := by rw [S0.out.blk.frozen]; rfl
  go_enter Tryd.func31, Tryd.ntmps31
  go_wp2_with fail
  go_ret
  have G9 : Hid (w.grownBy (((w).setCell ⟨g, 2, none⟩ (.int .u8 0)).setCell ⟨g, 1, none⟩ (.int .i64 (line + 1))) (some g)) := Lib.hid (grown_trans (grown_set _ _ _ _) (grown_set _ _ _ _))
  exact ⟨k0.out.trans (S0.out.below G9.out), .inl ⟨_, _, (ends_mark _ _ (by simp)).trans (mark_line _ hdn.out), rfl, SM.upd (f := frm) S0.out G9.out (((S0.out.blk.set 2 _).set 1 _)) rfl rfl (fun h => by rcases h with h | h <;> cases h)⟩⟩
/-- ends, whatever byte it is -/
theorem ends_sm {B g : Nat} {s : List UInt8} {i : Nat} {c : Sc} {q : SV} {w : World} (b : UInt8) (h : SM B g s i c q w) (hst : c.st = 0 ∨ c.st = 1 ∨ c.st = 3 ∨ (c.st = 4 ∧ b = 10)) (hi2 : i ≤ s.length) (h64 : c.words.length ≤ 64) (hl0 : 0 ≤ c.line) (hl1 : c.line ≤ 70000) (hdp : c.deep ≤ 70000) (hout : c.out.length ≤ 65600) :
    Calls Tryd.prog 31 #[.pointer (some ⟨g, 0, none⟩), .int .u8 b.toNat, .int .i64 i] w fun e w' => Below B w w' ∧ Oc B g s i (c.ends b) e w' := by
  obtain ⟨line, st, deep, cur, begun, eline, blank, words, fresh, out⟩ := c
  dsimp only at *
  by_cases h4 : b = 10
  · subst h4
    cases deep with
    | zero => rcases hst with rfl | rfl | rfl | ⟨rfl, _⟩ <;> first | exact ends_line00 h hi2 h64 hl0 hl1 hout | exact ends_line01 h hi2 h64 hl0 hl1 hout | exact ends_line03 h hi2 h64 hl0 hl1 hout | exact ends_line04 h hi2 h64 hl0 hl1 hout
    | succ d => rcases hst with rfl | rfl | rfl | ⟨rfl, _⟩ <;> first | exact ends_line0 h hi2 h64 hl0 hl1 hdp hout | exact ends_line1 h hi2 h64 hl0 hl1 hdp hout | exact ends_line3 h hi2 h64 hl0 hl1 hdp hout | exact ends_line4 h hi2 h64 hl0 hl1 hdp hout
  have hs3 : st = 0 ∨ st = 1 ∨ st = 3 := by
    rcases hst with h | h | h | ⟨_, h⟩
    · exact .inl h
    · exact .inr (.inl h)
    · exact .inr (.inr h)
    · exact absurd h h4
  by_cases h1 : b = 59
  · subst h1
    rcases hs3 with rfl | rfl | rfl
    · exact ends_semi0 h hi2 h64 hdp hout
    · exact ends_semi1 h hi2 h64 hdp hout
    · exact ends_semi3 h hi2 h64 hdp hout
  by_cases h2 : b = 40
  · subst h2
    rcases hs3 with rfl | rfl | rfl
    · exact ends_open0 h hi2 h64 hdp hout
    · exact ends_open1 h hi2 h64 hdp hout
    · exact ends_open3 h hi2 h64 hdp hout
  by_cases h3 : b = 41
  · subst h3
    cases deep with
    | zero =>
      rcases hs3 with rfl | rfl | rfl
      · exact ends_shut00 h hi2 h64 hout
      · exact ends_shut01 h hi2 h64 hout
      · exact ends_shut03 h hi2 h64 hout
    | succ d =>
      rcases hs3 with rfl | rfl | rfl
      · exact ends_shut0 h hi2 h64 hdp hout
      · exact ends_shut1 h hi2 h64 hdp hout
      · exact ends_shut3 h hi2 h64 hdp hout
  rcases hs3 with rfl | rfl | rfl
  · exact ends_else0 b (Lib.hid h1) (Lib.hid h2) (Lib.hid h3) (Lib.hid h4) h hi2 h64 hdp hout
  · exact ends_else1 b (Lib.hid h1) (Lib.hid h2) (Lib.hid h3) (Lib.hid h4) h hi2 h64 hdp hout
  · exact ends_else3 b (Lib.hid h1) (Lib.hid h2) (Lib.hid h3) (Lib.hid h4) h hi2 h64 hdp hout
end Go.Proofs.YtojdjhicjhhblaaDoor
