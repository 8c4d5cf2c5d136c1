/- The document's scanner: put 65, end 50. -/
import Derived.Test.YtojdjhicjhhblaaRsB
namespace Go.Proofs.Ytojdjhicjhhblaa
open Go Go.RowKit
theorem still_gen {P : Program} {ops : Array Oper} {w : World} {Q : Act → Prop} {l : List Oper} {a : Act} (h : ∀ Q1 : Act → Prop, (∀ x, Q x → Q1 x) → wpStill P ops w Q1 l a) : wpStill P ops w Q l a := h Q (fun _ h => h)
def putE (c : Sc) (t : List UInt8) (qd : Bool) : Except (Int × Int) Sc :=
  if c.words.length = 64 then .error (3, c.line) else .ok { c with eline := if c.words.isEmpty then c.line else c.eline, words := c.words ++ [(t, qd)] }
def Sc.look (r : List UInt8) (c : Sc) : Sc := match r with | [] => { c with blank := false, fresh := false } | b :: _ => c.see b
/-- a word's slice has grown -/
theorem RM.app {B g : Nat} {s : List UInt8} {i : Nat} {c c2 : Sc} {wa : Option Addr} {wn wc : Nat} {oa : Option Addr} {on oc : Nat} {eds : List ED} {m : Nat} {W V1 V : World} {a : Option Addr} {n k : Nat} {x : Trm} (h : RM B g s i c ⟨wa, wn, wc, oa, on, oc, eds, m⟩ W)
    (g1 : W.grownBy V1 (Value.slice wa wn wc).ownBlock) (g2 : V1.grownBy V (some g)) (hb : Blk V g 86 (0, 0) (rsC s i c2 ⟨a, n, k, oa, on, oc, eds, m⟩)) (ho : Own trE V m (.slice a n k) (c.words ++ [x])) (hn : n = wn + 1) (hw : c2.words = c.words ++ [x]) (hout : c2.out = c.out) :
    RM B g s i c2 ⟨a, n, k, oa, on, oc, eds, m⟩ V ∧ Below B W V := by
  have hBw : B ≤ W.heap.size := Nat.le_trans h.lo h.hi
  have b1 : Below B W V1 := own_below (Below.refl B W) g1 h.words hBw h.lo
  have b2 : Below B W V := b1.grown g2 (Nat.le_trans hBw b1.size) (fun k hk => by cases hk; exact h.hB)
  have bV := blk_own h.blk h.words (by decide) g1
  have o1 := own_grown h.out h.words (by decide) g1
  have hwl := h.wl
  dsimp only at hwl
  refine ⟨⟨h.hB, hb, by rw [hw]; exact ho, by rw [hw, List.length_append, hwl, hn]; rfl, own_store o1 bV (by decide) g2, h.ol, ?_, h.lo, Nat.le_trans h.hi b2.size⟩, b2⟩
  rw [hout]
  refine h.ents.keep fun k C hk hC => ?_
  have e1 : V1.heap[k]? = W.heap[k]? := g1.block k hC.lt (fun e => by have := (h.words.lt k e.symm).1; omega)
  rw [keep_r bV g2 (t := 27) (by decide) (C := C) (e1.trans hC), e1]
def PutP (B g : Nat) (s : List UInt8) (i : Nat) (r : Except (Int × Int) Sc) (w : World) : Prop :=
  (∃ c2 q2, r = .ok c2 ∧ RM B g s i c2 q2 w) ∨ (∃ x, r = .error x ∧ x.1 = 3 ∧ RF g x w)
set_option maxHeartbeats 8000000 in
set_option maxRecDepth 100000 in
theorem rput_full {B g : Nat} {s : List UInt8} {i : Nat} {c : Sc} {q : RV} {w : World} (t : List UInt8) (qd : Bool) (h : RM B g s i c q w) (h64 : c.words.length ≤ 64) (hf : c.words.length = 64) :
    Calls Try.prog 65 #[.pointer (some ⟨g, 0, none⟩), .agg #[.string (mk t), .bool qd]] w fun e w' => e = .returned (.tuple #[]) ∧ Below B w w' ∧ PutP B g s i (putE c t qd) w' := by
  obtain ⟨line, st, deep, cur, begun, eline, blank, words, fresh, out⟩ := c
  obtain ⟨wa, wn, wk, oa, on, oc, eds, m⟩ := q
  have hwl := h.wl
  dsimp only at hwl h64 hf
  obtain rfl : wn = 64 := by omega
  have hE : Hid (putE ⟨line, st, deep, cur, begun, eline, blank, words, fresh, out⟩ t qd = .error (3, line)) := Lib.hid (by unfold putE; rw [if_pos hf])
  obtain ⟨W1, hW1⟩ : ∃ W, w.alloc (.cells #[.string (mk t), .bool qd] 27) = W := ⟨_, rfl⟩
  have hH : Hid (Blk W1 w.heap.size 27 (0, 0) [.string (mk t), .bool qd]) := Lib.hid (by rw [← hW1]; exact Blk.new w 27 (0, 0) #[.string (mk t), .bool qd])
  have kw : Below w.heap.size w W1 := by rw [← hW1]; exact alloc_bel _ _
  have S0 := Lib.hid (h.ext kw)
  have k0 : Hid (Below B w W1) := Lib.hid (kw.mono (Nat.le_trans h.lo h.hi))
  have hwl2 := Lib.hid hwl
  clear h kw hwl h64 hf
  have c2 : W1.cell? ⟨g, 2, none⟩ = some (.int .i64 line) := (S0.out.blk.cell 2).trans rfl
  have z2 : W1.frozen? ⟨g, 2, none⟩ = false := by rw [S0.out.blk.frozen]; rfl
  have c5 : W1.cell? ⟨g, 5, none⟩ = some (.int .i64 eline) := (S0.out.blk.cell 5).trans rfl
  have z5 : W1.frozen? ⟨g, 5, none⟩ = false := by rw [S0.out.blk.frozen]; rfl
  have c7 : W1.cell? ⟨g, 7, none⟩ = some (.slice wa 64 wk) := (S0.out.blk.cell 7).trans rfl
  have z7 : W1.frozen? ⟨g, 7, none⟩ = false := by rw [S0.out.blk.frozen]; rfl
  have c9 : W1.cell? ⟨g, 9, none⟩ = some (.int .i64 0) := (S0.out.blk.cell 9).trans rfl
  have z9 : W1.frozen? ⟨g, 9, none⟩ = false := by rw [S0.out.blk.frozen]; rfl
  go_enter Try.func65, Try.ntmps65
  go_upto_region 1 with (fail)
  clear hW1
  go_wp2_with fail
  refine (fault_any 3 line S0.out.blk).mono ?_
  rintro e w6 ⟨rfl, g6, b6⟩
  replace g6 := Lib.hid g6
  replace b6 := Lib.hid b6
  clear c2 z2 c5 z5 c7 z7 c9 z9
  go_wp2_with fail
  ((try simp only [Exit.inBlock, Exit.then]); refine bodyPost_ret (results_none rfl _ _ _) rfl ?_)
  exact ⟨rfl, k0.out.trans (S0.out.below g6.out), .inr ⟨_, hE.out, rfl, RF.of b6.out⟩⟩
set_option maxHeartbeats 8000000 in
set_option maxRecDepth 100000 in
theorem rput_first {B g : Nat} {s : List UInt8} {i : Nat} {c : Sc} {q : RV} {w : World} (t : List UInt8) (qd : Bool) (h : RM B g s i c q w) (h64 : c.words.length ≤ 64) (hf : c.words = []) :
    Calls Try.prog 65 #[.pointer (some ⟨g, 0, none⟩), .agg #[.string (mk t), .bool qd]] w fun e w' => e = .returned (.tuple #[]) ∧ Below B w w' ∧ PutP B g s i (putE c t qd) w' := by
  obtain ⟨line, st, deep, cur, begun, eline, blank, words, fresh, out⟩ := c
  obtain ⟨wa, wn, wk, oa, on, oc, eds, m⟩ := q
  have hwl := h.wl
  dsimp only at hwl h64 hf
  subst hf
  obtain rfl : wn = 0 := by simpa using hwl.symm
  have hE : Hid (putE ⟨line, st, deep, cur, begun, eline, blank, [], fresh, out⟩ t qd = .ok ⟨line, st, deep, cur, begun, line, blank, [] ++ [(t, qd)], fresh, out⟩) := Lib.hid rfl
  obtain ⟨W1, hW1⟩ : ∃ W, w.alloc (.cells #[.string (mk t), .bool qd] 27) = W := ⟨_, rfl⟩
  have hH : Hid (Blk W1 w.heap.size 27 (0, 0) [.string (mk t), .bool qd]) := Lib.hid (by rw [← hW1]; exact Blk.new w 27 (0, 0) #[.string (mk t), .bool qd])
  have kw : Below w.heap.size w W1 := by rw [← hW1]; exact alloc_bel _ _
  have S0 := Lib.hid (h.ext kw)
  have k0 : Hid (Below B w W1) := Lib.hid (kw.mono (Nat.le_trans h.lo h.hi))
  have hwl2 := Lib.hid hwl
  clear h kw hwl h64 
  have c2 : W1.cell? ⟨g, 2, none⟩ = some (.int .i64 line) := (S0.out.blk.cell 2).trans rfl
  have z2 : W1.frozen? ⟨g, 2, none⟩ = false := by rw [S0.out.blk.frozen]; rfl
  have c5 : W1.cell? ⟨g, 5, none⟩ = some (.int .i64 eline) := (S0.out.blk.cell 5).trans rfl
  have z5 : W1.frozen? ⟨g, 5, none⟩ = false := by rw [S0.out.blk.frozen]; rfl
  have c7 : W1.cell? ⟨g, 7, none⟩ = some (.slice wa 0 wk) := (S0.out.blk.cell 7).trans rfl
  have z7 : W1.frozen? ⟨g, 7, none⟩ = false := by rw [S0.out.blk.frozen]; rfl
  have c9 : W1.cell? ⟨g, 9, none⟩ = some (.int .i64 0) := (S0.out.blk.cell 9).trans rfl
  have z9 : W1.frozen? ⟨g, 9, none⟩ = false := by rw [S0.out.blk.frozen]; rfl
  go_enter Try.func65, Try.ntmps65
  go_upto_region 1 with (fail)
  clear hW1
  go_upto_region 6 with (fail)
  obtain ⟨Y, hY⟩ : ∃ Y, W1.setCell ⟨g, 5, none⟩ (.int .i64 line) = Y := ⟨_, rfl⟩
  rw [hY]
  have GY : Hid (W1.grownBy Y (some g)) := Lib.hid (by rw [← hY]; exact grown_set _ _ _ _)
  have BY : Hid (Blk Y g 86 (0, 0) (rsC s i ⟨line, st, deep, cur, begun, line, blank, [], fresh, out⟩ ⟨wa, 0, wk, oa, on, oc, eds, m⟩)) := Lib.hid (by rw [← hY]; exact S0.out.blk.set 5 _)
  have SY : Hid (RM B g s i ⟨line, st, deep, cur, begun, line, blank, [], fresh, out⟩ ⟨wa, 0, wk, oa, on, oc, eds, m⟩ Y) := Lib.hid (S0.out.upd GY.out BY.out rfl rfl)
  have kY : Hid (Below B w Y) := Lib.hid (k0.out.trans (S0.out.below GY.out))
  have HY : Hid (Blk Y w.heap.size 27 (0, 0) [.string (mk t), .bool qd]) := Lib.hid (blk_store hH.out S0.out.blk (by decide) GY.out)
  clear c2 z2 c5 z5 c7 z7 c9 z9
  clear hY
  refine rput_reg _ _ _ _ _ _ _ _ _ _ _ _ _ _ _ _ _ _ _ _ _ _ _ _ _ _ _ _ _ _ _ _ _ _ _ _ _ _ _ _ _ _ _ _ _ _ _ _ _ _ _ _ _ _ _ _ _ _ _ _ _ _ _ _  SY.out.blk SY.out.words SY.out.wl SY.out.hi (by show 0 ≤ 70000; omega) HY.out ?_
  intro x38 x39 x40 x41 x42 x43 x44 x45 x46 x47 x48 x49 V V1 a c hg1 hg2 hB2 hO2
  try dsimp only
  have R := Lib.hid (RM.app (c2 := ⟨line, st, deep, cur, begun, line, blank, [] ++ [(t, qd)], fresh, out⟩) (n := 0 + 1) SY.out hg1 hg2 hB2 hO2 rfl rfl rfl)
  clear hg1 hg2 hB2 hO2
  go_wp2_with fail
  go_end0
  exact ⟨rfl, kY.out.trans R.out.2, .inl ⟨_, _, hE.out, R.out.1⟩⟩
set_option maxHeartbeats 8000000 in
set_option maxRecDepth 100000 in
theorem rput_some {B g : Nat} {s : List UInt8} {i : Nat} {c : Sc} {q : RV} {w : World} (t : List UInt8) (qd : Bool) (h : RM B g s i c q w) (h64 : c.words.length ≤ 64) (hf : ¬ c.words.length = 64) (hne : ¬ c.words = []) :
    Calls Try.prog 65 #[.pointer (some ⟨g, 0, none⟩), .agg #[.string (mk t), .bool qd]] w fun e w' => e = .returned (.tuple #[]) ∧ Below B w w' ∧ PutP B g s i (putE c t qd) w' := by
  obtain ⟨line, st, deep, cur, begun, eline, blank, words, fresh, out⟩ := c
  obtain ⟨wa, wn, wk, oa, on, oc, eds, m⟩ := q
  have hwl := h.wl
  dsimp only at hwl h64 hf hne
  have hem : words.isEmpty = false := by cases words with | nil => exact absurd rfl hne | cons => rfl
  have hE : Hid (putE ⟨line, st, deep, cur, begun, eline, blank, words, fresh, out⟩ t qd = .ok ⟨line, st, deep, cur, begun, eline, blank, words ++ [(t, qd)], fresh, out⟩) := Lib.hid (by unfold putE; rw [if_neg hf, hem]; rfl)
  have h0 : 0 < wn := by cases words with | nil => exact absurd rfl hne | cons => rw [← hwl]; simp
  have hwI : (0 : Int) < wn := by omega
  have hwI2 : (wn : Int) < 64 := by omega
  have e0 : ((wn : Int) == 0) = false := by rw [beq_eq_false_iff_ne]; omega
  obtain ⟨W1, hW1⟩ : ∃ W, w.alloc (.cells #[.string (mk t), .bool qd] 27) = W := ⟨_, rfl⟩
  have hH : Hid (Blk W1 w.heap.size 27 (0, 0) [.string (mk t), .bool qd]) := Lib.hid (by rw [← hW1]; exact Blk.new w 27 (0, 0) #[.string (mk t), .bool qd])
  have kw : Below w.heap.size w W1 := by rw [← hW1]; exact alloc_bel _ _
  have S0 := Lib.hid (h.ext kw)
  have k0 : Hid (Below B w W1) := Lib.hid (kw.mono (Nat.le_trans h.lo h.hi))
  have hwl2 := Lib.hid hwl
  clear h kw hwl h64 hem hf hne
  have c2 : W1.cell? ⟨g, 2, none⟩ = some (.int .i64 line) := (S0.out.blk.cell 2).trans rfl
  have z2 : W1.frozen? ⟨g, 2, none⟩ = false := by rw [S0.out.blk.frozen]; rfl
  have c5 : W1.cell? ⟨g, 5, none⟩ = some (.int .i64 eline) := (S0.out.blk.cell 5).trans rfl
  have z5 : W1.frozen? ⟨g, 5, none⟩ = false := by rw [S0.out.blk.frozen]; rfl
  have c7 : W1.cell? ⟨g, 7, none⟩ = some (.slice wa wn wk) := (S0.out.blk.cell 7).trans rfl
  have z7 : W1.frozen? ⟨g, 7, none⟩ = false := by rw [S0.out.blk.frozen]; rfl
  have c9 : W1.cell? ⟨g, 9, none⟩ = some (.int .i64 0) := (S0.out.blk.cell 9).trans rfl
  have z9 : W1.frozen? ⟨g, 9, none⟩ = false := by rw [S0.out.blk.frozen]; rfl
  go_enter Try.func65, Try.ntmps65
  go_upto_region 1 with (fail)
  clear hW1
  go_upto_region 6 with (fail)
  clear c2 z2 c5 z5 c7 z7 c9 z9
  refine rput_reg _ _ _ _ _ _ _ _ _ _ _ _ _ _ _ _ _ _ _ _ _ _ _ _ _ _ _ _ _ _ _ _ _ _ _ _ _ _ _ _ _ _ _ _ _ _ _ _ _ _ _ _ _ _ _ _ _ _ _ _ _ _ _ _  S0.out.blk S0.out.words S0.out.wl S0.out.hi (by show wn ≤ 70000; omega) hH.out ?_
  intro x38 x39 x40 x41 x42 x43 x44 x45 x46 x47 x48 x49 V V1 a c hg1 hg2 hB2 hO2
  try dsimp only
  have R := Lib.hid (RM.app (c2 := ⟨line, st, deep, cur, begun, eline, blank, words ++ [(t, qd)], fresh, out⟩) (n := wn + 1) S0.out hg1 hg2 hB2 hO2 rfl rfl rfl)
  clear hg1 hg2 hB2 hO2
  go_wp2_with fail
  go_end0
  exact ⟨rfl, k0.out.trans R.out.2, .inl ⟨_, _, hE.out, R.out.1⟩⟩
theorem rput_any {B g : Nat} {s : List UInt8} {i : Nat} {c : Sc} {q : RV} {w : World} (t : List UInt8) (qd : Bool) (h : RM B g s i c q w) (h64 : c.words.length ≤ 64) :
    Calls Try.prog 65 #[.pointer (some ⟨g, 0, none⟩), .agg #[.string (mk t), .bool qd]] w fun e w' => e = .returned (.tuple #[]) ∧ Below B w w' ∧ PutP B g s i (putE c t qd) w' := by
  by_cases hf : c.words.length = 64
  · exact rput_full t qd h h64 hf
  by_cases hne : c.words = []
  · exact rput_first t qd h h64 hne
  · exact rput_some t qd h h64 hf hne
set_option maxHeartbeats 8000000 in
set_option maxRecDepth 100000 in
theorem rend_el {B g : Nat} {s : List UInt8} {i : Nat} {c : Sc} {q : RV} {w : World} (h : RM B g s i c q w) (hfr : c.fresh = false) (hout : c.out.length ≤ 65600) (hw : c.words = []) (hi : i < s.length) :
    Calls Try.prog 50 #[.pointer (some ⟨g, 0, none⟩)] w fun e w' => e = .returned (.tuple #[]) ∧ Below B w w' ∧ ∃ q2, RM B g s i (c.entry.look (s.drop i)) q2 w' := by
  obtain ⟨line, st, deep, cur, begun, eline, blank, words, fresh, out⟩ := c
  obtain ⟨wa, wn, wk, oa, on, oc, eds, m⟩ := q
  have hwl := h.wl
  have hol := h.ents.1
  have hol2 := h.ol
  dsimp only at hwl hol hol2 hout hw hfr
  subst hfr
  subst hw
  obtain rfl : wn = 0 := by simpa using hwl.symm
  have hiI : (i : Int) < s.length := by omega
  obtain ⟨b, hb⟩ : ∃ b, s[i] = b := ⟨_, rfl⟩
  have hE : Hid (Sc.look (s.drop i) (Sc.entry ⟨line, st, deep, cur, begun, eline, blank, [], false, out⟩) = ⟨line, st, deep, cur, begun, 0, blankB b, [], false, out⟩) := Lib.hid (by rw [List.drop_eq_getElem_cons hi, hb]; rfl)
  have hon : on ≤ 70000 := by omega
  have S0 := Lib.hid h
  have k0 := Lib.hid (Below.refl B w)
  clear h hwl hol hol2 hout 
  have c0 : w.cell? ⟨g, 0, none⟩ = some (.string (mk s)) := (S0.out.blk.cell 0).trans rfl
  have c1 : w.cell? ⟨g, 1, none⟩ = some (.int .i64 i) := (S0.out.blk.cell 1).trans rfl
  have z1 : w.frozen? ⟨g, 1, none⟩ = false := by rw [S0.out.blk.frozen]; rfl
  have c4 : w.cell? ⟨g, 4, none⟩ = some (.bool blank) := (S0.out.blk.cell 4).trans rfl
  have z4 : w.frozen? ⟨g, 4, none⟩ = false := by rw [S0.out.blk.frozen]; rfl
  have c5 : w.cell? ⟨g, 5, none⟩ = some (.int .i64 eline) := (S0.out.blk.cell 5).trans rfl
  have z5 : w.frozen? ⟨g, 5, none⟩ = false := by rw [S0.out.blk.frozen]; rfl
  have c6 : w.cell? ⟨g, 6, none⟩ = some (.bool false) := (S0.out.blk.cell 6).trans rfl
  have z6 : w.frozen? ⟨g, 6, none⟩ = false := by rw [S0.out.blk.frozen]; rfl
  have c7 : w.cell? ⟨g, 7, none⟩ = some (.slice wa 0 wk) := (S0.out.blk.cell 7).trans rfl
  have z7 : w.frozen? ⟨g, 7, none⟩ = false := by rw [S0.out.blk.frozen]; rfl
  go_enter Try.func50, Try.ntmps50
  go_upto_region 4 with (fail)
  obtain ⟨U, hU⟩ : ∃ U, ((w.setCell ⟨g, 5, none⟩ (.int .i64 0)).setCell ⟨g, 6, none⟩ (.bool false)).setCell ⟨g, 7, none⟩ (.slice none 0 0) = U := ⟨_, rfl⟩
  rw [hU]
  have GU : Hid (w.grownBy U (some g)) := Lib.hid (by rw [← hU]; exact grown_trans (grown_trans (grown_set _ _ _ _) (grown_set _ _ _ _)) (grown_set _ _ _ _))
  have BU : Hid (Blk U g 86 (0, 0) (rsC s i ⟨line, st, deep, cur, begun, 0, blank, [], false, out⟩ ⟨none, 0, 0, oa, on, oc, eds, m⟩)) := Lib.hid (by rw [← hU]; exact ((S0.out.blk.set 5 _).set 6 _).set 7 _)
  have SU : Hid (RM B g s i ⟨line, st, deep, cur, begun, 0, blank, [], false, out⟩ ⟨none, 0, 0, oa, on, oc, eds, m⟩ U) := Lib.hid ⟨S0.out.hB, BU.out, Own.nil _ _ _, rfl, own_store S0.out.out S0.out.blk (by decide) GU.out, S0.out.ol, S0.out.ents.keep fun k C _ hC => keep_r S0.out.blk GU.out (by decide) hC, S0.out.lo, Nat.le_trans S0.out.hi GU.out.size⟩
  have kU : Hid (Below B w U) := Lib.hid (S0.out.below GU.out)
  clear hU c0 c1 z1 c4 z4 c5 z5 c6 z6 c7 z7
  have c0 : U.drew.cell? ⟨g, 0, none⟩ = some (.string (mk s)) := (SU.out.blk.cell 0).trans rfl
  have c1 : U.drew.cell? ⟨g, 1, none⟩ = some (.int .i64 i) := (SU.out.blk.cell 1).trans rfl
  refine wp_region_still_tail 25 (by kernel_rfl) (by kernel_rfl) ?_
  simp only [List.take_succ_cons, List.take_zero, List.drop_succ_cons, List.drop_zero]
  change wpStill _ _ U.drew _ _ _
  refine still_gen (fun Q1 hQ1 => ?_)
  iterate 21 still_step
  still_call ((rblank_any _ b).mono fun _ _ h => ⟨h.1, h.2.symm⟩)
  iterate 3 still_step
  refine wpStill_nil ?_
  refine hQ1 _ ?_
  clear hQ1 Q1
  change wpList _ _ _ _ _ U.drew
  have SZ := Lib.hid (SU.out.drew 1)
  have kZ := Lib.hid (bel_drewN kU.out 1)
  change Hid (RM _ _ _ _ _ _ U.drew) at SZ
  change Hid (Below _ _ U.drew) at kZ
  clear c0 c1 SU kU GU BU
  generalize U.drew = Z at *
  have c4 : Z.cell? ⟨g, 4, none⟩ = some (.bool blank) := (SZ.out.blk.cell 4).trans rfl
  have z4 : Z.frozen? ⟨g, 4, none⟩ = false := by rw [SZ.out.blk.frozen]; rfl
  go_wp2_with fail
  go_end0
  have G9 : Z.grownBy (Z.setCell ⟨g, 4, none⟩ (.bool (blankB b))) (some g) := grown_set _ _ _ _
  refine ⟨rfl, kZ.out.trans (SZ.out.below G9), ⟨none, 0, 0, oa, on, oc, eds, m⟩, ?_⟩
  rw [hE.out]
  exact SZ.out.upd G9 (SZ.out.blk.set 4 _) rfl rfl
set_option maxHeartbeats 8000000 in
set_option maxRecDepth 100000 in
theorem rend_ex {B g : Nat} {s : List UInt8} {i : Nat} {c : Sc} {q : RV} {w : World} (h : RM B g s i c q w) (hfr : c.fresh = false) (hout : c.out.length ≤ 65600) (hw : c.words = []) (hi : i = s.length) :
    Calls Try.prog 50 #[.pointer (some ⟨g, 0, none⟩)] w fun e w' => e = .returned (.tuple #[]) ∧ Below B w w' ∧ ∃ q2, RM B g s i (c.entry.look (s.drop i)) q2 w' := by
  obtain ⟨line, st, deep, cur, begun, eline, blank, words, fresh, out⟩ := c
  obtain ⟨wa, wn, wk, oa, on, oc, eds, m⟩ := q
  have hwl := h.wl
  have hol := h.ents.1
  have hol2 := h.ol
  dsimp only at hwl hol hol2 hout hw hfr
  subst hfr
  subst hw
  obtain rfl : wn = 0 := by simpa using hwl.symm
  subst hi
  have hE : Hid (Sc.look (s.drop s.length) (Sc.entry ⟨line, st, deep, cur, begun, eline, blank, [], false, out⟩) = ⟨line, st, deep, cur, begun, 0, false, [], false, out⟩) := Lib.hid (by rw [List.drop_length]; rfl)
  have hon : on ≤ 70000 := by omega
  have S0 := Lib.hid h
  have k0 := Lib.hid (Below.refl B w)
  clear h hwl hol hol2 hout 
  have c0 : w.cell? ⟨g, 0, none⟩ = some (.string (mk s)) := (S0.out.blk.cell 0).trans rfl
  have c1 : w.cell? ⟨g, 1, none⟩ = some (.int .i64 s.length) := (S0.out.blk.cell 1).trans rfl
  have z1 : w.frozen? ⟨g, 1, none⟩ = false := by rw [S0.out.blk.frozen]; rfl
  have c4 : w.cell? ⟨g, 4, none⟩ = some (.bool blank) := (S0.out.blk.cell 4).trans rfl
  have z4 : w.frozen? ⟨g, 4, none⟩ = false := by rw [S0.out.blk.frozen]; rfl
  have c5 : w.cell? ⟨g, 5, none⟩ = some (.int .i64 eline) := (S0.out.blk.cell 5).trans rfl
  have z5 : w.frozen? ⟨g, 5, none⟩ = false := by rw [S0.out.blk.frozen]; rfl
  have c6 : w.cell? ⟨g, 6, none⟩ = some (.bool false) := (S0.out.blk.cell 6).trans rfl
  have z6 : w.frozen? ⟨g, 6, none⟩ = false := by rw [S0.out.blk.frozen]; rfl
  have c7 : w.cell? ⟨g, 7, none⟩ = some (.slice wa 0 wk) := (S0.out.blk.cell 7).trans rfl
  have z7 : w.frozen? ⟨g, 7, none⟩ = false := by rw [S0.out.blk.frozen]; rfl
  go_enter Try.func50, Try.ntmps50
  go_upto_region 4 with (fail)
  obtain ⟨U, hU⟩ : ∃ U, ((w.setCell ⟨g, 5, none⟩ (.int .i64 0)).setCell ⟨g, 6, none⟩ (.bool false)).setCell ⟨g, 7, none⟩ (.slice none 0 0) = U := ⟨_, rfl⟩
  rw [hU]
  have GU : Hid (w.grownBy U (some g)) := Lib.hid (by rw [← hU]; exact grown_trans (grown_trans (grown_set _ _ _ _) (grown_set _ _ _ _)) (grown_set _ _ _ _))
  have BU : Hid (Blk U g 86 (0, 0) (rsC s s.length ⟨line, st, deep, cur, begun, 0, blank, [], false, out⟩ ⟨none, 0, 0, oa, on, oc, eds, m⟩)) := Lib.hid (by rw [← hU]; exact ((S0.out.blk.set 5 _).set 6 _).set 7 _)
  have SU : Hid (RM B g s s.length ⟨line, st, deep, cur, begun, 0, blank, [], false, out⟩ ⟨none, 0, 0, oa, on, oc, eds, m⟩ U) := Lib.hid ⟨S0.out.hB, BU.out, Own.nil _ _ _, rfl, own_store S0.out.out S0.out.blk (by decide) GU.out, S0.out.ol, S0.out.ents.keep fun k C _ hC => keep_r S0.out.blk GU.out (by decide) hC, S0.out.lo, Nat.le_trans S0.out.hi GU.out.size⟩
  have kU : Hid (Below B w U) := Lib.hid (S0.out.below GU.out)
  clear hU c0 c1 z1 c4 z4 c5 z5 c6 z6 c7 z7
  have c0 : U.cell? ⟨g, 0, none⟩ = some (.string (mk s)) := (SU.out.blk.cell 0).trans rfl
  have c1 : U.cell? ⟨g, 1, none⟩ = some (.int .i64 s.length) := (SU.out.blk.cell 1).trans rfl
  have c4 : U.cell? ⟨g, 4, none⟩ = some (.bool blank) := (SU.out.blk.cell 4).trans rfl
  have z4 : U.frozen? ⟨g, 4, none⟩ = false := by rw [SU.out.blk.frozen]; rfl
  go_region
  clear c0 c1 c4 z4
  go_end0
  have G9 : U.grownBy (U.setCell ⟨g, 4, none⟩ (.bool false)).drew (some g) := grown_trans (grown_set _ _ _ _) ⟨rfl, rfl, rfl, Nat.le_refl _, fun _ _ _ => rfl⟩
  refine ⟨rfl, kU.out.trans (SU.out.below G9), ⟨none, 0, 0, oa, on, oc, eds, m⟩, ?_⟩
  rw [hE.out]
  exact SU.out.upd G9 (SU.out.blk.set 4 (.bool false)).drew rfl rfl
set_option maxHeartbeats 8000000 in
set_option maxRecDepth 100000 in
theorem rend_sl {B g : Nat} {s : List UInt8} {i : Nat} {c : Sc} {q : RV} {w : World} (h : RM B g s i c q w) (hfr : c.fresh = false) (hout : c.out.length ≤ 65600) (hw : ¬ c.words = []) (hi : i < s.length) :
    Calls Try.prog 50 #[.pointer (some ⟨g, 0, none⟩)] w fun e w' => e = .returned (.tuple #[]) ∧ Below B w w' ∧ ∃ q2, RM B g s i (c.entry.look (s.drop i)) q2 w' := by
  obtain ⟨line, st, deep, cur, begun, eline, blank, words, fresh, out⟩ := c
  obtain ⟨wa, wn, wk, oa, on, oc, eds, m⟩ := q
  have hwl := h.wl
  have hol := h.ents.1
  have hol2 := h.ol
  dsimp only at hwl hol hol2 hout hw hfr
  subst hfr
  have hem : words.isEmpty = false := by cases words with | nil => exact absurd rfl hw | cons => rfl
  have h0 : 0 < wn := by cases words with | nil => exact absurd rfl hw | cons => rw [← hwl]; simp
  have hwI : (0 : Int) < wn := by omega
  have hiI : (i : Int) < s.length := by omega
  obtain ⟨b, hb⟩ : ∃ b, s[i] = b := ⟨_, rfl⟩
  have hE : Hid (Sc.look (s.drop i) (Sc.entry ⟨line, st, deep, cur, begun, eline, blank, words, false, out⟩) = ⟨line, st, deep, cur, begun, 0, blankB b, [], false, out ++ [⟨eline, blank, words⟩]⟩) := Lib.hid (by rw [List.drop_eq_getElem_cons hi, hb]; simp [Sc.look, Sc.entry, Sc.see, hem])
  have hon : on ≤ 70000 := by omega
  have S0 := Lib.hid h
  have k0 := Lib.hid (Below.refl B w)
  clear h hwl hol hol2 hout hem hw 
  have c0 : w.cell? ⟨g, 0, none⟩ = some (.string (mk s)) := (S0.out.blk.cell 0).trans rfl
  have c1 : w.cell? ⟨g, 1, none⟩ = some (.int .i64 i) := (S0.out.blk.cell 1).trans rfl
  have z1 : w.frozen? ⟨g, 1, none⟩ = false := by rw [S0.out.blk.frozen]; rfl
  have c4 : w.cell? ⟨g, 4, none⟩ = some (.bool blank) := (S0.out.blk.cell 4).trans rfl
  have z4 : w.frozen? ⟨g, 4, none⟩ = false := by rw [S0.out.blk.frozen]; rfl
  have c5 : w.cell? ⟨g, 5, none⟩ = some (.int .i64 eline) := (S0.out.blk.cell 5).trans rfl
  have z5 : w.frozen? ⟨g, 5, none⟩ = false := by rw [S0.out.blk.frozen]; rfl
  have c6 : w.cell? ⟨g, 6, none⟩ = some (.bool false) := (S0.out.blk.cell 6).trans rfl
  have z6 : w.frozen? ⟨g, 6, none⟩ = false := by rw [S0.out.blk.frozen]; rfl
  have c7 : w.cell? ⟨g, 7, none⟩ = some (.slice wa wn wk) := (S0.out.blk.cell 7).trans rfl
  have z7 : w.frozen? ⟨g, 7, none⟩ = false := by rw [S0.out.blk.frozen]; rfl
  go_enter Try.func50, Try.ntmps50
  go_upto_region 2 with (fail)
  clear c0 c1 z1 c4 z4 c5 z5 c6 z6 c7 z7
  obtain ⟨Y, hY⟩ : ∃ Y, w.setCell ⟨g, 6, none⟩ (.bool blank) = Y := ⟨_, rfl⟩
  rw [hY]
  have GY : Hid (w.grownBy Y (some g)) := Lib.hid (by rw [← hY]; exact grown_set _ _ _ _)
  have BY : Hid (Blk Y g 86 (0, 0) [.string (mk s), .int .i64 i, .int .i64 line, .int .i64 deep, .bool blank, .int .i64 eline, .bool blank, .slice wa wn wk, .slice oa on oc, .int .i64 0, .int .i64 0]) := Lib.hid (by rw [← hY]; exact S0.out.blk.set 6 _)
  have OY := Lib.hid (own_store S0.out.out S0.out.blk (by decide) GY.out)
  have WY := Lib.hid (own_store S0.out.words S0.out.blk (by decide) GY.out)
  have EY := Lib.hid (S0.out.ents.keep fun k C _ hC => keep_r S0.out.blk GY.out (by decide) hC)
  have kY : Hid (Below B w Y) := Lib.hid (k0.out.trans (S0.out.below GY.out))
  clear hY
  refine rend_reg _ _ _ _ _ _ _ _ _ _ _ _ _ _ _ _ _ _ _ _ _ _ _ _ _ _ _ _ _ _ _ _ _ _ _ _ _ _ _ _ _ _ _ _ _ _ _ _ _ _ _ _ _ _ _ _ _ _ _  g B _ _ _ _ _ _ _  eline blank wa wn wk BY.out OY.out S0.out.ol (Nat.le_trans (Nat.le_trans S0.out.lo S0.out.hi) kY.out.size) hon ?_
  intro x17 x18 x19 x20 x21 x22 x23 x24 x25 x26 x27 x28 x29 V V1 a c hg1 hg2 hB2 hO2
  try dsimp only
  have bV : Blk V1 g 86 (0, 0) _ := blk_own BY.out OY.out (by decide) hg1
  have b1 : Below B w V1 := own_below kY.out hg1 OY.out (Nat.le_trans (Nat.le_trans S0.out.lo S0.out.hi) kY.out.size) (Nat.le_refl _)
  have b2 : Hid (Below B w V) := Lib.hid (b1.grown hg2 (Nat.le_trans (Nat.le_trans S0.out.lo S0.out.hi) b1.size) (fun k hk => by cases hk; exact S0.out.hB))
  have hk : ∀ k C, Blk Y k 27 (0, 0) C → V.heap[k]? = Y.heap[k]? := fun k C hC => by
    have e1 := keep_o OY.out hg1 (t := 27) (by decide) hC
    rw [keep_r bV hg2 (t := 27) (by decide) (C := C) (e1.trans hC), e1]
  have EV : Hid (Ents V B w.heap.size (eds ++ [⟨eline, blank, wa, wn, wk⟩]) (out ++ [⟨eline, blank, words⟩])) := Lib.hid (((EY.out.mono S0.out.hi).keep fun k C _ hC => hk k C hC).app ⟨rfl, rfl, (WY.out.mono S0.out.lo).keep fun k hb => (by obtain ⟨C, hC⟩ := own_blkE WY.out k hb; exact hk k C hC), fun k hb => (S0.out.words.lt k hb).2⟩)
  have BV := Lib.hid hB2
  have OV := Lib.hid hO2
  have solV : Hid ((eds ++ [(⟨eline, blank, wa, wn, wk⟩ : ED)]).length = on + 1) := Lib.hid (by rw [List.length_append, S0.out.ol]; rfl)
  have zV : Hid (w.heap.size ≤ V.heap.size) := Lib.hid b2.out.size
  clear hg1 hg2 hB2 hO2 b1 bV hk
  have c0 : V.cell? ⟨g, 0, none⟩ = some (.string (mk s)) := (BV.out.cell 0).trans rfl
  have c1 : V.cell? ⟨g, 1, none⟩ = some (.int .i64 i) := (BV.out.cell 1).trans rfl
  have z1 : V.frozen? ⟨g, 1, none⟩ = false := by rw [BV.out.frozen]; rfl
  have c4 : V.cell? ⟨g, 4, none⟩ = some (.bool blank) := (BV.out.cell 4).trans rfl
  have z4 : V.frozen? ⟨g, 4, none⟩ = false := by rw [BV.out.frozen]; rfl
  have c5 : V.cell? ⟨g, 5, none⟩ = some (.int .i64 eline) := (BV.out.cell 5).trans rfl
  have z5 : V.frozen? ⟨g, 5, none⟩ = false := by rw [BV.out.frozen]; rfl
  have c6 : V.cell? ⟨g, 6, none⟩ = some (.bool blank) := (BV.out.cell 6).trans rfl
  have z6 : V.frozen? ⟨g, 6, none⟩ = false := by rw [BV.out.frozen]; rfl
  have c7 : V.cell? ⟨g, 7, none⟩ = some (.slice wa wn wk) := (BV.out.cell 7).trans rfl
  have z7 : V.frozen? ⟨g, 7, none⟩ = false := by rw [BV.out.frozen]; rfl
  go_upto_region 4 with (fail)
  obtain ⟨U, hU⟩ : ∃ U, ((V.setCell ⟨g, 5, none⟩ (.int .i64 0)).setCell ⟨g, 6, none⟩ (.bool false)).setCell ⟨g, 7, none⟩ (.slice none 0 0) = U := ⟨_, rfl⟩
  rw [hU]
  have GU : Hid (V.grownBy U (some g)) := Lib.hid (by rw [← hU]; exact grown_trans (grown_trans (grown_set _ _ _ _) (grown_set _ _ _ _)) (grown_set _ _ _ _))
  have BU : Hid (Blk U g 86 (0, 0) (rsC s i ⟨line, st, deep, cur, begun, 0, blank, [], false, out ++ [⟨eline, blank, words⟩]⟩ ⟨none, 0, 0, a, on + 1, c, eds ++ [⟨eline, blank, wa, wn, wk⟩], w.heap.size⟩)) := Lib.hid (by rw [← hU]; exact ((BV.out.set 5 _).set 6 _).set 7 _)
  have SU : Hid (RM B g s i ⟨line, st, deep, cur, begun, 0, blank, [], false, out ++ [⟨eline, blank, words⟩]⟩ ⟨none, 0, 0, a, on + 1, c, eds ++ [⟨eline, blank, wa, wn, wk⟩], w.heap.size⟩ U) := Lib.hid ⟨S0.out.hB, BU.out, Own.nil _ _ _, rfl, own_store OV.out BV.out (by decide) GU.out, solV.out, EV.out.keep fun k C _ hC => keep_r BV.out GU.out (by decide) hC, Nat.le_trans S0.out.lo S0.out.hi, Nat.le_trans zV.out GU.out.size⟩
  have kU : Hid (Below B w U) := Lib.hid (b2.out.grown GU.out (Nat.le_trans (Nat.le_trans S0.out.lo S0.out.hi) zV.out) (fun k hk => by cases hk; exact S0.out.hB))
  clear hU c0 c1 c4 c5 c6 c7 z1 z4 z5 z6 z7
  have c0 : U.drew.cell? ⟨g, 0, none⟩ = some (.string (mk s)) := (SU.out.blk.cell 0).trans rfl
  have c1 : U.drew.cell? ⟨g, 1, none⟩ = some (.int .i64 i) := (SU.out.blk.cell 1).trans rfl
  refine wp_region_still_tail 25 (by kernel_rfl) (by kernel_rfl) ?_
  simp only [List.take_succ_cons, List.take_zero, List.drop_succ_cons, List.drop_zero]
  change wpStill _ _ U.drew _ _ _
  refine still_gen (fun Q1 hQ1 => ?_)
  iterate 21 still_step
  still_call ((rblank_any _ b).mono fun _ _ h => ⟨h.1, h.2.symm⟩)
  iterate 3 still_step
  refine wpStill_nil ?_
  refine hQ1 _ ?_
  clear hQ1 Q1
  change wpList _ _ _ _ _ U.drew
  have SZ := Lib.hid (SU.out.drew 1)
  have kZ := Lib.hid (bel_drewN kU.out 1)
  change Hid (RM _ _ _ _ _ _ U.drew) at SZ
  change Hid (Below _ _ U.drew) at kZ
  clear c0 c1 SU kU GU BU
  generalize U.drew = Z at *
  have c4 : Z.cell? ⟨g, 4, none⟩ = some (.bool blank) := (SZ.out.blk.cell 4).trans rfl
  have z4 : Z.frozen? ⟨g, 4, none⟩ = false := by rw [SZ.out.blk.frozen]; rfl
  go_wp2_with fail
  go_end0
  have G9 : Z.grownBy (Z.setCell ⟨g, 4, none⟩ (.bool (blankB b))) (some g) := grown_set _ _ _ _
  refine ⟨rfl, kZ.out.trans (SZ.out.below G9), ⟨none, 0, 0, a, on + 1, c, eds ++ [⟨eline, blank, wa, wn, wk⟩], w.heap.size⟩, ?_⟩
  rw [hE.out]
  exact SZ.out.upd G9 (SZ.out.blk.set 4 _) rfl rfl
set_option maxHeartbeats 8000000 in
set_option maxRecDepth 100000 in
theorem rend_sx {B g : Nat} {s : List UInt8} {i : Nat} {c : Sc} {q : RV} {w : World} (h : RM B g s i c q w) (hfr : c.fresh = false) (hout : c.out.length ≤ 65600) (hw : ¬ c.words = []) (hi : i = s.length) :
    Calls Try.prog 50 #[.pointer (some ⟨g, 0, none⟩)] w fun e w' => e = .returned (.tuple #[]) ∧ Below B w w' ∧ ∃ q2, RM B g s i (c.entry.look (s.drop i)) q2 w' := by
  obtain ⟨line, st, deep, cur, begun, eline, blank, words, fresh, out⟩ := c
  obtain ⟨wa, wn, wk, oa, on, oc, eds, m⟩ := q
  have hwl := h.wl
  have hol := h.ents.1
  have hol2 := h.ol
  dsimp only at hwl hol hol2 hout hw hfr
  subst hfr
  have hem : words.isEmpty = false := by cases words with | nil => exact absurd rfl hw | cons => rfl
  have h0 : 0 < wn := by cases words with | nil => exact absurd rfl hw | cons => rw [← hwl]; simp
  have hwI : (0 : Int) < wn := by omega
  subst hi
  have hE : Hid (Sc.look (s.drop s.length) (Sc.entry ⟨line, st, deep, cur, begun, eline, blank, words, false, out⟩) = ⟨line, st, deep, cur, begun, 0, false, [], false, out ++ [⟨eline, blank, words⟩]⟩) := Lib.hid (by rw [List.drop_length]; simp [Sc.look, Sc.entry, hem])
  have hon : on ≤ 70000 := by omega
  have S0 := Lib.hid h
  have k0 := Lib.hid (Below.refl B w)
  clear h hwl hol hol2 hout hem hw 
  have c0 : w.cell? ⟨g, 0, none⟩ = some (.string (mk s)) := (S0.out.blk.cell 0).trans rfl
  have c1 : w.cell? ⟨g, 1, none⟩ = some (.int .i64 s.length) := (S0.out.blk.cell 1).trans rfl
  have z1 : w.frozen? ⟨g, 1, none⟩ = false := by rw [S0.out.blk.frozen]; rfl
  have c4 : w.cell? ⟨g, 4, none⟩ = some (.bool blank) := (S0.out.blk.cell 4).trans rfl
  have z4 : w.frozen? ⟨g, 4, none⟩ = false := by rw [S0.out.blk.frozen]; rfl
  have c5 : w.cell? ⟨g, 5, none⟩ = some (.int .i64 eline) := (S0.out.blk.cell 5).trans rfl
  have z5 : w.frozen? ⟨g, 5, none⟩ = false := by rw [S0.out.blk.frozen]; rfl
  have c6 : w.cell? ⟨g, 6, none⟩ = some (.bool false) := (S0.out.blk.cell 6).trans rfl
  have z6 : w.frozen? ⟨g, 6, none⟩ = false := by rw [S0.out.blk.frozen]; rfl
  have c7 : w.cell? ⟨g, 7, none⟩ = some (.slice wa wn wk) := (S0.out.blk.cell 7).trans rfl
  have z7 : w.frozen? ⟨g, 7, none⟩ = false := by rw [S0.out.blk.frozen]; rfl
  go_enter Try.func50, Try.ntmps50
  go_upto_region 2 with (fail)
  clear c0 c1 z1 c4 z4 c5 z5 c6 z6 c7 z7
  obtain ⟨Y, hY⟩ : ∃ Y, w.setCell ⟨g, 6, none⟩ (.bool blank) = Y := ⟨_, rfl⟩
  rw [hY]
  have GY : Hid (w.grownBy Y (some g)) := Lib.hid (by rw [← hY]; exact grown_set _ _ _ _)
  have BY : Hid (Blk Y g 86 (0, 0) [.string (mk s), .int .i64 s.length, .int .i64 line, .int .i64 deep, .bool blank, .int .i64 eline, .bool blank, .slice wa wn wk, .slice oa on oc, .int .i64 0, .int .i64 0]) := Lib.hid (by rw [← hY]; exact S0.out.blk.set 6 _)
  have OY := Lib.hid (own_store S0.out.out S0.out.blk (by decide) GY.out)
  have WY := Lib.hid (own_store S0.out.words S0.out.blk (by decide) GY.out)
  have EY := Lib.hid (S0.out.ents.keep fun k C _ hC => keep_r S0.out.blk GY.out (by decide) hC)
  have kY : Hid (Below B w Y) := Lib.hid (k0.out.trans (S0.out.below GY.out))
  clear hY
  refine rend_reg _ _ _ _ _ _ _ _ _ _ _ _ _ _ _ _ _ _ _ _ _ _ _ _ _ _ _ _ _ _ _ _ _ _ _ _ _ _ _ _ _ _ _ _ _ _ _ _ _ _ _ _ _ _ _ _ _ _ _  g B _ _ _ _ _ _ _  eline blank wa wn wk BY.out OY.out S0.out.ol (Nat.le_trans (Nat.le_trans S0.out.lo S0.out.hi) kY.out.size) hon ?_
  intro x17 x18 x19 x20 x21 x22 x23 x24 x25 x26 x27 x28 x29 V V1 a c hg1 hg2 hB2 hO2
  try dsimp only
  have bV : Blk V1 g 86 (0, 0) _ := blk_own BY.out OY.out (by decide) hg1
  have b1 : Below B w V1 := own_below kY.out hg1 OY.out (Nat.le_trans (Nat.le_trans S0.out.lo S0.out.hi) kY.out.size) (Nat.le_refl _)
  have b2 : Hid (Below B w V) := Lib.hid (b1.grown hg2 (Nat.le_trans (Nat.le_trans S0.out.lo S0.out.hi) b1.size) (fun k hk => by cases hk; exact S0.out.hB))
  have hk : ∀ k C, Blk Y k 27 (0, 0) C → V.heap[k]? = Y.heap[k]? := fun k C hC => by
    have e1 := keep_o OY.out hg1 (t := 27) (by decide) hC
    rw [keep_r bV hg2 (t := 27) (by decide) (C := C) (e1.trans hC), e1]
  have EV : Hid (Ents V B w.heap.size (eds ++ [⟨eline, blank, wa, wn, wk⟩]) (out ++ [⟨eline, blank, words⟩])) := Lib.hid (((EY.out.mono S0.out.hi).keep fun k C _ hC => hk k C hC).app ⟨rfl, rfl, (WY.out.mono S0.out.lo).keep fun k hb => (by obtain ⟨C, hC⟩ := own_blkE WY.out k hb; exact hk k C hC), fun k hb => (S0.out.words.lt k hb).2⟩)
  have BV := Lib.hid hB2
  have OV := Lib.hid hO2
  have solV : Hid ((eds ++ [(⟨eline, blank, wa, wn, wk⟩ : ED)]).length = on + 1) := Lib.hid (by rw [List.length_append, S0.out.ol]; rfl)
  have zV : Hid (w.heap.size ≤ V.heap.size) := Lib.hid b2.out.size
  clear hg1 hg2 hB2 hO2 b1 bV hk
  have c0 : V.cell? ⟨g, 0, none⟩ = some (.string (mk s)) := (BV.out.cell 0).trans rfl
  have c1 : V.cell? ⟨g, 1, none⟩ = some (.int .i64 s.length) := (BV.out.cell 1).trans rfl
  have z1 : V.frozen? ⟨g, 1, none⟩ = false := by rw [BV.out.frozen]; rfl
  have c4 : V.cell? ⟨g, 4, none⟩ = some (.bool blank) := (BV.out.cell 4).trans rfl
  have z4 : V.frozen? ⟨g, 4, none⟩ = false := by rw [BV.out.frozen]; rfl
  have c5 : V.cell? ⟨g, 5, none⟩ = some (.int .i64 eline) := (BV.out.cell 5).trans rfl
  have z5 : V.frozen? ⟨g, 5, none⟩ = false := by rw [BV.out.frozen]; rfl
  have c6 : V.cell? ⟨g, 6, none⟩ = some (.bool blank) := (BV.out.cell 6).trans rfl
  have z6 : V.frozen? ⟨g, 6, none⟩ = false := by rw [BV.out.frozen]; rfl
  have c7 : V.cell? ⟨g, 7, none⟩ = some (.slice wa wn wk) := (BV.out.cell 7).trans rfl
  have z7 : V.frozen? ⟨g, 7, none⟩ = false := by rw [BV.out.frozen]; rfl
  go_upto_region 4 with (fail)
  obtain ⟨U, hU⟩ : ∃ U, ((V.setCell ⟨g, 5, none⟩ (.int .i64 0)).setCell ⟨g, 6, none⟩ (.bool false)).setCell ⟨g, 7, none⟩ (.slice none 0 0) = U := ⟨_, rfl⟩
  rw [hU]
  have GU : Hid (V.grownBy U (some g)) := Lib.hid (by rw [← hU]; exact grown_trans (grown_trans (grown_set _ _ _ _) (grown_set _ _ _ _)) (grown_set _ _ _ _))
  have BU : Hid (Blk U g 86 (0, 0) (rsC s s.length ⟨line, st, deep, cur, begun, 0, blank, [], false, out ++ [⟨eline, blank, words⟩]⟩ ⟨none, 0, 0, a, on + 1, c, eds ++ [⟨eline, blank, wa, wn, wk⟩], w.heap.size⟩)) := Lib.hid (by rw [← hU]; exact ((BV.out.set 5 _).set 6 _).set 7 _)
  have SU : Hid (RM B g s s.length ⟨line, st, deep, cur, begun, 0, blank, [], false, out ++ [⟨eline, blank, words⟩]⟩ ⟨none, 0, 0, a, on + 1, c, eds ++ [⟨eline, blank, wa, wn, wk⟩], w.heap.size⟩ U) := Lib.hid ⟨S0.out.hB, BU.out, Own.nil _ _ _, rfl, own_store OV.out BV.out (by decide) GU.out, solV.out, EV.out.keep fun k C _ hC => keep_r BV.out GU.out (by decide) hC, Nat.le_trans S0.out.lo S0.out.hi, Nat.le_trans zV.out GU.out.size⟩
  have kU : Hid (Below B w U) := Lib.hid (b2.out.grown GU.out (Nat.le_trans (Nat.le_trans S0.out.lo S0.out.hi) zV.out) (fun k hk => by cases hk; exact S0.out.hB))
  clear hU c0 c1 c4 c5 c6 c7 z1 z4 z5 z6 z7
  have c0 : U.cell? ⟨g, 0, none⟩ = some (.string (mk s)) := (SU.out.blk.cell 0).trans rfl
  have c1 : U.cell? ⟨g, 1, none⟩ = some (.int .i64 s.length) := (SU.out.blk.cell 1).trans rfl
  have c4 : U.cell? ⟨g, 4, none⟩ = some (.bool blank) := (SU.out.blk.cell 4).trans rfl
  have z4 : U.frozen? ⟨g, 4, none⟩ = false := by rw [SU.out.blk.frozen]; rfl
  go_region
  clear c0 c1 c4 z4
  go_end0
  have G9 : U.grownBy (U.setCell ⟨g, 4, none⟩ (.bool false)).drew (some g) := grown_trans (grown_set _ _ _ _) ⟨rfl, rfl, rfl, Nat.le_refl _, fun _ _ _ => rfl⟩
  refine ⟨rfl, kU.out.trans (SU.out.below G9), ⟨none, 0, 0, a, on + 1, c, eds ++ [⟨eline, blank, wa, wn, wk⟩], w.heap.size⟩, ?_⟩
  rw [hE.out]
  exact SU.out.upd G9 (SU.out.blk.set 4 (.bool false)).drew rfl rfl
theorem rend_any {B g : Nat} {s : List UInt8} {i : Nat} {c : Sc} {q : RV} {w : World} (h : RM B g s i c q w) (hfr : c.fresh = false) (hout : c.out.length ≤ 65600) (hi : i ≤ s.length) :
    Calls Try.prog 50 #[.pointer (some ⟨g, 0, none⟩)] w fun e w' => e = .returned (.tuple #[]) ∧ Below B w w' ∧ ∃ q2, RM B g s i (c.entry.look (s.drop i)) q2 w' := by
  by_cases hw : c.words = []
  · by_cases hl : i < s.length
    · exact rend_el h hfr hout hw hl
    · exact rend_ex h hfr hout hw (by omega)
  · by_cases hl : i < s.length
    · exact rend_sl h hfr hout hw hl
    · exact rend_sx h hfr hout hw (by omega)
end Go.Proofs.Ytojdjhicjhhblaa
