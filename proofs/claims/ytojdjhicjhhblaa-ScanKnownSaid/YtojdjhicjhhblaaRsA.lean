/- The document's scanner as it lies; Lines 53, blank 58, ends 64, fault 52, pair 63. -/
import Derived.Test.YtojdjhicjhhblaaScT
import Derived.Deep.QuietTactic
import Derived.BigQuiet
import Derived.IntWalk
namespace Go.Proofs.Ytojdjhicjhhblaa
open Go Go.RowKit
theorem bel_drewN {B : Nat} {a w : World} (h : Below B a w) (n : Nat) : Below B a (w.drewN n) := ⟨h.os, h.tape, h.output, h.size, h.block⟩
structure RV where
  wa : Option Addr
  wn : Nat
  wc : Nat
  oa : Option Addr
  on : Nat
  oc : Nat
  eds : List ED
  m : Nat
def rsC (s : List UInt8) (i : Nat) (c : Sc) (q : RV) : List Value :=
  [.string (mk s), .int .i64 i, .int .i64 c.line, .int .i64 c.deep, .bool c.blank, .int .i64 c.eline, .bool false, .slice q.wa q.wn q.wc, .slice q.oa q.on q.oc, .int .i64 0, .int .i64 0]
structure RM (B g : Nat) (s : List UInt8) (i : Nat) (c : Sc) (q : RV) (w : World) : Prop where
  hB : B ≤ g
  blk : Blk w g 86 (0, 0) (rsC s i c q)
  words : Own trE w q.m (.slice q.wa q.wn q.wc) c.words
  wl : c.words.length = q.wn
  out : Own enE w B (.slice q.oa q.on q.oc) q.eds
  ol : q.eds.length = q.on
  ents : Ents w B q.m q.eds c.out
  lo : B ≤ q.m
  hi : q.m ≤ w.heap.size
/-- the document's scanner with a fault -/
def RF (g : Nat) (e : Int × Int) (w : World) : Prop := ∃ (x0 : Value) (y : Int) (x2 : Value) (y3 : Int) (x4 x5 x6 x7 x8 : Value), Blk w g 86 (0, 0) [x0, .int .i64 y, x2, .int .i64 y3, x4, x5, x6, x7, x8, .int .i64 e.1, .int .i64 e.2]
/-- .. at place i -/
def RFA (g : Nat) (s : List UInt8) (i : Nat) (e : Int × Int) (w : World) : Prop := ∃ (x2 : Value) (y3 : Int) (x4 x5 x6 x7 x8 : Value), Blk w g 86 (0, 0) [.string (mk s), .int .i64 i, x2, .int .i64 y3, x4, x5, x6, x7, x8, .int .i64 e.1, .int .i64 e.2]
theorem RFA.rf {g : Nat} {s : List UInt8} {i : Nat} {e : Int × Int} {w : World} (h : RFA g s i e w) : RF g e w := by
  obtain ⟨x2, x3, x4, x5, x6, x7, x8, h⟩ := h
  exact ⟨_, _, x2, x3, x4, x5, x6, x7, x8, h⟩
theorem RFA.of {g : Nat} {s : List UInt8} {i : Nat} {w : World} {y3 : Int} {x2 x4 x5 x6 x7 x8 : Value} {e1 e2 : Int} (h : Blk w g 86 (0, 0) [.string (mk s), .int .i64 i, x2, .int .i64 y3, x4, x5, x6, x7, x8, .int .i64 e1, .int .i64 e2]) : RFA g s i (e1, e2) w := ⟨_, _, _, _, _, _, _, h⟩
theorem blk_drewN {w : World} {b : Nat} {t : TypeId} {fz : Nat × Nat} {C : List Value} (h : Blk w b t fz C) (n : Nat) : Blk (w.drewN n) b t fz C := h
theorem RF.of {g : Nat} {w : World} {y y3 : Int} {x0 x2 x4 x5 x6 x7 x8 : Value} {e1 e2 : Int} (h : Blk w g 86 (0, 0) [x0, .int .i64 y, x2, .int .i64 y3, x4, x5, x6, x7, x8, .int .i64 e1, .int .i64 e2]) : RF g (e1, e2) w := ⟨_, _, _, _, _, _, _, _, _, h⟩
theorem keep_r {w w' : World} {g : Nat} {C0 : List Value} (hb : Blk w g 86 (0, 0) C0) (h : w.grownBy w' (some g)) {k : Nat} {t : TypeId} (ht : t ≠ 86) {C : List Value} (hC : Blk w k t (0, 0) C) : w'.heap[k]? = w.heap[k]? :=
  h.block k hC.lt (fun e => ht (by have e2 := Option.some.inj e; subst e2; exact blk_type hC hb))
theorem RM.upd {B g : Nat} {s : List UInt8} {i j : Nat} {c c2 : Sc} {q : RV} {w w2 : World} (h : RM B g s i c q w) (hg : w.grownBy w2 (some g)) (hb : Blk w2 g 86 (0, 0) (rsC s j c2 q)) (hw : c2.words = c.words) (ho : c2.out = c.out) : RM B g s j c2 q w2 := by
  refine ⟨h.hB, hb, ?_, ?_, own_store h.out h.blk (by decide) hg, h.ol, ?_, h.lo, Nat.le_trans h.hi hg.size⟩
  · rw [hw]; exact own_store h.words h.blk (by decide) hg
  · rw [hw]; exact h.wl
  · rw [ho]; exact h.ents.keep fun k C _ hC => keep_r h.blk hg (by decide) hC
theorem RM.below {B g : Nat} {s : List UInt8} {i : Nat} {c : Sc} {q : RV} {w w2 : World} (h : RM B g s i c q w) (hg : w.grownBy w2 (some g)) : Below B w w2 :=
  (Below.refl B w).grown hg (Nat.le_trans h.lo h.hi) (fun k hk => by cases hk; exact h.hB)
theorem RM.ext {B g : Nat} {s : List UInt8} {i : Nat} {c : Sc} {q : RV} {w w2 : World} (h : RM B g s i c q w) (hb : Below w.heap.size w w2) : RM B g s i c q w2 :=
  ⟨h.hB, h.blk.below hb h.blk.lt, h.words.ext hb, h.wl, h.out.ext hb, h.ol, h.ents.keep fun k _ _ hC => hb.block k hC.lt, h.lo, Nat.le_trans h.hi hb.size⟩
theorem RM.drew {B g : Nat} {s : List UInt8} {i : Nat} {c : Sc} {q : RV} {w : World} (h : RM B g s i c q w) (n : Nat) : RM B g s i c q (w.drewN n) := h.ext ⟨rfl, rfl, rfl, Nat.le_refl _, fun _ _ => rfl⟩
/-- the same cells -/
theorem RM.more {B g : Nat} {s : List UInt8} {i : Nat} {c c2 : Sc} {q : RV} {w : World} (h : RM B g s i c q w) (hb : rsC s i c2 q = rsC s i c q) (hw : c2.words = c.words) (ho : c2.out = c.out) : RM B g s i c2 q w :=
  ⟨h.hB, by rw [hb]; exact h.blk, by rw [hw]; exact h.words, by rw [hw]; exact h.wl, h.out, h.ol, by rw [ho]; exact h.ents, h.lo, h.hi⟩
set_option maxHeartbeats 8000000 in
set_option maxRecDepth 100000 in
theorem rblank_any (w : World) (b : UInt8) : Calls Try.prog 58 #[.int .u8 b.toNat] w fun e w' => e = .returned (.bool (blankB b)) ∧ w = w' := by
  rw [blankB_int]
  generalize (b.toNat : Int) = x
  by_cases h1 : x = 32
  · subst h1
    go_enter Try.func58, Try.ntmps58
    go_wp2_with fail
    go_ret
    exact ⟨rfl, rfl⟩
  by_cases h2 : x = 9
  · subst h2
    go_enter Try.func58, Try.ntmps58
    go_wp2_with fail
    go_ret
    exact ⟨rfl, rfl⟩
  by_cases h3 : x = 13
  · subst h3
    go_enter Try.func58, Try.ntmps58
    go_wp2_with fail
    go_ret
    exact ⟨rfl, rfl⟩
  · go_enter Try.func58, Try.ntmps58
    go_wp2_with fail
    go_ret
    exact ⟨by simp [h1, h2, h3], rfl⟩
set_option maxHeartbeats 8000000 in
set_option maxRecDepth 100000 in
theorem rends_any (w : World) (b : UInt8) : Calls Try.prog 64 #[.int .u8 b.toNat] w fun e w' => e = .returned (.bool (stopB b)) ∧ w = w' := by
  rw [stopB_int]
  have hb := Lib.hid (rblank_any w b)
  generalize blankB b = t at hb ⊢
  generalize (b.toNat : Int) = x at hb ⊢
  cases t with
  | true =>
    go_enter Try.func64, Try.ntmps64
    go_wp2_with fail
    refine hb.out.mono ?_
    rintro e w1 ⟨rfl, rfl⟩
    clear hb
    go_wp2_with fail
    go_ret
    exact ⟨rfl, rfl⟩
  | false =>
    by_cases h59 : x = 59
    · subst h59
      go_enter Try.func64, Try.ntmps64
      go_wp2_with fail
      refine hb.out.mono ?_
      rintro e w1 ⟨rfl, rfl⟩
      clear hb
      go_wp2_with fail
      go_ret
      exact ⟨rfl, rfl⟩
    by_cases h40 : x = 40
    · subst h40
      go_enter Try.func64, Try.ntmps64
      go_wp2_with fail
      refine hb.out.mono ?_
      rintro e w1 ⟨rfl, rfl⟩
      clear hb
      go_wp2_with fail
      go_ret
      exact ⟨rfl, rfl⟩
    by_cases h41 : x = 41
    · subst h41
      go_enter Try.func64, Try.ntmps64
      go_wp2_with fail
      refine hb.out.mono ?_
      rintro e w1 ⟨rfl, rfl⟩
      clear hb
      go_wp2_with fail
      go_ret
      exact ⟨rfl, rfl⟩
    by_cases h10 : x = 10
    · subst h10
      go_enter Try.func64, Try.ntmps64
      go_wp2_with fail
      refine hb.out.mono ?_
      rintro e w1 ⟨rfl, rfl⟩
      clear hb
      go_wp2_with fail
      go_ret
      exact ⟨rfl, rfl⟩
    · go_enter Try.func64, Try.ntmps64
      go_wp2_with fail
      refine hb.out.mono ?_
      rintro e w1 ⟨rfl, rfl⟩
      clear hb
      go_wp2_with fail
      go_ret
      exact ⟨by simp [h59, h40, h41, h10], rfl⟩
set_option maxHeartbeats 8000000 in
set_option maxRecDepth 100000 in
theorem rlines_any (w : World) (s : List UInt8) (hlen : s.length ≤ 70000) : Calls Try.prog 53 #[.string (mk s)] w fun e w' => e = .returned (.int .i64 (linesOf s)) ∧ w = w' := by
  have hlI : (s.length : Int) ≤ 70000 := by omega
  obtain ⟨L, hL0⟩ : ∃ L, linesOf s = L := ⟨_, rfl⟩
  rw [hL0]
  replace hL0 := Lib.hid hL0
  go_enter Try.func53, Try.ntmps53
  go_wp2_with fail
  go_loopw [3, 4] (fun nv iv wr => ∃ (i n : Nat), nv = .int .i64 n ∧ iv = .int .i64 i ∧ i ≤ s.length ∧ n ≤ i ∧ Hid (n = (s.take i).count 10) ∧ Hid (w = wr)) (fun _ iv _ => s.length - (intOf iv).toNat)
  case atStart => exact ⟨0, 0, rfl, rfl, by omega, by omega, Lib.hid (by simp), Lib.hid rfl⟩
  case round =>
    obtain ⟨i, n, rfl, rfl, hi, hn, hcnt, hw⟩ := hrel
    by_cases hlt : i < s.length
    · have hltI : (i : Int) < s.length := by omega
      obtain ⟨b, hb⟩ : ∃ b, s[i] = b := ⟨_, rfl⟩
      have htk := Lib.hid (List.take_succ_eq_append_getElem hlt)
      have hbb := Lib.hid hb
      by_cases b10 : b = 10
      · have e10 : ((b.toNat : Int) == 10) = true := u8_beq (k := 10) b10 (by decide)
        replace b10 := Lib.hid b10
        go_wp2_with fail
        refine ⟨⟨i + 1, n + 1, by push_cast; rfl, by push_cast; rfl, by omega, by omega, Lib.hid ?_, hw⟩, ?_⟩
        · rw [htk.out, hbb.out, b10.out, List.count_append, ← hcnt.out]; rfl
        · simp only [intOf]; omega
      · have e10 : ((b.toNat : Int) == 10) = false := u8_ne (k := 10) b10
        replace b10 := Lib.hid b10
        go_wp2_with fail
        refine ⟨⟨i + 1, n, rfl, by push_cast; rfl, by omega, by omega, Lib.hid ?_, hw⟩, ?_⟩
        · rw [htk.out, hbb.out, List.count_append, ← hcnt.out]; simp [b10.out]
        · simp only [intOf]; omega
    · have hi2 : i = s.length := by omega
      subst hi2
      clear hlt
      have hcc : Hid (n = s.count 10) := Lib.hid (by have := hcnt.out; rwa [List.take_length] at this)
      clear hcnt
      by_cases h0 : s = []
      · subst h0
        have hn0 : n = 0 := by simpa using hn
        subst hn0
        clear hcc hlI hlen hi hn
        go_wp2_with fail
        go_ret
        exact ⟨by rw [← hL0.out]; rfl, hw.out⟩
      · obtain ⟨r, x, rfl⟩ : ∃ r x, s = r ++ [x] := ⟨s.dropLast, s.getLast h0, (List.dropLast_concat_getLast h0).symm⟩
        have hL : (r ++ [x]).length = r.length + 1 := by simp
        have hgx : ∀ h : r.length < (r ++ [x]).length, (r ++ [x])[r.length]'h = x := fun h => by simp
        have hrI : (r.length : Int) ≤ 70000 := by omega
        have hnI : (n : Int) ≤ 70000 := by omega
        have hem : (r ++ [x]).isEmpty = false := by cases r <;> rfl
        have hne0 : ((r ++ [x]) == []) = false := by rw [beq_eq_false_iff_ne]; exact h0
        by_cases hl : x = 10
        · have hl2 : (r ++ [x]).getLast? = some 10 := by rw [hl]; simp
          have hfin : Hid (L = (n : Int)) := Lib.hid (by rw [← hL0.out, linesOf_nl _ hl2, ← hcc.out])
          have hxI : ((x.toNat : Int) == 10) = true := by rw [hl]; rfl
          have hxN : ((x.toNat : Int) != 10) = false := by rw [hl]; rfl
          have H1 := Lib.hid hL
          have H2 := Lib.hid hgx
          clear hl2 hl hlen hL hgx hlI hi hn hcc hL0
          go_wp2_with fail
          go_ret
          exact ⟨by rw [hfin.out]; rfl, hw.out⟩
        · have hl2 : (r ++ [x]).getLast? = some 10 → False := by simp; exact hl
          have hfin : Hid (L = (n : Int) + 1) := Lib.hid (by rw [← hL0.out, linesOf_no _ h0 hl2, ← hcc.out])
          have hxI : ((x.toNat : Int) == 10) = false := by rw [beq_eq_false_iff_ne]; intro h; exact hl (UInt8.toNat_inj.1 (by exact_mod_cast h))
          have hxN : ((x.toNat : Int) != 10) = true := by rw [bne_iff_ne]; intro h; exact hl (UInt8.toNat_inj.1 (by exact_mod_cast h))
          have H1 := Lib.hid hL
          have H2 := Lib.hid hgx
          clear hl2 hl hlen hL hgx hlI hi hn hcc hL0
          go_wp2_with fail
          go_ret
          exact ⟨by rw [hfin.out]; rfl, hw.out⟩
set_option maxHeartbeats 8000000 in
set_option maxRecDepth 100000 in
theorem fault_any {w : World} {g : Nat} {x0 x1 x2 x3 x4 x5 x6 x7 x8 x10 : Value} (e l : Int) (hB : Blk w g 86 (0, 0) [x0, x1, x2, x3, x4, x5, x6, x7, x8, .int .i64 0, x10]) :
    Calls Try.prog 52 #[.pointer (some ⟨g, 0, none⟩), .int .i64 e, .int .i64 l] w fun r w' => r = .returned (.tuple #[]) ∧ w.grownBy w' (some g) ∧ Blk w' g 86 (0, 0) [x0, x1, x2, x3, x4, x5, x6, x7, x8, .int .i64 e, .int .i64 l] := by
  have B1 := Lib.hid hB
  have c9 : w.cell? ⟨g, 9, none⟩ = some (.int .i64 0) := (hB.cell 9).trans rfl
  have c10 : w.cell? ⟨g, 10, none⟩ = some x10 := (hB.cell 10).trans rfl
  have z9 : w.frozen? ⟨g, 9, none⟩ = false := by rw [hB.frozen]; rfl
  have z10 : w.frozen? ⟨g, 10, none⟩ = false := by rw [hB.frozen]; rfl
  clear hB
  go_enter Try.func52, Try.ntmps52
  go_wp2_with fail
  go_end0
  exact ⟨rfl, grown_trans (grown_set _ _ _ _) (grown_set _ _ _ _), (B1.out.set 9 _).set 10 _⟩
/-- what pair does, at a backslash -/
def PairP (B g : Nat) (s : List UInt8) (i : Nat) (c : Sc) (q : RV) (e : Ending) (w : World) : Prop :=
  (∃ h : i + 1 < s.length, ¬ s[i + 1] = 10 ∧ e = .returned (.bool true) ∧ RM B g s (i + 2) c q w) ∨
  (∃ h : i + 1 < s.length, s[i + 1] = 10 ∧ e = .returned (.bool false) ∧ RFA g s i (230, c.line) w) ∨ (i + 1 = s.length ∧ e = .returned (.bool false) ∧ RFA g s i (230, linesOf s) w)
set_option maxHeartbeats 8000000 in
set_option maxRecDepth 100000 in
theorem pair_any {B g : Nat} {s : List UInt8} {i : Nat} {c : Sc} {q : RV} {w : World} (h : RM B g s i c q w) (hi : i < s.length) (hs : s.length ≤ 65536) :
    Calls Try.prog 63 #[.pointer (some ⟨g, 0, none⟩)] w fun e w' => Below B w w' ∧ PairP B g s i c q e w' := by
  obtain ⟨line, st, deep, cur, begun, eline, blank, words, fresh, out⟩ := c
  obtain ⟨wa, wn, wk, oa, on, oc, eds, m⟩ := q
  have S0 := Lib.hid h
  have hiI : (i : Int) < s.length := by omega
  have hsI : (s.length : Int) ≤ 65536 := by omega
  have hw1 : IntKind.i64.wrap ((i : Int) + 1) = (i : Int) + 1 := IntWalk.i64_in _ (by omega)
  have hn0 : (0 : Int) ≤ (i : Int) + 1 := by omega
  have hn1 : ((i : Int) + 1).toNat = i + 1 := by omega
  have hs1 := Lib.hid hs
  have hi1 := Lib.hid hi
  have k0 := Lib.hid (Below.refl B w)
  clear h hs hi
  by_cases hj : i + 1 < s.length
  · have hjI : (i : Int) + 1 < s.length := by omega
    have hjJ : decide ((s.length : Int) ≤ (i : Int) + 1) = false := by simp; omega
    obtain ⟨x, hbx⟩ : ∃ x, s[i + 1] = x := ⟨_, rfl⟩
    have hj1 := Lib.hid hj
    have hbx2 := Lib.hid hbx
    by_cases x10 : x = 10
    · have ex : ((x.toNat : Int) == 10) = true := u8_beq (k := 10) x10 (by decide)
      replace x10 := Lib.hid x10
      have hwx : Hid (IntKind.i64.wrap ((i : Int) + 1) = (i : Int) + 1) := Lib.hid hw1
      have c0 : w.cell? ⟨g, 0, none⟩ = some (.string (mk s)) := (S0.out.blk.cell 0).trans rfl
      have c1 : w.cell? ⟨g, 1, none⟩ = some (.int .i64 i) := (S0.out.blk.cell 1).trans rfl
      have z1 : w.frozen? ⟨g, 1, none⟩ = false := by rw [S0.out.blk.frozen]; rfl
      have c2 : w.cell? ⟨g, 2, none⟩ = some (.int .i64 line) := (S0.out.blk.cell 2).trans rfl
      have z2 : w.frozen? ⟨g, 2, none⟩ = false := by rw [S0.out.blk.frozen]; rfl
      go_enter Try.func63, Try.ntmps63
      go_wp2_with fail
      try go_wp2_with fail
      go_quiet (fail)
      have S1_ := Lib.hid (S0.out.drew nq)
      have k1_ := Lib.hid (bel_drewN k0.out nq)
      clear c0 c1 z1 c2 z2
      clear S0 k0
      generalize w.drewN nq = w1_ at *
      clear nq
      have c0 : w1_.cell? ⟨g, 0, none⟩ = some (.string (mk s)) := (S1_.out.blk.cell 0).trans rfl
      have c1 : w1_.cell? ⟨g, 1, none⟩ = some (.int .i64 i) := (S1_.out.blk.cell 1).trans rfl
      have z1 : w1_.frozen? ⟨g, 1, none⟩ = false := by rw [S1_.out.blk.frozen]; rfl
      have c2 : w1_.cell? ⟨g, 2, none⟩ = some (.int .i64 line) := (S1_.out.blk.cell 2).trans rfl
      have z2 : w1_.frozen? ⟨g, 2, none⟩ = false := by rw [S1_.out.blk.frozen]; rfl
      go_wp2_with fail
      try go_wp2_with fail
      go_quiet (fail)
      have S2_ := Lib.hid (S1_.out.drew nq)
      have k2_ := Lib.hid (bel_drewN k1_.out nq)
      clear c0 c1 z1 c2 z2
      clear S1_ k1_
      generalize w1_.drewN nq = w2_ at *
      clear nq
      have c0 : w2_.cell? ⟨g, 0, none⟩ = some (.string (mk s)) := (S2_.out.blk.cell 0).trans rfl
      have c1 : w2_.cell? ⟨g, 1, none⟩ = some (.int .i64 i) := (S2_.out.blk.cell 1).trans rfl
      have z1 : w2_.frozen? ⟨g, 1, none⟩ = false := by rw [S2_.out.blk.frozen]; rfl
      have c2 : w2_.cell? ⟨g, 2, none⟩ = some (.int .i64 line) := (S2_.out.blk.cell 2).trans rfl
      have z2 : w2_.frozen? ⟨g, 2, none⟩ = false := by rw [S2_.out.blk.frozen]; rfl
      clear hw1
      go_wp2_with fail
      refine (fault_any 230 line S2_.out.blk).mono ?_
      rintro e w6 ⟨rfl, g6, b6⟩
      replace g6 := Lib.hid g6
      replace b6 := Lib.hid b6
      clear c0 c1 z1 c2 z2
      go_wp2_with fail
      go_ret
      exact ⟨k2_.out.trans (S2_.out.below g6.out), .inr (.inl ⟨hj1.out, by rw [hbx2.out, x10.out], rfl, RFA.of b6.out⟩)⟩
    · have ex : ((x.toNat : Int) == 10) = false := u8_ne (k := 10) x10
      replace x10 := Lib.hid x10
      have hwx : Hid (IntKind.i64.wrap ((i : Int) + 1) = (i : Int) + 1) := Lib.hid hw1
      have c0 : w.cell? ⟨g, 0, none⟩ = some (.string (mk s)) := (S0.out.blk.cell 0).trans rfl
      have c1 : w.cell? ⟨g, 1, none⟩ = some (.int .i64 i) := (S0.out.blk.cell 1).trans rfl
      have z1 : w.frozen? ⟨g, 1, none⟩ = false := by rw [S0.out.blk.frozen]; rfl
      have c2 : w.cell? ⟨g, 2, none⟩ = some (.int .i64 line) := (S0.out.blk.cell 2).trans rfl
      have z2 : w.frozen? ⟨g, 2, none⟩ = false := by rw [S0.out.blk.frozen]; rfl
      go_enter Try.func63, Try.ntmps63
      go_wp2_with fail
      try go_wp2_with fail
      go_quiet (fail)
      have S3_ := Lib.hid (S0.out.drew nq)
      have k3_ := Lib.hid (bel_drewN k0.out nq)
      clear c0 c1 z1 c2 z2
      clear S0 k0
      generalize w.drewN nq = w3_ at *
      clear nq
      have c0 : w3_.cell? ⟨g, 0, none⟩ = some (.string (mk s)) := (S3_.out.blk.cell 0).trans rfl
      have c1 : w3_.cell? ⟨g, 1, none⟩ = some (.int .i64 i) := (S3_.out.blk.cell 1).trans rfl
      have z1 : w3_.frozen? ⟨g, 1, none⟩ = false := by rw [S3_.out.blk.frozen]; rfl
      have c2 : w3_.cell? ⟨g, 2, none⟩ = some (.int .i64 line) := (S3_.out.blk.cell 2).trans rfl
      have z2 : w3_.frozen? ⟨g, 2, none⟩ = false := by rw [S3_.out.blk.frozen]; rfl
      go_wp2_with fail
      try go_wp2_with fail
      go_quiet (fail)
      have S4_ := Lib.hid (S3_.out.drew nq)
      have k4_ := Lib.hid (bel_drewN k3_.out nq)
      clear c0 c1 z1 c2 z2
      clear S3_ k3_
      generalize w3_.drewN nq = w4_ at *
      clear nq
      have c0 : w4_.cell? ⟨g, 0, none⟩ = some (.string (mk s)) := (S4_.out.blk.cell 0).trans rfl
      have c1 : w4_.cell? ⟨g, 1, none⟩ = some (.int .i64 i) := (S4_.out.blk.cell 1).trans rfl
      have z1 : w4_.frozen? ⟨g, 1, none⟩ = false := by rw [S4_.out.blk.frozen]; rfl
      have c2 : w4_.cell? ⟨g, 2, none⟩ = some (.int .i64 line) := (S4_.out.blk.cell 2).trans rfl
      have z2 : w4_.frozen? ⟨g, 2, none⟩ = false := by rw [S4_.out.blk.frozen]; rfl
      clear hw1
      go_wp2_with fail
      go_ret
      have G9 : Hid (w4_.grownBy (w4_.setCell ⟨g, 1, none⟩ (.int .i64 ((i : Int) + 2))) (some g)) := Lib.hid (grown_set _ _ _ _)
      exact ⟨k4_.out.trans (S4_.out.below G9.out), .inl ⟨hj1.out, by rw [hbx2.out]; exact x10.out, rfl, RM.upd S4_.out G9.out (by have h := S4_.out.blk.set 1 (.int .i64 ((i : Int) + 2)); exact h) rfl rfl⟩⟩
  · have hj2 : i + 1 = s.length := by omega
    have hjS : decide ((s.length : Int) ≤ (i : Int) + 1) = true := by simp; omega
    replace hj2 := Lib.hid hj2
    replace hj := Lib.hid hj
    have c0 : w.cell? ⟨g, 0, none⟩ = some (.string (mk s)) := (S0.out.blk.cell 0).trans rfl
    have c1 : w.cell? ⟨g, 1, none⟩ = some (.int .i64 i) := (S0.out.blk.cell 1).trans rfl
    have z1 : w.frozen? ⟨g, 1, none⟩ = false := by rw [S0.out.blk.frozen]; rfl
    have c2 : w.cell? ⟨g, 2, none⟩ = some (.int .i64 line) := (S0.out.blk.cell 2).trans rfl
    have z2 : w.frozen? ⟨g, 2, none⟩ = false := by rw [S0.out.blk.frozen]; rfl
    go_enter Try.func63, Try.ntmps63
    go_wp2_with fail
    try go_wp2_with fail
    go_quiet (fail)
    have S5_ := Lib.hid (S0.out.drew nq)
    have k5_ := Lib.hid (bel_drewN k0.out nq)
    clear c0 c1 z1 c2 z2
    clear S0 k0
    generalize w.drewN nq = w5_ at *
    clear nq
    have c0 : w5_.cell? ⟨g, 0, none⟩ = some (.string (mk s)) := (S5_.out.blk.cell 0).trans rfl
    have c1 : w5_.cell? ⟨g, 1, none⟩ = some (.int .i64 i) := (S5_.out.blk.cell 1).trans rfl
    have z1 : w5_.frozen? ⟨g, 1, none⟩ = false := by rw [S5_.out.blk.frozen]; rfl
    have c2 : w5_.cell? ⟨g, 2, none⟩ = some (.int .i64 line) := (S5_.out.blk.cell 2).trans rfl
    have z2 : w5_.frozen? ⟨g, 2, none⟩ = false := by rw [S5_.out.blk.frozen]; rfl
    clear hw1
    go_wp2_with fail
    refine (rlines_any w5_ s (Nat.le_trans hs1.out (by decide))).mono ?_
    rintro e w9 ⟨rfl, rfl⟩
    go_wp2_with fail
    refine (fault_any 230 (linesOf s) S5_.out.blk).mono ?_
    rintro e w6 ⟨rfl, g6, b6⟩
    replace g6 := Lib.hid g6
    replace b6 := Lib.hid b6
    clear c0 c1 z1 c2 z2
    go_wp2_with fail
    go_ret
    exact ⟨k5_.out.trans (S5_.out.below g6.out), .inr (.inr ⟨hj2.out, rfl, RFA.of b6.out⟩)⟩
end Go.Proofs.Ytojdjhicjhhblaa
