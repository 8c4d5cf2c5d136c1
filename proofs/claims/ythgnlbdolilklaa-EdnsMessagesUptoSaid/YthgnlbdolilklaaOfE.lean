/- What a message says: Of 21; printed by gen_of.py. -/
import Derived.Test.YthgnlbdolilklaaIdF
import Derived.Test.YthgnlbdolilklaaEtL
namespace Go.Proofs.Ythgnlbdolilklaa
open Go Go.RowKit
/-- records as they lie, as they read -/
def RdRs (w : World) (a : Option Addr) (n c : Nat) (QS : List RD) (LS : List RL) : Prop := Rd recE w a n c QS ∧ QS.length = LS.length ∧ n * 144 ≤ reachBytes ∧ ∀ (j : Nat) (q : RD) (L : RL), QS[j]? = some q → LS[j]? = some L → RecR w q L
theorem RdRs.ext {w w' : World} {a : Option Addr} {n c : Nat} {QS : List RD} {LS : List RL} (h : RdRs w a n c QS LS) (hb : Below w.heap.size w w') : RdRs w' a n c QS LS := ⟨h.1.ext hb, h.2.1, h.2.2.1, fun j q L hq hL => (h.2.2.2 j q L hq hL).ext hb⟩
section
variable {P : Program} {w : World}
theorem results_ctt {fn : Func} {t1 t3 t4 : Tmp} {ty1 : TypeId} (h : fn.results = #[.cell t1 ty1, .tmp t3, .tmp t4]) (tmps : Array Value) {b1 : Nat} {e1 : TypeId} {f1 : Nat × Nat} {C1 : List Value} {d1 : TypeDesc}
    (hp1 : tmps.getD t1 undef = .pointer (some ⟨b1, 0, none⟩)) (hB1 : Blk w b1 e1 f1 C1) (hu1 : P.underlying ty1 = some d1) (hd1 : d1.isRow = true) (hi1 : (P.info? ty1).map (·.size) = some C1.length) :
    (results fn tmps).run P w = .ok (.tuple #[.agg C1.toArray, tmps.getD t3 undef, tmps.getD t4 undef]) w := by
  have r1 := run_loadVar_mid (P := P) w b1 0 ty1 C1 d1 (range_of hB1) hu1 hd1 hi1
  have a1 : (asAddr (.pointer (some ⟨b1, 0, none⟩))).run P w = .ok ⟨b1, 0, none⟩ w := by simp [asAddr]
  have hp1' : tmps[t1]?.getD undef = .pointer (some ⟨b1, 0, none⟩) := by simpa using hp1
  simp [results, h, hp1', a1, r1, Result.andThen, Sem.run_bind]
end
/-- what Of answers: the numbers, the options, whether, the error -/
def OfU (QS : List RD) (LS : List RL) (s h v : Int) (d : Bool) (A : List Opt) (is : Bool) (E : Int) : Prop :=
    (idxF QS 0 = -1 ∧ s = 0 ∧ h = 0 ∧ v = 0 ∧ d = false ∧ A = [] ∧ is = false ∧ E = 0) ∨
     (∃ k : Nat, idxF QS 0 = k ∧ k < QS.length ∧ 0 ≤ idxF (QS.drop (k + 1)) 0 ∧ s = 0 ∧ h = 0 ∧ v = 0 ∧ d = false ∧ A = [] ∧ is = false ∧ E = 10) ∨
     (∃ (k : Nat) (q : RD) (L : RL), idxF QS 0 = k ∧ k < QS.length ∧ idxF (QS.drop (k + 1)) 0 < 0 ∧ QS[k]? = some q ∧ LS[k]? = some L ∧ is = (E == 0) ∧ ∀ (base : Nat) (e : Ending) (w' : World), ReadB base q.on q.ty q.cl q.ttl q.mn q.un q.xn L.raw e w' → ∃ u, e = .returned (.tuple #[eV s h v d u, .int .i64 E]) ∧ OwnO w' base u A)
theorem idxF_range : ∀ (l : List RD) (k : Nat), idxF l k = -1 ∨ ∃ m, m < l.length ∧ idxF l k = ((k + m : Nat) : Int)
  | [], _ => .inl rfl
  | q :: r, k => by
    rw [idxF]
    split
    · exact .inr ⟨0, by simp, by simp⟩
    · rcases idxF_range r (k + 1) with h | ⟨m, hm, h⟩
      · exact .inl h
      · exact .inr ⟨m + 1, by simpa using hm, by rw [h]; congr 1; omega⟩
theorem ofU_ex (QS : List RD) (LS : List RL) (hl : QS.length = LS.length) : ∃ s h v d A is E, OfU QS LS s h v d A is E := by
  rcases idxF_range QS 0 with hi | ⟨k, hk, hi⟩
  · exact ⟨0, 0, 0, false, [], false, 0, .inl ⟨hi, rfl, rfl, rfl, rfl, rfl, rfl, rfl⟩⟩
  · rw [Nat.zero_add] at hi
    by_cases h2 : 0 ≤ idxF (QS.drop (k + 1)) 0
    · exact ⟨0, 0, 0, false, [], false, 10, .inr (.inl ⟨k, hi, hk, h2, rfl, rfl, rfl, rfl, rfl, rfl, rfl⟩)⟩
    · obtain ⟨s, h, v, d, A, E, _, u⟩ := readB_uni QS[k].on QS[k].ty QS[k].cl QS[k].ttl QS[k].mn QS[k].un QS[k].xn (LS[k]'(by omega)).raw
      exact ⟨s, h, v, d, A, (E == 0), E, .inr (.inr ⟨k, QS[k], LS[k]'(by omega), hi, hk, by omega, List.getElem?_eq_getElem hk, List.getElem?_eq_getElem _, rfl, u⟩)⟩
set_option maxHeartbeats 8000000 in
set_option maxRecDepth 100000 in
theorem of_any {w : World} {a : Option Addr} {n c : Nat} {QS : List RD} {LS : List RL} (h : RdRs w a n c QS LS) {sC iC vC : Int} {dC : Bool} {AC : List Opt} {isC : Bool} {EC : Int} (hU : OfU QS LS sC iC vC dC AC isC EC) (m0 m1 m2 m3 m4 m5 m6 m7 m8 m9 m10 m11 m12 : Value) :
    Calls Try.prog 21 #[.agg #[m0, m1, m2, m3, m4, m5, m6, m7, m8, m9, m10, m11, m12, .slice a n c]] w fun e w' => (∃ u, e = .returned (.tuple #[eV sC iC vC dC u, .bool isC, .int .i64 EC]) ∧ OwnO w' w.heap.size u AC) ∧ Below w.heap.size w w' := by
  have hl := h.1.len
  have hn : n ≤ 1152921504606846976 := by have := h.2.2.1; unfold reachBytes at this; omega
  obtain ⟨W1, hW1⟩ : ∃ W1, w.alloc (.cells #[m0, m1, m2, m3, m4, m5, m6, m7, m8, m9, m10, m11, m12, .slice a n c] 60) = W1 := ⟨_, rfl⟩
  obtain ⟨W2, hW2⟩ : ∃ W, W1.alloc (.cells #[.int .i64 0, .int .i64 0, .int .i64 0, .bool false, .slice none 0 0] 24) = W := ⟨_, rfl⟩
  have B1 : Blk W1 w.heap.size 60 (0, 0) [m0, m1, m2, m3, m4, m5, m6, m7, m8, m9, m10, m11, m12, .slice a n c] := by rw [← hW1]; exact Blk.new w 60 (0, 0) #[m0, m1, m2, m3, m4, m5, m6, m7, m8, m9, m10, m11, m12, .slice a n c]
  have B2 : Hid (Blk W2 W1.heap.size 24 (0, 0) [.int .i64 0, .int .i64 0, .int .i64 0, .bool false, .slice none 0 0]) := Lib.hid (by rw [← hW2]; exact Blk.new W1 24 (0, 0) #[.int .i64 0, .int .i64 0, .int .i64 0, .bool false, .slice none 0 0])
  have k1 : Below w.heap.size w W1 := by rw [← hW1]; exact alloc_bel _ _
  have k2 : Below W1.heap.size W1 W2 := by rw [← hW2]; exact alloc_bel _ _
  have hl1 : Hid (w.heap.size < W1.heap.size) := Lib.hid B1.lt
  have hb2 : Hid (Below w.heap.size w W2) := Lib.hid (k1.trans (k2.mono k1.size))
  have B12 := Lib.hid (B1.below k2 B1.lt)
  have p13 : W2.cell? ⟨w.heap.size, 13, none⟩ = some (.slice a n c) := (B12.out.cell 13).trans rfl
  have hH := Lib.hid h
  clear h B1 k1 k2
  go_enter Try.func21, Try.ntmps21
  go_wp2_with fail
  try rw [hW1]
  try rw [hW2]
  clear hW1 hW2
  refine (idx_any (hH.out.1.ext hb2.out) hn).mono ?_
  rintro e w1 ⟨rfl, hb⟩
  have hk1 := Lib.hid hb
  clear hb
  have hb3 := Lib.hid (hb2.out.trans (hk1.out.mono hb2.out.size))
  have hZ1 := Lib.hid (B2.out.below hk1.out B2.out.lt)
  have q13 : w1.cell? ⟨w.heap.size, 13, none⟩ = some (.slice a n c) := cell_old p13 hk1.out
  clear p13
  have hrest : (∃ k : Nat, idxF QS 0 = k ∧ k < QS.length) → True := fun _ => trivial
  clear hrest
  rcases hU with ⟨hi, rfl, rfl, rfl, rfl, rfl, rfl, rfl⟩ | hU
  · have hi' := Lib.hid hi
    rw [hi]
    clear hi
    go_wp2_with (refine store_whole rfl 24 (.tmp 2) (.tmp 13) rfl rfl rfl hZ1.out (by rfl) (by kernel_rfl) (by kernel_rfl) ?_; intro w6 hB6 hg6 hz6; have hR6 := Lib.hid hB6; have hg6' := Lib.hid hg6; clear hB6 hg6 hz6)
    refine bodyPost_ret (results_ctt rfl _ rfl hR6.out Try.underlying24 rfl (by kernel_rfl)) rfl ?_
    refine ⟨⟨nilV, rfl, OwnO.nil _ _⟩, hb3.out.grown hg6'.out hb3.out.size (fun j hj => by have e2 := Option.some.inj hj; have := hl1.out; omega)⟩
  · obtain ⟨k, hi, hkl⟩ : ∃ k : Nat, idxF QS 0 = k ∧ k < QS.length := by
      rcases hU with ⟨k, h1, h2, _⟩ | ⟨k, _, _, h1, h2, _⟩
      · exact ⟨k, h1, h2⟩
      · exact ⟨k, h1, h2⟩
    have hi' := Lib.hid hi
    rw [hi]
    clear hi
    have hU' := Lib.hid hU
    clear hU
    have hkn : k < n := by omega
    have hkI : (k : Int) < n := by omega
    have hk0 : 0 ≤ (k : Int) := by omega
    have hnI : (n : Int) ≤ 1152921504606846976 := by omega
    obtain ⟨a3, hcut, hR3⟩ := cut_l (P := Try.prog) (hH.out.1.ext hb3.out) 55 (by kernel_rfl) (by kernel_rfl) .i64 ((k : Int) + 1) (k + 1) (by omega) (by omega)
    have hR3' := Lib.hid hR3
    clear hR3
    go_wp2_with fail
    refine (con_any hR3'.out (by omega)).mono ?_
    rintro e w2 ⟨rfl, hb⟩
    have hk2 := Lib.hid hb
    clear hb hcut
    have hb4 := Lib.hid (hb3.out.trans (hk2.out.mono hb3.out.size))
    have hZ2 := Lib.hid (hZ1.out.below hk2.out hZ1.out.lt)
    have r13 : w2.cell? ⟨w.heap.size, 13, none⟩ = some (.slice a n c) := cell_old q13 hk2.out
    clear q13
    rcases hU'.out with ⟨k', g1, g2, h2, rfl, rfl, rfl, rfl, rfl, rfl, rfl⟩ | ⟨k', q', L, g1, g2, h2, g3, g4, rfl, uC⟩
    · have ek : k' = k := by have := hi'.out; omega
      subst ek
      rw [decide_eq_true h2]
      clear h2 hU'
      go_wp2_with (refine store_whole rfl 24 (.tmp 2) (.tmp 20) rfl rfl rfl hZ2.out (by rfl) (by kernel_rfl) (by kernel_rfl) ?_; intro w6 hB6 hg6 hz6; have hR6 := Lib.hid hB6; have hg6' := Lib.hid hg6; clear hB6 hg6 hz6)
      refine bodyPost_ret (results_ctt rfl _ rfl hR6.out Try.underlying24 rfl (by kernel_rfl)) rfl ?_
      refine ⟨⟨nilV, rfl, OwnO.nil _ _⟩, hb4.out.grown hg6'.out hb4.out.size (fun j hj => by have e2 := Option.some.inj hj; have := hl1.out; omega)⟩
    · have ek : k' = k := by have := hi'.out; omega
      subst ek
      rw [decide_eq_false (by omega)]
      have uC1 := Lib.hid uC
      clear h2 hU' uC
      obtain ⟨b, o, rfl, hbs, hc⟩ := rd_recs (hH.out.1.ext hb4.out) (by omega)
      have hck := hc k' (by omega)
      clear hc
      have hx : QS[k']'(by omega) = q' := by have := g3; rw [List.getElem?_eq_getElem (by omega : k' < QS.length)] at this; exact Option.some.inj this
      rw [hx] at hck
      have hrec := Lib.hid ((hH.out.2.2.2 k' q' L g3 g4).ext hb4.out)
      clear hx g1 g2 g3 g4
      obtain ⟨oa, on, oc, ty, cl, ttl, ma, mn, mc, ua, un, uc, xa, xn, xc, ra, rn, rc⟩ := q'
      have hsm := hrec.out.small
      dsimp only at hsm
      obtain ⟨z0, z4, z5, z6, z7⟩ := hsm
      have c0 : w2.cell? ⟨b, o + k' * 8, none⟩ = some (.slice oa on oc) := hck 0 _ rfl
      have c1 : w2.cell? ⟨b, o + k' * 8 + 1, none⟩ = some (.int .u16 ty) := hck 1 _ rfl
      have c2 : w2.cell? ⟨b, o + k' * 8 + 2, none⟩ = some (.int .u16 cl) := hck 2 _ rfl
      have c3 : w2.cell? ⟨b, o + k' * 8 + 3, none⟩ = some (.int .u32 ttl) := hck 3 _ rfl
      have c4 : w2.cell? ⟨b, o + k' * 8 + 4, none⟩ = some (.slice ma mn mc) := hck 4 _ rfl
      have c5 : w2.cell? ⟨b, o + k' * 8 + 5, none⟩ = some (.slice ua un uc) := hck 5 _ rfl
      have c6 : w2.cell? ⟨b, o + k' * 8 + 6, none⟩ = some (.slice xa xn xc) := hck 6 _ rfl
      have c7 : w2.cell? ⟨b, o + k' * 8 + 7, none⟩ = some (.slice ra rn rc) := hck 7 _ rfl
      clear hck
      have uC' : Hid (∀ (base : Nat) (e : Ending) (w' : World), ReadB base on ty cl ttl mn un xn L.raw e w' → ∃ u, e = .returned (.tuple #[eV sC iC vC dC u, .int .i64 EC]) ∧ OwnO w' base u AC) := uC1
      clear uC1
      have hread : Hid (Calls Try.prog 13 #[.agg #[.slice oa on oc, .int .u16 ty, .int .u16 cl, .int .u32 ttl, .slice ma mn mc, .slice ua un uc, .slice xa xn xc, .slice ra rn rc]] w2 fun e w' => (∃ u, e = .returned (.tuple #[eV sC iC vC dC u, .int .i64 EC]) ∧ OwnO w' w2.heap.size u AC) ∧ Below w2.heap.size w2 w') := Lib.hid ((read_any oa on oc ty cl ttl ma mn mc ua un uc xa xn xc hrec.out.raw hrec.out.ttl hrec.out.ty hrec.out.cl z0 z4 z5 z6 z7).mono (fun e w' h => ⟨uC'.out _ _ _ h.1, h.2⟩))
      go_wp2_with fail
      refine hread.out.mono ?_
      rintro e w3 ⟨⟨u, rfl, hu⟩, hb⟩
      obtain ⟨au, cu, rfl⟩ := hu.shape
      have hk3 := Lib.hid hb
      have hu' := Lib.hid hu
      clear hb hu hread
      generalize AC.length = nC at *
      unfold eV
      have hb5 := Lib.hid (hb4.out.trans (hk3.out.mono hb4.out.size))
      have hZ3 := Lib.hid (hZ2.out.below hk3.out hZ2.out.lt)
      obtain ⟨W4, hW4⟩ : ∃ W, w3.alloc (.cells #[.int .i64 0, .int .i64 0, .int .i64 0, .bool false, .slice none 0 0] 24) = W := ⟨_, rfl⟩
      have hN4 : Hid (Blk W4 w3.heap.size 24 (0, 0) [.int .i64 0, .int .i64 0, .int .i64 0, .bool false, .slice none 0 0]) := Lib.hid (by rw [← hW4]; exact Blk.new w3 24 (0, 0) #[.int .i64 0, .int .i64 0, .int .i64 0, .bool false, .slice none 0 0])
      have hk4 : Hid (Below w3.heap.size w3 W4) := Lib.hid (by rw [← hW4]; exact alloc_bel _ _)
      go_upto_region 7 with (refine store_whole rfl 24 (.tmp 6) (.tmp 28) rfl rfl rfl hN4.out (by rfl) (by kernel_rfl) (by kernel_rfl) ?_; intro w5 hB6 hg6 hz6; have hR5 := Lib.hid hB6; have hk5 := Lib.hid (fresh_store hk4.out hg6); clear hB6 hg6 hz6)
      have hb6 := Lib.hid (hb5.out.trans (hk5.out.mono hb5.out.size))
      have hZ5 := Lib.hid (hZ3.out.below hk5.out hZ3.out.lt)
      have hu5 := Lib.hid (hu'.out.ext hk5.out)
      have y0 : w5.cell? ⟨w3.heap.size, 0, none⟩ = some (.int .i64 sC) := (hR5.out.cell 0).trans rfl
      have y1 : w5.cell? ⟨w3.heap.size, 1, none⟩ = some (.int .i64 iC) := (hR5.out.cell 1).trans rfl
      have y2 : w5.cell? ⟨w3.heap.size, 2, none⟩ = some (.int .i64 vC) := (hR5.out.cell 2).trans rfl
      have y3 : w5.cell? ⟨w3.heap.size, 3, none⟩ = some (.bool dC) := (hR5.out.cell 3).trans rfl
      have y4 : w5.cell? ⟨w3.heap.size, 4, none⟩ = some (.slice au nC cu) := (hR5.out.cell 4).trans rfl
      clear hW4 hN4 hk4
      go_wp2_with (refine store_whole rfl 24 (.tmp 2) (.tmp 30) rfl rfl rfl hZ5.out (by rfl) (by kernel_rfl) (by kernel_rfl) ?_; intro w6 hB6 hg6 hz6; have hR6 := Lib.hid hB6; have hg6' := Lib.hid hg6; clear hB6 hg6 hz6)
      refine bodyPost_ret (results_ctt rfl _ rfl hR6.out Try.underlying24 rfl (by kernel_rfl)) rfl ?_
      have hle : w.heap.size ≤ w2.heap.size := hb4.out.size
      refine ⟨⟨.slice au nC cu, rfl, (ownO_store hu5.out hZ5.out (by decide) (by decide) hg6'.out).mono hle⟩, hb6.out.grown hg6'.out hb6.out.size (fun j hj => by have e2 := Option.some.inj hj; have := hl1.out; omega)⟩
end Go.Proofs.Ythgnlbdolilklaa
