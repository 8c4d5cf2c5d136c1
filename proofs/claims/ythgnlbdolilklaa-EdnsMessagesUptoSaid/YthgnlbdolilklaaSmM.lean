/- Questions, records, messages that are alike: SameQuestion 71, SameQuestions 57, SameRecords 58, SameMessage 30; printed by gen_smm.py. -/
import Derived.Test.YthgnlbdolilklaaCpM
import Derived.StillTailTactics
namespace Go.Proofs.Ythgnlbdolilklaa
open Go Go.RowKit
def metaR (q : RD) : Nat × Nat × Nat := (q.ty, q.cl, q.ttl)
def metaQ (q : QD) : Nat × Nat := (q.t, q.k)
theorem meta_at {α β : Type} {f : α → β} {l l' : List α} (h : l.map f = l'.map f) {k : Nat} {x y : α} (hx : l[k]? = some x) (hy : l'[k]? = some y) : f x = f y := by
  have h1 : (l.map f)[k]? = some (f x) := by rw [List.getElem?_map, hx]; rfl
  have h2 : (l'.map f)[k]? = some (f y) := by rw [List.getElem?_map, hy]; rfl
  rw [h, h2] at h1
  exact (Option.some.inj h1).symm
set_option maxHeartbeats 8000000 in
set_option maxRecDepth 100000 in
theorem same_q {w : World} {qa : Option Addr} {qn qc : Nat} {qa' : Option Addr} {qn' qc' : Nat} {N : Nm} (h : Rd strE w qa qn qc N) (h' : Rd strE w qa' qn' qc' N) (t k : Nat) :
    Calls Try.prog 71 #[.agg #[.slice qa qn qc, .int .u16 t, .int .u16 k], .agg #[.slice qa' qn' qc', .int .u16 t, .int .u16 k]] w fun e w' => e = .returned (.bool true) ∧ Below w.heap.size w w' := by
  obtain ⟨W1, hW1⟩ : ∃ W, w.alloc (.cells #[.slice qa qn qc, .int .u16 t, .int .u16 k] 90) = W := ⟨_, rfl⟩
  have B1 : Hid (Blk W1 w.heap.size 90 (0, 0) [.slice qa qn qc, .int .u16 t, .int .u16 k]) := Lib.hid (by rw [← hW1]; exact Blk.new w 90 (0, 0) #[.slice qa qn qc, .int .u16 t, .int .u16 k])
  have k1 : Hid (Below w.heap.size w W1) := Lib.hid (by rw [← hW1]; exact alloc_bel _ _)
  obtain ⟨W2, hW2⟩ : ∃ W, W1.alloc (.cells #[.slice qa' qn' qc', .int .u16 t, .int .u16 k] 90) = W := ⟨_, rfl⟩
  have B2 : Hid (Blk W2 W1.heap.size 90 (0, 0) [.slice qa' qn' qc', .int .u16 t, .int .u16 k]) := Lib.hid (by rw [← hW2]; exact Blk.new W1 90 (0, 0) #[.slice qa' qn' qc', .int .u16 t, .int .u16 k])
  have k2 : Hid (Below W1.heap.size W1 W2) := Lib.hid (by rw [← hW2]; exact alloc_bel _ _)
  have hb2 := Lib.hid (k1.out.trans (k2.out.mono k1.out.size))
  have hs := Lib.hid (same_name (h.ext hb2.out) (h'.ext hb2.out))
  have B1' := Lib.hid (B1.out.below k2.out B1.out.lt)
  clear h h'
  have p0 : W2.cell? ⟨w.heap.size, 0, none⟩ = some (.slice qa qn qc) := (B1'.out.cell 0).trans rfl
  have p1 : W2.cell? ⟨w.heap.size, 1, none⟩ = some (.int .u16 t) := (B1'.out.cell 1).trans rfl
  have p2 : W2.cell? ⟨w.heap.size, 2, none⟩ = some (.int .u16 k) := (B1'.out.cell 2).trans rfl
  have q0 : W2.cell? ⟨W1.heap.size, 0, none⟩ = some (.slice qa' qn' qc') := (B2.out.cell 0).trans rfl
  have q1 : W2.cell? ⟨W1.heap.size, 1, none⟩ = some (.int .u16 t) := (B2.out.cell 1).trans rfl
  have q2 : W2.cell? ⟨W1.heap.size, 2, none⟩ = some (.int .u16 k) := (B2.out.cell 2).trans rfl
  go_enter Try.func71, Try.ntmps71
  go_wp2_with fail
  try rw [hW1]
  try rw [hW2]
  clear hW2 hW1
  refine hs.out.mono ?_
  rw [beq_self_eq_true]
  rintro e w1 ⟨rfl, q, rfl⟩
  have hbf := Lib.hid (below_drewN hb2.out q)
  go_wp2_with fail
  go_ret
  exact ⟨rfl, hbf.out⟩
set_option maxHeartbeats 8000000 in
set_option maxRecDepth 100000 in
theorem same_recs {w : World} {a : Option Addr} {n c : Nat} {a' : Option Addr} {n' c' : Nat} {QS QS' : List RD} {LS : List RL} (h : RdRs w a n c QS LS) (h' : RdRs w a' n' c' QS' LS) (hm : QS.map metaR = QS'.map metaR) :
    Calls Try.prog 58 #[.slice a n c, .slice a' n' c'] w fun e w' => e = .returned (.bool true) ∧ Below w.heap.size w w' := by
  have hl := h.1.len
  have hl' := h'.1.len
  have e1 := h.2.1
  have e1' := h'.2.1
  obtain rfl : n = n' := by omega
  have hn : n ≤ 1152921504606846976 := by have := h.2.2.1; unfold reachBytes at this; omega
  have hH := Lib.hid h
  have hH' := Lib.hid h'
  have hm' := Lib.hid hm
  clear h h' hm
  go_enter Try.func58, Try.ntmps58
  go_wp2_with fail
  go_loopw [5] (fun i wr => ∃ k : Nat, k ≤ n ∧ i = .int .i64 k ∧ Hid (Below w.heap.size w wr)) (fun i _ => n - (intOf i).toNat)
  case atStart => exact ⟨0, Nat.zero_le _, rfl, Lib.hid (Below.refl _ _)⟩
  case round =>
    obtain ⟨k, hk, rfl, hb⟩ := hrel
    by_cases hlt : k < n
    · have hkI : (k : Int) < n := by omega
      have hk0 : 0 ≤ (k : Int) := by omega
      have hks : k < QS.length := by omega
      have hks' : k < QS'.length := by omega
      obtain ⟨b, o, rfl, hbs, hc⟩ := rd_recs (hH.out.1.ext hb.out) (by omega)
      obtain ⟨b', o', rfl, hbs', hc'⟩ := rd_recs (hH'.out.1.ext hb.out) (by omega)
      obtain ⟨L, hL⟩ : ∃ L, LS[k]? = some L := ⟨LS[k]'(by omega), List.getElem?_eq_getElem _⟩
      have r1 := (hH.out.2.2.2 k QS[k] L (List.getElem?_eq_getElem hks) hL).ext hb.out
      have r2 := (hH'.out.2.2.2 k QS'[k] L (List.getElem?_eq_getElem hks') hL).ext hb.out
      have hm := meta_at hm'.out (List.getElem?_eq_getElem hks) (List.getElem?_eq_getElem hks')
      have hc := hc k hks
      have hc' := hc' k hks'
      generalize QS[k] = x at *
      generalize QS'[k] = x' at *
      obtain ⟨oa, on, oc, ty, cl, ttl, ma, mn, mc, ua, un, uc, xa, xn, xc, ra, rn, rc⟩ := x
      obtain ⟨oa', on', oc', ty', cl', ttl', ma', mn', mc', ua', un', uc', xa', xn', xc', ra', rn', rc'⟩ := x'
      simp only [metaR, Prod.mk.injEq] at hm
      obtain ⟨rfl, rfl, rfl⟩ := hm
      have c0 : wr.cell? ⟨b, o + k * 8, none⟩ = some (.slice oa on oc) := hc 0 _ rfl
      have c1 : wr.cell? ⟨b, o + k * 8 + 1, none⟩ = some (.int .u16 ty) := hc 1 _ rfl
      have c2 : wr.cell? ⟨b, o + k * 8 + 2, none⟩ = some (.int .u16 cl) := hc 2 _ rfl
      have c3 : wr.cell? ⟨b, o + k * 8 + 3, none⟩ = some (.int .u32 ttl) := hc 3 _ rfl
      have c4 : wr.cell? ⟨b, o + k * 8 + 4, none⟩ = some (.slice ma mn mc) := hc 4 _ rfl
      have c5 : wr.cell? ⟨b, o + k * 8 + 5, none⟩ = some (.slice ua un uc) := hc 5 _ rfl
      have c6 : wr.cell? ⟨b, o + k * 8 + 6, none⟩ = some (.slice xa xn xc) := hc 6 _ rfl
      have c7 : wr.cell? ⟨b, o + k * 8 + 7, none⟩ = some (.slice ra rn rc) := hc 7 _ rfl
      have d0 : wr.cell? ⟨b', o' + k * 8, none⟩ = some (.slice oa' on' oc') := hc' 0 _ rfl
      have d1 : wr.cell? ⟨b', o' + k * 8 + 1, none⟩ = some (.int .u16 ty) := hc' 1 _ rfl
      have d2 : wr.cell? ⟨b', o' + k * 8 + 2, none⟩ = some (.int .u16 cl) := hc' 2 _ rfl
      have d3 : wr.cell? ⟨b', o' + k * 8 + 3, none⟩ = some (.int .u32 ttl) := hc' 3 _ rfl
      have d4 : wr.cell? ⟨b', o' + k * 8 + 4, none⟩ = some (.slice ma' mn' mc') := hc' 4 _ rfl
      have d5 : wr.cell? ⟨b', o' + k * 8 + 5, none⟩ = some (.slice ua' un' uc') := hc' 5 _ rfl
      have d6 : wr.cell? ⟨b', o' + k * 8 + 6, none⟩ = some (.slice xa' xn' xc') := hc' 6 _ rfl
      have d7 : wr.cell? ⟨b', o' + k * 8 + 7, none⟩ = some (.slice ra' rn' rc') := hc' 7 _ rfl
      clear hc hc'
      have hkd : Hid (Below wr.heap.size wr wr.drew) := Lib.hid (Below.refl _ _).drew
      have hcall : Hid (Calls Try.prog 15 #[.agg #[.slice oa on oc, .int .u16 ty, .int .u16 cl, .int .u32 ttl, .slice ma mn mc, .slice ua un uc, .slice xa xn xc, .slice ra rn rc], .agg #[.slice oa' on' oc', .int .u16 ty, .int .u16 cl, .int .u32 ttl, .slice ma' mn' mc', .slice ua' un' uc', .slice xa' xn' xc', .slice ra' rn' rc']] wr.drew fun e w' => e = .returned (.bool true) ∧ Below wr.drew.heap.size wr.drew w') := Lib.hid (same_rec (q := ⟨oa, on, oc, ty, cl, ttl, ma, mn, mc, ua, un, uc, xa, xn, xc, ra, rn, rc⟩) (q' := ⟨oa', on', oc', ty, cl, ttl, ma', mn', mc', ua', un', uc', xa', xn', xc', ra', rn', rc'⟩) (r1.ext hkd.out) (r2.ext hkd.out) rfl rfl rfl)
      clear r1 r2 hL
      go_wp2_with fail
      refine wp_region_still_tail 8 (by kernel_rfl) (by kernel_rfl) ?_
      simp only [List.take_succ_cons, List.take_zero, List.drop_succ_cons, List.drop_zero]
      iterate 8 still_step
      refine wpStill_nil ?_
      change wpList _ _ _ _ _ wr.drew
      generalize wr.drew = w2 at *
      go_wp2_with fail
      refine hcall.out.mono ?_
      rintro e w3 ⟨rfl, hb3⟩
      have hb4 := Lib.hid (hb.out.trans (hkd.out.trans (hb3.mono hkd.out.size) |>.mono hb.out.size))
      clear hb3 hcall c0 c1 c2 c3 c4 c5 c6 c7 d0 d1 d2 d3 d4 d5 d6 d7
      go_wp2_with fail
      go_roundw
      case rel => exact ⟨k + 1, by omega, by go_num, hb4⟩
      case measure => simp [intOf]; omega
    · have hk' : k = n := by omega
      subst hk'
      go_wp2_with fail
      go_ret
      exact ⟨rfl, hb.out⟩
set_option maxHeartbeats 8000000 in
set_option maxRecDepth 100000 in
theorem same_qs {w : World} {a : Option Addr} {n c : Nat} {a' : Option Addr} {n' c' : Nat} {QS QS' : List QD} {LS : List Nm} (h : RdQs w a n c QS LS) (h' : RdQs w a' n' c' QS' LS) (hm : QS.map metaQ = QS'.map metaQ) :
    Calls Try.prog 57 #[.slice a n c, .slice a' n' c'] w fun e w' => e = .returned (.bool true) ∧ Below w.heap.size w w' := by
  have hl := h.1.len
  have hl' := h'.1.len
  have e1 := h.2.1
  have e1' := h'.2.1
  obtain rfl : n = n' := by omega
  have hn : n ≤ 1152921504606846976 := by have := h.2.2.1; unfold reachBytes at this; omega
  have hH := Lib.hid h
  have hH' := Lib.hid h'
  have hm' := Lib.hid hm
  clear h h' hm
  go_enter Try.func57, Try.ntmps57
  go_wp2_with fail
  go_loopw [5] (fun i wr => ∃ k : Nat, k ≤ n ∧ i = .int .i64 k ∧ Hid (Below w.heap.size w wr)) (fun i _ => n - (intOf i).toNat)
  case atStart => exact ⟨0, Nat.zero_le _, rfl, Lib.hid (Below.refl _ _)⟩
  case round =>
    obtain ⟨k, hk, rfl, hb⟩ := hrel
    by_cases hlt : k < n
    · have hkI : (k : Int) < n := by omega
      have hk0 : 0 ≤ (k : Int) := by omega
      have hks : k < QS.length := by omega
      have hks' : k < QS'.length := by omega
      obtain ⟨b, o, rfl, hbs, hc⟩ := rd_qs (hH.out.1.ext hb.out) (by omega)
      obtain ⟨b', o', rfl, hbs', hc'⟩ := rd_qs (hH'.out.1.ext hb.out) (by omega)
      obtain ⟨L, hL⟩ : ∃ L, LS[k]? = some L := ⟨LS[k]'(by omega), List.getElem?_eq_getElem _⟩
      have r1 := (hH.out.2.2.2 k QS[k] L (List.getElem?_eq_getElem hks) hL).1.ext hb.out
      have r2 := (hH'.out.2.2.2 k QS'[k] L (List.getElem?_eq_getElem hks') hL).1.ext hb.out
      have hm := meta_at hm'.out (List.getElem?_eq_getElem hks) (List.getElem?_eq_getElem hks')
      obtain ⟨c0, c1, c2⟩ := hc k hks
      obtain ⟨d0, d1, d2⟩ := hc' k hks'
      clear hc hc'
      obtain ⟨x, hx⟩ : ∃ x, QS[k] = x := ⟨_, rfl⟩
      obtain ⟨x', hx'⟩ : ∃ x, QS'[k] = x := ⟨_, rfl⟩
      rw [hx] at c0 c1 c2 hm r1
      rw [hx'] at d0 d1 d2 hm r2
      clear hx hx'
      obtain ⟨na, nn, nc, qt, qk⟩ := x
      obtain ⟨na', nn', nc', qt', qk'⟩ := x'
      simp only [metaQ, Prod.mk.injEq] at hm
      obtain ⟨rfl, rfl⟩ := hm
      dsimp only at c0 c1 c2 d0 d1 d2
      have hkd : Hid (Below wr.heap.size wr wr.drew) := Lib.hid (Below.refl _ _).drew
      have hcall : Hid (Calls Try.prog 71 #[.agg #[.slice na nn nc, .int .u16 qt, .int .u16 qk], .agg #[.slice na' nn' nc', .int .u16 qt, .int .u16 qk]] wr.drew fun e w' => e = .returned (.bool true) ∧ Below wr.drew.heap.size wr.drew w') := Lib.hid (same_q (r1.ext hkd.out) (r2.ext hkd.out) qt qk)
      clear r1 r2 hL
      go_wp2_with fail
      refine wp_region_still_tail 8 (by kernel_rfl) (by kernel_rfl) ?_
      simp only [List.take_succ_cons, List.take_zero, List.drop_succ_cons, List.drop_zero]
      iterate 8 still_step
      refine wpStill_nil ?_
      change wpList _ _ _ _ _ wr.drew
      generalize wr.drew = w2 at *
      go_wp2_with fail
      refine hcall.out.mono ?_
      rintro e w3 ⟨rfl, hb3⟩
      have hb4 := Lib.hid (hb.out.trans (hkd.out.trans (hb3.mono hkd.out.size) |>.mono hb.out.size))
      clear hb3 hcall c0 c1 c2 d0 d1 d2
      go_wp2_with fail
      go_roundw
      case rel => exact ⟨k + 1, by omega, by go_num, hb4⟩
      case measure => simp [intOf]; omega
    · have hk' : k = n := by omega
      subst hk'
      go_wp2_with fail
      go_ret
      exact ⟨rfl, hb.out⟩
/-- a message reads as these -/
structure RdM (w : World) (qa : Option Addr) (qn qc : Nat) (QS : List QD) (NS : List Nm) (an : Option Addr) (nn1 nc1 : Nat) (Q1 : List RD) (L1 : List RL) (au : Option Addr) (nn2 nc2 : Nat) (Q2 : List RD) (L2 : List RL) (ad3 : Option Addr) (nn3 nc3 : Nat) (Q3 : List RD) (L3 : List RL) : Prop where
  q : RdQs w qa qn qc QS NS
  a1 : RdRs w an nn1 nc1 Q1 L1
  a2 : RdRs w au nn2 nc2 Q2 L2
  a3 : RdRs w ad3 nn3 nc3 Q3 L3
theorem RdM.ext {w w' : World} {qa : Option Addr} {qn qc : Nat} {QS : List QD} {NS : List Nm} {an : Option Addr} {nn1 nc1 : Nat} {Q1 : List RD} {L1 : List RL} {au : Option Addr} {nn2 nc2 : Nat} {Q2 : List RD} {L2 : List RL} {ad3 : Option Addr} {nn3 nc3 : Nat} {Q3 : List RD} {L3 : List RL} (h : RdM w qa qn qc QS NS an nn1 nc1 Q1 L1 au nn2 nc2 Q2 L2 ad3 nn3 nc3 Q3 L3) (hb : Below w.heap.size w w') : RdM w' qa qn qc QS NS an nn1 nc1 Q1 L1 au nn2 nc2 Q2 L2 ad3 nn3 nc3 Q3 L3 := ⟨h.q.ext hb, h.a1.ext hb, h.a2.ext hb, h.a3.ext hb⟩
set_option maxHeartbeats 8000000 in
set_option maxRecDepth 100000 in
theorem same_msg {w : World} {qa : Option Addr} {qn qc : Nat} {QS : List QD} {NS : List Nm} {an : Option Addr} {nn1 nc1 : Nat} {Q1 : List RD} {L1 : List RL} {au : Option Addr} {nn2 nc2 : Nat} {Q2 : List RD} {L2 : List RL} {ad3 : Option Addr} {nn3 nc3 : Nat} {Q3 : List RD} {L3 : List RL} {qa' : Option Addr} {qn' qc' : Nat} {QS' : List QD} {an' : Option Addr} {nn1' nc1' : Nat} {Q1' : List RD} {au' : Option Addr} {nn2' nc2' : Nat} {Q2' : List RD} {ad3' : Option Addr} {nn3' nc3' : Nat} {Q3' : List RD} (h : RdM w qa qn qc QS NS an nn1 nc1 Q1 L1 au nn2 nc2 Q2 L2 ad3 nn3 nc3 Q3 L3) (h' : RdM w qa' qn' qc' QS' NS an' nn1' nc1' Q1' L1 au' nn2' nc2' Q2' L2 ad3' nn3' nc3' Q3' L3)
    (e0 : QS.map metaQ = QS'.map metaQ) (e1 : Q1.map metaR = Q1'.map metaR) (e2 : Q2.map metaR = Q2'.map metaR) (e3 : Q3.map metaR = Q3'.map metaR) (id : Int) (rs : Bool) (op : Int) (aa tc rd ra ad cd : Bool) (rc : Int) :
    Calls Try.prog 30 #[.agg #[.int .u16 id, .bool rs, .int .i64 op, .bool aa, .bool tc, .bool rd, .bool ra, .bool ad, .bool cd, .int .i64 rc, .slice qa qn qc, .slice an nn1 nc1, .slice au nn2 nc2, .slice ad3 nn3 nc3], .agg #[.int .u16 id, .bool rs, .int .i64 op, .bool aa, .bool tc, .bool rd, .bool ra, .bool ad, .bool cd, .int .i64 rc, .slice qa' qn' qc', .slice an' nn1' nc1', .slice au' nn2' nc2', .slice ad3' nn3' nc3']] w fun e w' => e = .returned (.bool true) ∧ Below w.heap.size w w' := by
  obtain ⟨W1, hW1⟩ : ∃ W, w.alloc (.cells #[.int .u16 id, .bool rs, .int .i64 op, .bool aa, .bool tc, .bool rd, .bool ra, .bool ad, .bool cd, .int .i64 rc, .slice qa qn qc, .slice an nn1 nc1, .slice au nn2 nc2, .slice ad3 nn3 nc3] 60) = W := ⟨_, rfl⟩
  have B1 : Hid (Blk W1 w.heap.size 60 (0, 0) [.int .u16 id, .bool rs, .int .i64 op, .bool aa, .bool tc, .bool rd, .bool ra, .bool ad, .bool cd, .int .i64 rc, .slice qa qn qc, .slice an nn1 nc1, .slice au nn2 nc2, .slice ad3 nn3 nc3]) := Lib.hid (by rw [← hW1]; exact Blk.new w 60 (0, 0) #[.int .u16 id, .bool rs, .int .i64 op, .bool aa, .bool tc, .bool rd, .bool ra, .bool ad, .bool cd, .int .i64 rc, .slice qa qn qc, .slice an nn1 nc1, .slice au nn2 nc2, .slice ad3 nn3 nc3])
  have k1 : Hid (Below w.heap.size w W1) := Lib.hid (by rw [← hW1]; exact alloc_bel _ _)
  obtain ⟨W2, hW2⟩ : ∃ W, W1.alloc (.cells #[.int .u16 id, .bool rs, .int .i64 op, .bool aa, .bool tc, .bool rd, .bool ra, .bool ad, .bool cd, .int .i64 rc, .slice qa' qn' qc', .slice an' nn1' nc1', .slice au' nn2' nc2', .slice ad3' nn3' nc3'] 60) = W := ⟨_, rfl⟩
  have B2 : Hid (Blk W2 W1.heap.size 60 (0, 0) [.int .u16 id, .bool rs, .int .i64 op, .bool aa, .bool tc, .bool rd, .bool ra, .bool ad, .bool cd, .int .i64 rc, .slice qa' qn' qc', .slice an' nn1' nc1', .slice au' nn2' nc2', .slice ad3' nn3' nc3']) := Lib.hid (by rw [← hW2]; exact Blk.new W1 60 (0, 0) #[.int .u16 id, .bool rs, .int .i64 op, .bool aa, .bool tc, .bool rd, .bool ra, .bool ad, .bool cd, .int .i64 rc, .slice qa' qn' qc', .slice an' nn1' nc1', .slice au' nn2' nc2', .slice ad3' nn3' nc3'])
  have k2 : Hid (Below W1.heap.size W1 W2) := Lib.hid (by rw [← hW2]; exact alloc_bel _ _)
  have hb2 := Lib.hid (k1.out.trans (k2.out.mono k1.out.size))
  have B1' := Lib.hid (B1.out.below k2.out B1.out.lt)
  have g := Lib.hid (h.ext hb2.out)
  have g' := Lib.hid (h'.ext hb2.out)
  have ee := Lib.hid (And.intro e0 (And.intro e1 (And.intro e2 e3)))
  clear h h' e0 e1 e2 e3
  have p0 : W2.cell? ⟨w.heap.size, 0, none⟩ = some (.int .u16 id) := (B1'.out.cell 0).trans rfl
  have p1 : W2.cell? ⟨w.heap.size, 1, none⟩ = some (.bool rs) := (B1'.out.cell 1).trans rfl
  have p2 : W2.cell? ⟨w.heap.size, 2, none⟩ = some (.int .i64 op) := (B1'.out.cell 2).trans rfl
  have p3 : W2.cell? ⟨w.heap.size, 3, none⟩ = some (.bool aa) := (B1'.out.cell 3).trans rfl
  have p4 : W2.cell? ⟨w.heap.size, 4, none⟩ = some (.bool tc) := (B1'.out.cell 4).trans rfl
  have p5 : W2.cell? ⟨w.heap.size, 5, none⟩ = some (.bool rd) := (B1'.out.cell 5).trans rfl
  have p6 : W2.cell? ⟨w.heap.size, 6, none⟩ = some (.bool ra) := (B1'.out.cell 6).trans rfl
  have p7 : W2.cell? ⟨w.heap.size, 7, none⟩ = some (.bool ad) := (B1'.out.cell 7).trans rfl
  have p8 : W2.cell? ⟨w.heap.size, 8, none⟩ = some (.bool cd) := (B1'.out.cell 8).trans rfl
  have p9 : W2.cell? ⟨w.heap.size, 9, none⟩ = some (.int .i64 rc) := (B1'.out.cell 9).trans rfl
  have p10 : W2.cell? ⟨w.heap.size, 10, none⟩ = some (.slice qa qn qc) := (B1'.out.cell 10).trans rfl
  have p11 : W2.cell? ⟨w.heap.size, 11, none⟩ = some (.slice an nn1 nc1) := (B1'.out.cell 11).trans rfl
  have p12 : W2.cell? ⟨w.heap.size, 12, none⟩ = some (.slice au nn2 nc2) := (B1'.out.cell 12).trans rfl
  have p13 : W2.cell? ⟨w.heap.size, 13, none⟩ = some (.slice ad3 nn3 nc3) := (B1'.out.cell 13).trans rfl
  have q0 : W2.cell? ⟨W1.heap.size, 0, none⟩ = some (.int .u16 id) := (B2.out.cell 0).trans rfl
  have q1 : W2.cell? ⟨W1.heap.size, 1, none⟩ = some (.bool rs) := (B2.out.cell 1).trans rfl
  have q2 : W2.cell? ⟨W1.heap.size, 2, none⟩ = some (.int .i64 op) := (B2.out.cell 2).trans rfl
  have q3 : W2.cell? ⟨W1.heap.size, 3, none⟩ = some (.bool aa) := (B2.out.cell 3).trans rfl
  have q4 : W2.cell? ⟨W1.heap.size, 4, none⟩ = some (.bool tc) := (B2.out.cell 4).trans rfl
  have q5 : W2.cell? ⟨W1.heap.size, 5, none⟩ = some (.bool rd) := (B2.out.cell 5).trans rfl
  have q6 : W2.cell? ⟨W1.heap.size, 6, none⟩ = some (.bool ra) := (B2.out.cell 6).trans rfl
  have q7 : W2.cell? ⟨W1.heap.size, 7, none⟩ = some (.bool ad) := (B2.out.cell 7).trans rfl
  have q8 : W2.cell? ⟨W1.heap.size, 8, none⟩ = some (.bool cd) := (B2.out.cell 8).trans rfl
  have q9 : W2.cell? ⟨W1.heap.size, 9, none⟩ = some (.int .i64 rc) := (B2.out.cell 9).trans rfl
  have q10 : W2.cell? ⟨W1.heap.size, 10, none⟩ = some (.slice qa' qn' qc') := (B2.out.cell 10).trans rfl
  have q11 : W2.cell? ⟨W1.heap.size, 11, none⟩ = some (.slice an' nn1' nc1') := (B2.out.cell 11).trans rfl
  have q12 : W2.cell? ⟨W1.heap.size, 12, none⟩ = some (.slice au' nn2' nc2') := (B2.out.cell 12).trans rfl
  have q13 : W2.cell? ⟨W1.heap.size, 13, none⟩ = some (.slice ad3' nn3' nc3') := (B2.out.cell 13).trans rfl
  go_enter Try.func30, Try.ntmps30
  go_upto_region 2 with (fail)
  try rw [hW1]
  try rw [hW2]
  clear hW1 hW2
  go_wp2_with fail
  refine (same_qs g.out.q g'.out.q ee.out.1).mono ?_
  rintro e v0 ⟨rfl, hb⟩
  have hbb0 := Lib.hid (hb2.out.trans (hb.mono hb2.out.size))
  have x10 := Lib.hid (B1'.out.below hb B1'.out.lt)
  have x20 := Lib.hid (B2.out.below hb B2.out.lt)
  have g10 := Lib.hid (g.out.ext hb)
  have g20 := Lib.hid (g'.out.ext hb)
  clear hb p0 q0 p1 q1 p2 q2 p3 q3 p4 q4 p5 q5 p6 q6 p7 q7 p8 q8 p9 q9 p10 q10 p11 q11 p12 q12 p13 q13
  have p11 : v0.cell? ⟨w.heap.size, 11, none⟩ = some (.slice an nn1 nc1) := (x10.out.cell 11).trans rfl
  have p12 : v0.cell? ⟨w.heap.size, 12, none⟩ = some (.slice au nn2 nc2) := (x10.out.cell 12).trans rfl
  have p13 : v0.cell? ⟨w.heap.size, 13, none⟩ = some (.slice ad3 nn3 nc3) := (x10.out.cell 13).trans rfl
  have q11 : v0.cell? ⟨W1.heap.size, 11, none⟩ = some (.slice an' nn1' nc1') := (x20.out.cell 11).trans rfl
  have q12 : v0.cell? ⟨W1.heap.size, 12, none⟩ = some (.slice au' nn2' nc2') := (x20.out.cell 12).trans rfl
  have q13 : v0.cell? ⟨W1.heap.size, 13, none⟩ = some (.slice ad3' nn3' nc3') := (x20.out.cell 13).trans rfl
  go_wp2_with fail
  refine (same_recs g10.out.a1 g20.out.a1 ee.out.2.1).mono ?_
  rintro e v1 ⟨rfl, hb⟩
  have hbb1 := Lib.hid (hbb0.out.trans (hb.mono hbb0.out.size))
  have x11 := Lib.hid (x10.out.below hb x10.out.lt)
  have x21 := Lib.hid (x20.out.below hb x20.out.lt)
  have g11 := Lib.hid (g10.out.ext hb)
  have g21 := Lib.hid (g20.out.ext hb)
  clear hb p11 q11 p12 q12 p13 q13
  have p12 : v1.cell? ⟨w.heap.size, 12, none⟩ = some (.slice au nn2 nc2) := (x11.out.cell 12).trans rfl
  have p13 : v1.cell? ⟨w.heap.size, 13, none⟩ = some (.slice ad3 nn3 nc3) := (x11.out.cell 13).trans rfl
  have q12 : v1.cell? ⟨W1.heap.size, 12, none⟩ = some (.slice au' nn2' nc2') := (x21.out.cell 12).trans rfl
  have q13 : v1.cell? ⟨W1.heap.size, 13, none⟩ = some (.slice ad3' nn3' nc3') := (x21.out.cell 13).trans rfl
  go_wp2_with fail
  refine (same_recs g11.out.a2 g21.out.a2 ee.out.2.2.1).mono ?_
  rintro e v2 ⟨rfl, hb⟩
  have hbb2 := Lib.hid (hbb1.out.trans (hb.mono hbb1.out.size))
  have x12 := Lib.hid (x11.out.below hb x11.out.lt)
  have x22 := Lib.hid (x21.out.below hb x21.out.lt)
  have g12 := Lib.hid (g11.out.ext hb)
  have g22 := Lib.hid (g21.out.ext hb)
  clear hb p12 q12 p13 q13
  have p13 : v2.cell? ⟨w.heap.size, 13, none⟩ = some (.slice ad3 nn3 nc3) := (x12.out.cell 13).trans rfl
  have q13 : v2.cell? ⟨W1.heap.size, 13, none⟩ = some (.slice ad3' nn3' nc3') := (x22.out.cell 13).trans rfl
  go_wp2_with fail
  refine (same_recs g12.out.a3 g22.out.a3 ee.out.2.2.2).mono ?_
  rintro e v3 ⟨rfl, hb⟩
  have hbb3 := Lib.hid (hbb2.out.trans (hb.mono hbb2.out.size))
  clear hb
  go_wp2_with fail
  go_ret
  exact ⟨rfl, hbb3.out⟩
end Go.Proofs.Ythgnlbdolilklaa
