/- EdnsWith: a message with what is said says just that; printed by gen_ew.py. -/
import Derived.Test.YthgnlbdolilklaaOfW
import Derived.Test.YthgnlbdolilklaaOpenM
namespace Go.Proofs.Ythgnlbdolilklaa
open Go Go.RowKit
theorem enter16 (args : Array Value) (w : World) : (callFunc 16 args).run Try.prog w = .ok (.enter 16 args) w := Go.MuLone.run_callFunc_enter Try.func16 (by kernel_rfl) (by rfl) args w
theorem enter28 (args : Array Value) (w : World) : (callFunc 28 args).run Try.prog w = .ok (.enter 28 args) w := Go.MuLone.run_callFunc_enter Try.func28 (by kernel_rfl) (by rfl) args w
theorem enter30 (args : Array Value) (w : World) : (callFunc 30 args).run Try.prog w = .ok (.enter 30 args) w := Go.MuLone.run_callFunc_enter Try.func30 (by kernel_rfl) (by rfl) args w
/-- a call of a function with two arguments, as a step of a region that draws -/
theorem step_call2 {P : Program} {ops : Array Oper} {o : Oper} {a : Act} {w : World} {K : Act → World → Prop} {Q : Exit → Act → World → Prop} {Ep : Prop} (hw : Region.wanted o (yielded ops a.tmps) = true) {f : FuncId} (x y : Operand) (t t2 : TypeId)
    (ho : o.op = .call { callee := .value (.func f), args := #[x, y], argTypes := #[t, t2] }) {v v2 : Value} (hx : a.eval x = v) (hy : a.eval y = v2) (hcf : ∀ (args : Array Value) (w : World), (callFunc f args).run P w = .ok (.enter f args) w)
    (h : Calls P f #[v, v2] w fun e w' => ∃ r, e = .returned r ∧ K (a.put o.dst r) w') : if Region.wanted o (yielded ops a.tmps) = true then Oper.wp P o a w K Q else Ep := by
  rw [if_pos hw]
  unfold Oper.wp execOp
  have hv : a.eval (.func f) = .func (.func f) #[] #[] := rfl
  have e : (Deferred.ofValue (Value.func (Fn.func f) #[] #[]) #[v, v2]).run P w = .ok { target := .fn (.func f) #[], args := #[v, v2] } w := by simp [Deferred.ofValue]
  simp only [ho, resolve, invoke, Sem.run_bind, List.map_toArray, List.map_cons, List.map_nil, hx, hy, hv, e, Result.andThen_ok, Array.append_empty, hcf, Oper.upon_enter]
  refine h.mono ?_
  rintro e w' ⟨r, rfl, hk⟩
  exact hk
theorem step_call1 {P : Program} {ops : Array Oper} {o : Oper} {a : Act} {w : World} {K : Act → World → Prop} {Q : Exit → Act → World → Prop} {Ep : Prop} (hw : Region.wanted o (yielded ops a.tmps) = true) {f : FuncId} (x : Operand) (t : TypeId)
    (ho : o.op = .call { callee := .value (.func f), args := #[x], argTypes := #[t] }) {v : Value} (hx : a.eval x = v) (hcf : ∀ (args : Array Value) (w : World), (callFunc f args).run P w = .ok (.enter f args) w)
    (h : Calls P f #[v] w fun e w' => ∃ r, e = .returned r ∧ K (a.put o.dst r) w') : if Region.wanted o (yielded ops a.tmps) = true then Oper.wp P o a w K Q else Ep := by
  rw [if_pos hw]
  unfold Oper.wp execOp
  have hv : a.eval (.func f) = .func (.func f) #[] #[] := rfl
  have e : (Deferred.ofValue (Value.func (Fn.func f) #[] #[]) #[v]).run P w = .ok { target := .fn (.func f) #[], args := #[v] } w := by simp [Deferred.ofValue]
  simp only [ho, resolve, invoke, Sem.run_bind, List.map_toArray, List.map_cons, List.map_nil, hx, hv, e, Result.andThen_ok, Array.append_empty, hcf, Oper.upon_enter]
  refine h.mono ?_
  rintro e w' ⟨r, rfl, hk⟩
  exact hk
def szE (own : Int) : Int := if own < 512 ∨ 65535 < own then 2 else 0
def szN (own s : Int) (is : Bool) (E : Int) : Int := if own < 512 ∨ 65535 < own then 0 else szV own s is E
theorem size_all {w : World} {a : Option Addr} {n c : Nat} {QS : List RD} {LS : List RL} (h : RdRs w a n c QS LS) {sC iC vC : Int} {dC : Bool} {AC : List Opt} {isC : Bool} {EC : Int} (hU : OfU QS LS sC iC vC dC AC isC EC) (own : Int) (m0 m1 m2 m3 m4 m5 m6 m7 m8 m9 m10 m11 m12 : Value) :
    Calls Try.prog 23 #[.agg #[m0, m1, m2, m3, m4, m5, m6, m7, m8, m9, m10, m11, m12, .slice a n c], .int .i64 own] w fun e w' => e = .returned (.tuple #[.int .i64 (szN own sC isC EC), .int .i64 (szE own)]) ∧ Below w.heap.size w w' := by
  unfold szN szE
  by_cases hb : own < 512 ∨ 65535 < own
  · rw [if_pos hb, if_pos hb]
    exact size_bad w own hb a n c m0 m1 m2 m3 m4 m5 m6 m7 m8 m9 m10 m11 m12
  · rw [if_neg hb, if_neg hb]
    exact size_any h hU own (by omega) (by omega) m0 m1 m2 m3 m4 m5 m6 m7 m8 m9 m10 m11 m12
theorem size_says (own sz : Int) : szE own ≠ 0 ∨ (szE own = 0 ∧ szN own 0 false 0 = 512 ∧ 512 ≤ szN own sz true 0 ∧ szN own sz true 0 ≤ own ∧ (szN own sz true 0 = own ∨ szN own sz true 0 = 512 ∨ szN own sz true 0 = sz)) := by
  unfold szE szN szV
  by_cases hb : own < 512 ∨ 65535 < own
  · left; rw [if_pos hb]; decide
  · right
    rw [if_neg hb, if_neg hb, if_neg hb, if_pos (by simp), if_neg (by simp)]
    refine ⟨rfl, rfl, ?_⟩
    omega
set_option maxHeartbeats 16000000 in
set_option maxRecDepth 100000 in
theorem ednsWith_any {w : World} {qa : Option Addr} {qn qc : Nat} {QS : List QD} {NS : List Nm} {an : Option Addr} {nn1 nc1 : Nat} {Q1 : List RD} {L1 : List RL} {au : Option Addr} {nn2 nc2 : Nat} {Q2 : List RD} {L2 : List RL} {ad3 : Option Addr} {nn3 nc3 : Nat} {Q3 : List RD} {L3 : List RL} (h : RdM w qa qn qc QS NS an nn1 nc1 Q1 L1 au nn2 nc2 Q2 L2 ad3 nn3 nc3 Q3 L3) (z : nn1 + nn2 + nn3 ≤ 4000000) (id : Int) (rs : Bool) (op : Int) (aa tc rd ra ad cd : Bool) (rc : Int) {a : Option Addr} {n c : Nat} {O : List Opt} (hO : RdO w a n c O) (hC : ∀ o ∈ O, o.1 < 65536) (sz hi ver : Int) (d : Bool) (own : Int) :
    Calls Try.prog 7 #[.agg #[.int .u16 id, .bool rs, .int .i64 op, .bool aa, .bool tc, .bool rd, .bool ra, .bool ad, .bool cd, .int .i64 rc, .slice qa qn qc, .slice an nn1 nc1, .slice au nn2 nc2, .slice ad3 nn3 nc3], .agg #[.int .i64 sz, .int .i64 hi, .int .i64 ver, .bool d, .slice a n c], .int .i64 own] w fun e w' => e = .returned (.bool true) ∧ Below w.heap.size w w' := by
  obtain ⟨W1, hW1⟩ : ∃ W, w.alloc (.cells #[.int .u16 id, .bool rs, .int .i64 op, .bool aa, .bool tc, .bool rd, .bool ra, .bool ad, .bool cd, .int .i64 rc, .slice qa qn qc, .slice an nn1 nc1, .slice au nn2 nc2, .slice ad3 nn3 nc3] 60) = W := ⟨_, rfl⟩
  have B1 : Hid (Blk W1 w.heap.size 60 (0, 0) [.int .u16 id, .bool rs, .int .i64 op, .bool aa, .bool tc, .bool rd, .bool ra, .bool ad, .bool cd, .int .i64 rc, .slice qa qn qc, .slice an nn1 nc1, .slice au nn2 nc2, .slice ad3 nn3 nc3]) := Lib.hid (by rw [← hW1]; exact Blk.new w 60 (0, 0) #[.int .u16 id, .bool rs, .int .i64 op, .bool aa, .bool tc, .bool rd, .bool ra, .bool ad, .bool cd, .int .i64 rc, .slice qa qn qc, .slice an nn1 nc1, .slice au nn2 nc2, .slice ad3 nn3 nc3])
  have k1 : Hid (Below w.heap.size w W1) := Lib.hid (by rw [← hW1]; exact alloc_bel _ _)
  obtain ⟨W2, hW2⟩ : ∃ W, W1.alloc (.cells #[.int .i64 sz, .int .i64 hi, .int .i64 ver, .bool d, .slice a n c] 24) = W := ⟨_, rfl⟩
  have B2 : Hid (Blk W2 W1.heap.size 24 (0, 0) [.int .i64 sz, .int .i64 hi, .int .i64 ver, .bool d, .slice a n c]) := Lib.hid (by rw [← hW2]; exact Blk.new W1 24 (0, 0) #[.int .i64 sz, .int .i64 hi, .int .i64 ver, .bool d, .slice a n c])
  have k2 : Hid (Below W1.heap.size W1 W2) := Lib.hid (by rw [← hW2]; exact alloc_bel _ _)
  have hl1 : Hid (w.heap.size < W1.heap.size) := Lib.hid B1.out.lt
  have kb := Lib.hid (k1.out.trans (k2.out.mono k1.out.size))
  have BM := Lib.hid (B1.out.below k2.out B1.out.lt)
  have hM := Lib.hid (h.ext kb.out)
  have hE := Lib.hid (hO.ext kb.out)
  have E0 := Lib.hid hO
  have hC' := Lib.hid hC
  have fit := Lib.hid (And.intro h.q.fit (And.intro h.a1.fit (And.intro h.a2.fit h.a3.fit)))
  have z1 := Lib.hid z
  have z2 : Hid (qn = QS.length ∧ nn1 = Q1.length ∧ nn2 = Q2.length ∧ nn3 = Q3.length) := Lib.hid ⟨h.q.1.len.symm, h.a1.1.len.symm, h.a2.1.len.symm, h.a3.1.len.symm⟩
  clear h hO hC z k1 k2 B1
  go_enter Try.func7, Try.ntmps7
  go_wp2_with fail
  try rw [hW1]
  try rw [hW2]
  clear hW1 hW2
  refine (awake_any W2).mono ?_
  rintro e w3 ⟨rfl, hb⟩
  have K_1 := Lib.hid (kb.out.trans ((hb).mono kb.out.size))
  have BM_1 := Lib.hid (BM.out.below hb BM.out.lt)
  have BE_1 := Lib.hid (B2.out.below hb B2.out.lt)
  have M_1 := Lib.hid (hM.out.ext hb)
  have E_1 := Lib.hid (hE.out.ext hb)
  clear kb BM B2 hM hE
  clear hb
  have p0 : w3.cell? ⟨w.heap.size, 0, none⟩ = some (.int .u16 id) := (BM_1.out.cell 0).trans rfl
  have p1 : w3.cell? ⟨w.heap.size, 1, none⟩ = some (.bool rs) := (BM_1.out.cell 1).trans rfl
  have p2 : w3.cell? ⟨w.heap.size, 2, none⟩ = some (.int .i64 op) := (BM_1.out.cell 2).trans rfl
  have p3 : w3.cell? ⟨w.heap.size, 3, none⟩ = some (.bool aa) := (BM_1.out.cell 3).trans rfl
  have p4 : w3.cell? ⟨w.heap.size, 4, none⟩ = some (.bool tc) := (BM_1.out.cell 4).trans rfl
  have p5 : w3.cell? ⟨w.heap.size, 5, none⟩ = some (.bool rd) := (BM_1.out.cell 5).trans rfl
  have p6 : w3.cell? ⟨w.heap.size, 6, none⟩ = some (.bool ra) := (BM_1.out.cell 6).trans rfl
  have p7 : w3.cell? ⟨w.heap.size, 7, none⟩ = some (.bool ad) := (BM_1.out.cell 7).trans rfl
  have p8 : w3.cell? ⟨w.heap.size, 8, none⟩ = some (.bool cd) := (BM_1.out.cell 8).trans rfl
  have p9 : w3.cell? ⟨w.heap.size, 9, none⟩ = some (.int .i64 rc) := (BM_1.out.cell 9).trans rfl
  have p10 : w3.cell? ⟨w.heap.size, 10, none⟩ = some (.slice qa qn qc) := (BM_1.out.cell 10).trans rfl
  have p11 : w3.cell? ⟨w.heap.size, 11, none⟩ = some (.slice an nn1 nc1) := (BM_1.out.cell 11).trans rfl
  have p12 : w3.cell? ⟨w.heap.size, 12, none⟩ = some (.slice au nn2 nc2) := (BM_1.out.cell 12).trans rfl
  have p13 : w3.cell? ⟨w.heap.size, 13, none⟩ = some (.slice ad3 nn3 nc3) := (BM_1.out.cell 13).trans rfl
  go_wp2_with fail
  refine (large_msg M_1.out (by have := z1.out; omega) _ _ _ _ _ _ _ _ _ _).mono ?_
  rintro e w4 ⟨⟨b1, rfl⟩, hb⟩
  clear p0 p1 p2 p3 p4 p5 p6 p7 p8 p9 p10 p11 p12 p13
  have K_2 := Lib.hid (K_1.out.trans ((hb).mono K_1.out.size))
  have BM_2 := Lib.hid (BM_1.out.below hb BM_1.out.lt)
  have BE_2 := Lib.hid (BE_1.out.below hb BE_1.out.lt)
  have M_2 := Lib.hid (M_1.out.ext hb)
  have E_2 := Lib.hid (E_1.out.ext hb)
  clear K_1 BM_1 BE_1 M_1 E_1
  clear hb
  cases b1 with
  | true =>
    go_wp2_with fail
    go_ret
    exact ⟨rfl, K_2.out⟩
  | false =>
  have q0 : w4.cell? ⟨W1.heap.size, 0, none⟩ = some (.int .i64 sz) := (BE_2.out.cell 0).trans rfl
  have q1 : w4.cell? ⟨W1.heap.size, 1, none⟩ = some (.int .i64 hi) := (BE_2.out.cell 1).trans rfl
  have q2 : w4.cell? ⟨W1.heap.size, 2, none⟩ = some (.int .i64 ver) := (BE_2.out.cell 2).trans rfl
  have q3 : w4.cell? ⟨W1.heap.size, 3, none⟩ = some (.bool d) := (BE_2.out.cell 3).trans rfl
  have q4 : w4.cell? ⟨W1.heap.size, 4, none⟩ = some (.slice a n c) := (BE_2.out.cell 4).trans rfl
  go_wp2_with fail
  refine (large_any E_2.out sz hi ver d).mono ?_
  rintro e w5 ⟨⟨b2, rfl, hs⟩, hb⟩
  clear q0 q1 q2 q3 q4
  have K_3 := Lib.hid (K_2.out.trans ((hb).mono K_2.out.size))
  have BM_3 := Lib.hid (BM_2.out.below hb BM_2.out.lt)
  have BE_3 := Lib.hid (BE_2.out.below hb BE_2.out.lt)
  have M_3 := Lib.hid (M_2.out.ext hb)
  have E_3 := Lib.hid (E_2.out.ext hb)
  clear K_2 BM_2 BE_2 M_2 E_2
  clear hb
  cases b2 with
  | true =>
    go_wp2_with fail
    go_ret
    exact ⟨rfl, K_3.out⟩
  | false =>
  have hs' := Lib.hid (hs rfl).2
  clear hs
  have p0 : w5.cell? ⟨w.heap.size, 0, none⟩ = some (.int .u16 id) := (BM_3.out.cell 0).trans rfl
  have p1 : w5.cell? ⟨w.heap.size, 1, none⟩ = some (.bool rs) := (BM_3.out.cell 1).trans rfl
  have p2 : w5.cell? ⟨w.heap.size, 2, none⟩ = some (.int .i64 op) := (BM_3.out.cell 2).trans rfl
  have p3 : w5.cell? ⟨w.heap.size, 3, none⟩ = some (.bool aa) := (BM_3.out.cell 3).trans rfl
  have p4 : w5.cell? ⟨w.heap.size, 4, none⟩ = some (.bool tc) := (BM_3.out.cell 4).trans rfl
  have p5 : w5.cell? ⟨w.heap.size, 5, none⟩ = some (.bool rd) := (BM_3.out.cell 5).trans rfl
  have p6 : w5.cell? ⟨w.heap.size, 6, none⟩ = some (.bool ra) := (BM_3.out.cell 6).trans rfl
  have p7 : w5.cell? ⟨w.heap.size, 7, none⟩ = some (.bool ad) := (BM_3.out.cell 7).trans rfl
  have p8 : w5.cell? ⟨w.heap.size, 8, none⟩ = some (.bool cd) := (BM_3.out.cell 8).trans rfl
  have p9 : w5.cell? ⟨w.heap.size, 9, none⟩ = some (.int .i64 rc) := (BM_3.out.cell 9).trans rfl
  have p10 : w5.cell? ⟨w.heap.size, 10, none⟩ = some (.slice qa qn qc) := (BM_3.out.cell 10).trans rfl
  have p11 : w5.cell? ⟨w.heap.size, 11, none⟩ = some (.slice an nn1 nc1) := (BM_3.out.cell 11).trans rfl
  have p12 : w5.cell? ⟨w.heap.size, 12, none⟩ = some (.slice au nn2 nc2) := (BM_3.out.cell 12).trans rfl
  have p13 : w5.cell? ⟨w.heap.size, 13, none⟩ = some (.slice ad3 nn3 nc3) := (BM_3.out.cell 13).trans rfl
  have hwo := Lib.hid (without_any M_3.out (.int .u16 id) (.bool rs) (.int .i64 op) (.bool aa) (.bool tc) (.bool rd) (.bool ra) (.bool ad) (.bool cd) (.int .i64 rc) rfl (by have := z1.out; have := z2.out; omega))
  go_wp2_with fail
  refine hwo.out.mono ?_
  rintro e w6 ⟨⟨vq, v1, v2, v3, rfl, om⟩, hb⟩
  have hb5 : Hid (W1.heap.size < w5.heap.size) := Lib.hid BE_3.out.lt
  clear p0 p1 p2 p3 p4 p5 p6 p7 p8 p9 p10 p11 p12 p13
  have K_4 := Lib.hid (K_3.out.trans ((hb).mono K_3.out.size))
  have BM_4 := Lib.hid (BM_3.out.below hb BM_3.out.lt)
  have BE_4 := Lib.hid (BE_3.out.below hb BE_3.out.lt)
  have M_4 := Lib.hid (M_3.out.ext hb)
  have E_4 := Lib.hid (E_3.out.ext hb)
  clear K_3 BM_3 BE_3 M_3 E_3
  have om6 := Lib.hid om
  clear hwo hb om
  obtain ⟨bq, cq, rfl⟩ := om6.out.q.shape
  obtain ⟨b1, c1, rfl⟩ := om6.out.a1.shape
  obtain ⟨b2, c2, rfl⟩ := om6.out.a2.shape
  obtain ⟨b3, c3, rfl⟩ := om6.out.a3.shape
  go_upto_region 5 with (refine store_whole rfl 60 (.tmp 3) (.tmp 31) rfl rfl rfl BM_4.out (by rfl) (by kernel_rfl) (by first | kernel_rfl | rfl) ?_; intro w7 hBx hgx hzx; have R7 := Lib.hid hBx; have g7 := Lib.hid hgx; clear hBx hgx hzx)
  have om7 := Lib.hid (om6.out.store BM_4.out g7.out)
  have K7 := Lib.hid (K_4.out.grown g7.out K_4.out.size (fun k hk => by have e2 := Option.some.inj hk; omega))
  have BE7 := Lib.hid (BE_4.out.grownV2 g7.out (fun e => by have e2 := Option.some.inj e; have := hl1.out; omega))
  have E7 : Hid (RdO w7 a n c O) := Lib.hid ((E0.out).ext K7.out)
  clear BM_4 BE_4 M_4 E_4 K_4 om6 g7
  have hM7 : Hid (∃ qB B1 B2 B3, RdM w7 bq QS.length cq qB NS b1 Q1.length c1 B1 L1 b2 Q2.length c2 B2 L2 b3 (zQ Q3 L3).length c3 B3 (zL Q3 L3) ∧ qB.map metaQ = QS.map metaQ ∧ B1.map metaR = Q1.map metaR ∧ B2.map metaR = Q2.map metaR ∧ B3.map metaR = (zQ Q3 L3).map metaR) := Lib.hid (by
    obtain ⟨_, _, qB, y0, rQ, eQ⟩ := om7.out.q.rdQs fit.out.1
    obtain ⟨_, _, B1, y1, rA1, eA1⟩ := om7.out.a1.rdRs fit.out.2.1
    obtain ⟨_, _, B2, y2, rA2, eA2⟩ := om7.out.a2.rdRs fit.out.2.2.1
    obtain ⟨_, _, B3, y3, rA3, eA3⟩ := om7.out.a3.rdRs fit.out.2.2.2.zf
    simp only [Value.slice.injEq, true_and] at y0 y1 y2 y3
    obtain ⟨rfl, rfl⟩ := y0
    obtain ⟨rfl, rfl⟩ := y1
    obtain ⟨rfl, rfl⟩ := y2
    obtain ⟨rfl, rfl⟩ := y3
    exact ⟨qB, B1, B2, B3, ⟨rQ, rA1, rA2, rA3⟩, eQ, eA1, eA2, eA3⟩)
  obtain ⟨qB, B1, B2, B3, rM, eM⟩ := hM7.out
  have rM7 := Lib.hid rM
  have eM7 := Lib.hid eM
  have no3 : Hid (∀ x ∈ B3, isOpt x = false) := Lib.hid (meta_no eM.2.2.2 (zf_opts Q3 L3))
  have len3 : Hid ((zQ Q3 L3).length ≤ 4000000) := Lib.hid (by rw [zQ_eq Q3 L3 fit.out.2.2.2.1]; have := List.length_filter_le (fun x => !isOpt x) Q3; have := z1.out; have := z2.out; omega)
  clear rM eM om7 hM7
  have lB3 : Hid (B3.length = (zQ Q3 L3).length) := Lib.hid rM7.out.a3.1.len
  generalize hz3' : (zQ Q3 L3).length = z3 at *
  have hz3 := Lib.hid hz3'
  clear hz3'
  have hU0 : Hid (OfU B3 (zL Q3 L3) 0 0 0 false [] false 0) := Lib.hid (.inl ⟨idxF_no no3.out, rfl, rfl, rfl, rfl, rfl, rfl, rfl⟩)
  have p0 : w7.cell? ⟨w.heap.size, 0, none⟩ = some (.int .u16 id) := (R7.out.cell 0).trans rfl
  have p1 : w7.cell? ⟨w.heap.size, 1, none⟩ = some (.bool rs) := (R7.out.cell 1).trans rfl
  have p2 : w7.cell? ⟨w.heap.size, 2, none⟩ = some (.int .i64 op) := (R7.out.cell 2).trans rfl
  have p3 : w7.cell? ⟨w.heap.size, 3, none⟩ = some (.bool aa) := (R7.out.cell 3).trans rfl
  have p4 : w7.cell? ⟨w.heap.size, 4, none⟩ = some (.bool tc) := (R7.out.cell 4).trans rfl
  have p5 : w7.cell? ⟨w.heap.size, 5, none⟩ = some (.bool rd) := (R7.out.cell 5).trans rfl
  have p6 : w7.cell? ⟨w.heap.size, 6, none⟩ = some (.bool ra) := (R7.out.cell 6).trans rfl
  have p7 : w7.cell? ⟨w.heap.size, 7, none⟩ = some (.bool ad) := (R7.out.cell 7).trans rfl
  have p8 : w7.cell? ⟨w.heap.size, 8, none⟩ = some (.bool cd) := (R7.out.cell 8).trans rfl
  have p9 : w7.cell? ⟨w.heap.size, 9, none⟩ = some (.int .i64 rc) := (R7.out.cell 9).trans rfl
  have p10 : w7.cell? ⟨w.heap.size, 10, none⟩ = some (.slice bq QS.length cq) := (R7.out.cell 10).trans rfl
  have p11 : w7.cell? ⟨w.heap.size, 11, none⟩ = some (.slice b1 Q1.length c1) := (R7.out.cell 11).trans rfl
  have p12 : w7.cell? ⟨w.heap.size, 12, none⟩ = some (.slice b2 Q2.length c2) := (R7.out.cell 12).trans rfl
  have p13 : w7.cell? ⟨w.heap.size, 13, none⟩ = some (.slice b3 z3 c3) := (R7.out.cell 13).trans rfl
  have hof := Lib.hid (of_any rM7.out.a3 hU0.out (.int .u16 id) (.bool rs) (.int .i64 op) (.bool aa) (.bool tc) (.bool rd) (.bool ra) (.bool ad) (.bool cd) (.int .i64 rc) (.slice bq QS.length cq) (.slice b1 Q1.length c1) (.slice b2 Q2.length c2))
  go_wp2_with fail
  refine hof.out.mono ?_
  rintro e w8 ⟨⟨u, rfl, hu⟩, hb⟩
  obtain ⟨u1, u2, rfl⟩ := hu.shape
  clear p0 p1 p2 p3 p4 p5 p6 p7 p8 p9 p10 p11 p12 p13
  have K_5 := Lib.hid (K7.out.trans ((hb).mono K7.out.size))
  have BM_5 := Lib.hid (R7.out.below hb R7.out.lt)
  have BE_5 := Lib.hid (BE7.out.below hb BE7.out.lt)
  have E_5 := Lib.hid (E7.out.ext hb)
  have M_5 := Lib.hid (rM7.out.ext hb)
  clear K7 R7 BE7 E7 rM7
  clear hu hb hof
  unfold eV
  obtain ⟨W9, hW9⟩ : ∃ W, w8.alloc (.cells #[.int .i64 0, .int .i64 0, .int .i64 0, .bool false, .slice none 0 0] 24) = W := ⟨_, rfl⟩
  have N9 : Hid (Blk W9 w8.heap.size 24 (0, 0) [.int .i64 0, .int .i64 0, .int .i64 0, .bool false, .slice none 0 0]) := Lib.hid (by rw [← hW9]; exact Blk.new w8 24 (0, 0) #[.int .i64 0, .int .i64 0, .int .i64 0, .bool false, .slice none 0 0])
  have n9 : Hid (Below w8.heap.size w8 W9) := Lib.hid (by rw [← hW9]; exact alloc_bel _ _)
  go_upto_region 6 with (refine store_whole rfl 24 (.tmp 8) (.tmp 35) rfl rfl rfl N9.out (by rfl) (by kernel_rfl) (by first | kernel_rfl | rfl) ?_; intro w10 hBx hgx hzx; have R9 := Lib.hid hBx; have g9 := Lib.hid hgx; clear hBx hgx hzx)
  try rw [hW9]
  clear hW9
  have s9 := Lib.hid (fresh_store n9.out g9.out)
  have K_6 := Lib.hid (K_5.out.trans ((s9.out).mono K_5.out.size))
  have BM_6 := Lib.hid (BM_5.out.below s9.out BM_5.out.lt)
  have BE_6 := Lib.hid (BE_5.out.below s9.out BE_5.out.lt)
  have E_6 := Lib.hid (E_5.out.ext s9.out)
  have M_6 := Lib.hid (M_5.out.ext s9.out)
  clear K_5 BM_5 BE_5 E_5 M_5
  have l9 : Hid (w8.heap.size < w10.heap.size) := Lib.hid R9.out.lt
  clear N9 n9 g9 s9
  clear R9
  have hlt3 : Hid (idxF B3 0 < 0) := Lib.hid (by rw [idxF_no no3.out]; decide)
  have p0 : w10.cell? ⟨w.heap.size, 0, none⟩ = some (.int .u16 id) := (BM_6.out.cell 0).trans rfl
  have p1 : w10.cell? ⟨w.heap.size, 1, none⟩ = some (.bool rs) := (BM_6.out.cell 1).trans rfl
  have p2 : w10.cell? ⟨w.heap.size, 2, none⟩ = some (.int .i64 op) := (BM_6.out.cell 2).trans rfl
  have p3 : w10.cell? ⟨w.heap.size, 3, none⟩ = some (.bool aa) := (BM_6.out.cell 3).trans rfl
  have p4 : w10.cell? ⟨w.heap.size, 4, none⟩ = some (.bool tc) := (BM_6.out.cell 4).trans rfl
  have p5 : w10.cell? ⟨w.heap.size, 5, none⟩ = some (.bool rd) := (BM_6.out.cell 5).trans rfl
  have p6 : w10.cell? ⟨w.heap.size, 6, none⟩ = some (.bool ra) := (BM_6.out.cell 6).trans rfl
  have p7 : w10.cell? ⟨w.heap.size, 7, none⟩ = some (.bool ad) := (BM_6.out.cell 7).trans rfl
  have p8 : w10.cell? ⟨w.heap.size, 8, none⟩ = some (.bool cd) := (BM_6.out.cell 8).trans rfl
  have p9 : w10.cell? ⟨w.heap.size, 9, none⟩ = some (.int .i64 rc) := (BM_6.out.cell 9).trans rfl
  have p10 : w10.cell? ⟨w.heap.size, 10, none⟩ = some (.slice bq QS.length cq) := (BM_6.out.cell 10).trans rfl
  have p11 : w10.cell? ⟨w.heap.size, 11, none⟩ = some (.slice b1 Q1.length c1) := (BM_6.out.cell 11).trans rfl
  have p12 : w10.cell? ⟨w.heap.size, 12, none⟩ = some (.slice b2 Q2.length c2) := (BM_6.out.cell 12).trans rfl
  have p13 : w10.cell? ⟨w.heap.size, 13, none⟩ = some (.slice b3 z3 c3) := (BM_6.out.cell 13).trans rfl
  have q0 : w10.cell? ⟨W1.heap.size, 0, none⟩ = some (.int .i64 sz) := (BE_6.out.cell 0).trans rfl
  have q1 : w10.cell? ⟨W1.heap.size, 1, none⟩ = some (.int .i64 hi) := (BE_6.out.cell 1).trans rfl
  have q2 : w10.cell? ⟨W1.heap.size, 2, none⟩ = some (.int .i64 ver) := (BE_6.out.cell 2).trans rfl
  have q3 : w10.cell? ⟨W1.heap.size, 3, none⟩ = some (.bool d) := (BE_6.out.cell 3).trans rfl
  have q4 : w10.cell? ⟨W1.heap.size, 4, none⟩ = some (.slice a n c) := (BE_6.out.cell 4).trans rfl
  by_cases hgood : (mayB sz hi ver = true ∧ (rawB O).length ≤ 65535)
  · skip
    have hw := Lib.hid (with_good M_6.out (.int .u16 id) (.bool rs) (.int .i64 op) (.bool aa) (.bool tc) (.bool rd) (.bool ra) (.bool ad) (.bool cd) (.int .i64 rc) rfl hlt3.out E_6.out hs'.out hC'.out sz hi ver d hgood)
    have hgood' := Lib.hid hgood
    clear hgood
    go_wp2_with fail
    refine hw.out.mono ?_
    rintro e w11 ⟨⟨vq, v1, v2, v3, rfl, om⟩, hb⟩
    clear p0 p1 p2 p3 p4 p5 p6 p7 p8 p9 p10 p11 p12 p13 q0 q1 q2 q3 q4
    have K_7 := Lib.hid (K_6.out.trans ((hb).mono K_6.out.size))
    have BM_7 := Lib.hid (BM_6.out.below hb BM_6.out.lt)
    have BE_7 := Lib.hid (BE_6.out.below hb BE_6.out.lt)
    have E_7 := Lib.hid (E_6.out.ext hb)
    have M_7 := Lib.hid (M_6.out.ext hb)
    clear K_6 BM_6 BE_6 E_6 M_6
    have hF : FitRs (B3 ++ [optRD sz.toNat (ttlN hi.toNat ver.toNat d) (rawB O).length]) (zL Q3 L3 ++ [optRL (rawB O)]) := fit_snoc M_7.out.a3.fit (by have := lB3.out; have := len3.out; omega) hgood'.out
    obtain ⟨bqw, cqw, qW, rfl, rQ, eQ⟩ := om.q.rdQs M_7.out.q.fit
    obtain ⟨b1w, c1w, A1, rfl, rA1, eA1⟩ := om.a1.rdRs M_7.out.a1.fit
    obtain ⟨b2w, c2w, A2, rfl, rA2, eA2⟩ := om.a2.rdRs M_7.out.a2.fit
    obtain ⟨b3w, c3w, A3, rfl, rA3, eA3⟩ := om.a3.rdRs hF
    have eW := Lib.hid (And.intro eQ (And.intro eA1 (And.intro eA2 eA3)))
    obtain ⟨zw, hzw⟩ : ∃ z, (B3 ++ [optRD sz.toNat (ttlN hi.toNat ver.toNat d) (rawB O).length]).length = z := ⟨_, rfl⟩
    rw [hzw] at rA3
    simp only [hzw]
    have hzw := Lib.hid hzw
    have rW : Hid (RdM w11 bqw qB.length cqw qW NS b1w B1.length c1w A1 L1 b2w B2.length c2w A2 L2 b3w zw c3w A3 (zL Q3 L3 ++ [optRL (rawB O)])) := Lib.hid ⟨rQ, rA1, rA2, rA3⟩
    clear rQ rA1 rA2 rA3 eQ eA1 eA2 eA3 hF om hb hw
    obtain ⟨W12, hW12⟩ : ∃ W, w11.alloc (.cells #[.int .u16 0, .bool false, .int .i64 0, .bool false, .bool false, .bool false, .bool false, .bool false, .bool false, .int .i64 0, .slice none 0 0, .slice none 0 0, .slice none 0 0, .slice none 0 0] 60) = W := ⟨_, rfl⟩
    have N12 : Hid (Blk W12 w11.heap.size 60 (0, 0) [.int .u16 0, .bool false, .int .i64 0, .bool false, .bool false, .bool false, .bool false, .bool false, .bool false, .int .i64 0, .slice none 0 0, .slice none 0 0, .slice none 0 0, .slice none 0 0]) := Lib.hid (by rw [← hW12]; exact Blk.new w11 60 (0, 0) #[.int .u16 0, .bool false, .int .i64 0, .bool false, .bool false, .bool false, .bool false, .bool false, .bool false, .int .i64 0, .slice none 0 0, .slice none 0 0, .slice none 0 0, .slice none 0 0])
    have n12 : Hid (Below w11.heap.size w11 W12) := Lib.hid (by rw [← hW12]; exact alloc_bel _ _)
    go_upto_region 11 with (refine store_whole rfl 60 (.tmp 11) (.tmp 42) rfl rfl rfl N12.out (by rfl) (by kernel_rfl) (by first | kernel_rfl | rfl) ?_; intro w13 hBx hgx hzx; have R12 := Lib.hid hBx; have g12 := Lib.hid hgx; clear hBx hgx hzx)
    try rw [hW12]
    clear hW12
    have s12 := Lib.hid (fresh_store n12.out g12.out)
    have K_8 := Lib.hid (K_7.out.trans ((s12.out).mono K_7.out.size))
    have BM_8 := Lib.hid (BM_7.out.below s12.out BM_7.out.lt)
    have BE_8 := Lib.hid (BE_7.out.below s12.out BE_7.out.lt)
    have E_8 := Lib.hid (E_7.out.ext s12.out)
    have M_8 := Lib.hid (M_7.out.ext s12.out)
    have W_8 := Lib.hid (rW.out.ext s12.out)
    clear K_7 BM_7 BE_7 E_7 M_7 rW
    have l12 : Hid (w11.heap.size < w13.heap.size) := Lib.hid R12.out.lt
    clear N12 n12 g12 s12
    have hU1 : Hid (OfU A3 (zL Q3 L3 ++ [optRL (rawB O)]) sz hi ver d O true 0) := Lib.hid (ofU_with W_8.out.a3 no3.out M_8.out.a3.2.1 eW.out.2.2.2 hgood'.out hC'.out)
    have hzf : Hid ((zQ A3 (zL Q3 L3 ++ [optRL (rawB O)])).map metaR = B3.map metaR ∧ zL A3 (zL Q3 L3 ++ [optRL (rawB O)]) = zL Q3 L3 ∧ idxF A3 0 = B3.length) := Lib.hid (zf_with no3.out M_8.out.a3.2.1 eW.out.2.2.2)
    have p0 : w13.cell? ⟨w11.heap.size, 0, none⟩ = some (.int .u16 id) := (R12.out.cell 0).trans rfl
    have p1 : w13.cell? ⟨w11.heap.size, 1, none⟩ = some (.bool rs) := (R12.out.cell 1).trans rfl
    have p2 : w13.cell? ⟨w11.heap.size, 2, none⟩ = some (.int .i64 op) := (R12.out.cell 2).trans rfl
    have p3 : w13.cell? ⟨w11.heap.size, 3, none⟩ = some (.bool aa) := (R12.out.cell 3).trans rfl
    have p4 : w13.cell? ⟨w11.heap.size, 4, none⟩ = some (.bool tc) := (R12.out.cell 4).trans rfl
    have p5 : w13.cell? ⟨w11.heap.size, 5, none⟩ = some (.bool rd) := (R12.out.cell 5).trans rfl
    have p6 : w13.cell? ⟨w11.heap.size, 6, none⟩ = some (.bool ra) := (R12.out.cell 6).trans rfl
    have p7 : w13.cell? ⟨w11.heap.size, 7, none⟩ = some (.bool ad) := (R12.out.cell 7).trans rfl
    have p8 : w13.cell? ⟨w11.heap.size, 8, none⟩ = some (.bool cd) := (R12.out.cell 8).trans rfl
    have p9 : w13.cell? ⟨w11.heap.size, 9, none⟩ = some (.int .i64 rc) := (R12.out.cell 9).trans rfl
    have p10 : w13.cell? ⟨w11.heap.size, 10, none⟩ = some (.slice bqw qB.length cqw) := (R12.out.cell 10).trans rfl
    have p11 : w13.cell? ⟨w11.heap.size, 11, none⟩ = some (.slice b1w B1.length c1w) := (R12.out.cell 11).trans rfl
    have p12 : w13.cell? ⟨w11.heap.size, 12, none⟩ = some (.slice b2w B2.length c2w) := (R12.out.cell 12).trans rfl
    have p13 : w13.cell? ⟨w11.heap.size, 13, none⟩ = some (.slice b3w zw c3w) := (R12.out.cell 13).trans rfl
    have hof := Lib.hid (of_any W_8.out.a3 hU1.out (.int .u16 id) (.bool rs) (.int .i64 op) (.bool aa) (.bool tc) (.bool rd) (.bool ra) (.bool ad) (.bool cd) (.int .i64 rc) (.slice bqw qB.length cqw) (.slice b1w B1.length c1w) (.slice b2w B2.length c2w))
    go_wp2_with fail
    refine hof.out.mono ?_
    rintro e w14 ⟨⟨u, rfl, hu⟩, hb⟩
    obtain ⟨xa, xc, rfl, hX⟩ := hu.rdO
    have hX4 := Lib.hid hX
    clear p0 p1 p2 p3 p4 p5 p6 p7 p8 p9 p10 p11 p12 p13
    have K_9 := Lib.hid (K_8.out.trans ((hb).mono K_8.out.size))
    have BM_9 := Lib.hid (BM_8.out.below hb BM_8.out.lt)
    have BE_9 := Lib.hid (BE_8.out.below hb BE_8.out.lt)
    have E_9 := Lib.hid (E_8.out.ext hb)
    have M_9 := Lib.hid (M_8.out.ext hb)
    have W_9 := Lib.hid (W_8.out.ext hb)
    have BW_9 := Lib.hid (R12.out.below hb R12.out.lt)
    clear K_8 BM_8 BE_8 E_8 M_8 W_8 R12
    clear hu hX hb hof
    unfold eV
    obtain ⟨xn, hxn⟩ : ∃ x, O.length = x := ⟨_, rfl⟩
    rw [hxn] at hX4
    simp only [hxn]
    clear hxn
    obtain ⟨W15, hW15⟩ : ∃ W, w14.alloc (.cells #[.int .i64 0, .int .i64 0, .int .i64 0, .bool false, .slice none 0 0] 24) = W := ⟨_, rfl⟩
    have N15 : Hid (Blk W15 w14.heap.size 24 (0, 0) [.int .i64 0, .int .i64 0, .int .i64 0, .bool false, .slice none 0 0]) := Lib.hid (by rw [← hW15]; exact Blk.new w14 24 (0, 0) #[.int .i64 0, .int .i64 0, .int .i64 0, .bool false, .slice none 0 0])
    have n15 : Hid (Below w14.heap.size w14 W15) := Lib.hid (by rw [← hW15]; exact alloc_bel _ _)
    go_upto_region 12 with (refine store_whole rfl 24 (.tmp 13) (.tmp 59) rfl rfl rfl N15.out (by rfl) (by kernel_rfl) (by first | kernel_rfl | rfl) ?_; intro w16 hBx hgx hzx; have R15 := Lib.hid hBx; have g15 := Lib.hid hgx; clear hBx hgx hzx)
    try rw [hW15]
    clear hW15
    have s15 := Lib.hid (fresh_store n15.out g15.out)
    have K_10 := Lib.hid (K_9.out.trans ((s15.out).mono K_9.out.size))
    have BM_10 := Lib.hid (BM_9.out.below s15.out BM_9.out.lt)
    have BE_10 := Lib.hid (BE_9.out.below s15.out BE_9.out.lt)
    have E_10 := Lib.hid (E_9.out.ext s15.out)
    have M_10 := Lib.hid (M_9.out.ext s15.out)
    have W_10 := Lib.hid (W_9.out.ext s15.out)
    have BW_10 := Lib.hid (BW_9.out.below s15.out BW_9.out.lt)
    have X_10 := Lib.hid (hX4.out.ext s15.out)
    clear K_9 BM_9 BE_9 E_9 M_9 W_9 BW_9 hX4
    have l15 : Hid (w14.heap.size < w16.heap.size) := Lib.hid R15.out.lt
    clear N15 n15 g15 s15
    have p0 : w16.cell? ⟨w11.heap.size, 0, none⟩ = some (.int .u16 id) := (BW_10.out.cell 0).trans rfl
    have p1 : w16.cell? ⟨w11.heap.size, 1, none⟩ = some (.bool rs) := (BW_10.out.cell 1).trans rfl
    have p2 : w16.cell? ⟨w11.heap.size, 2, none⟩ = some (.int .i64 op) := (BW_10.out.cell 2).trans rfl
    have p3 : w16.cell? ⟨w11.heap.size, 3, none⟩ = some (.bool aa) := (BW_10.out.cell 3).trans rfl
    have p4 : w16.cell? ⟨w11.heap.size, 4, none⟩ = some (.bool tc) := (BW_10.out.cell 4).trans rfl
    have p5 : w16.cell? ⟨w11.heap.size, 5, none⟩ = some (.bool rd) := (BW_10.out.cell 5).trans rfl
    have p6 : w16.cell? ⟨w11.heap.size, 6, none⟩ = some (.bool ra) := (BW_10.out.cell 6).trans rfl
    have p7 : w16.cell? ⟨w11.heap.size, 7, none⟩ = some (.bool ad) := (BW_10.out.cell 7).trans rfl
    have p8 : w16.cell? ⟨w11.heap.size, 8, none⟩ = some (.bool cd) := (BW_10.out.cell 8).trans rfl
    have p9 : w16.cell? ⟨w11.heap.size, 9, none⟩ = some (.int .i64 rc) := (BW_10.out.cell 9).trans rfl
    have p10 : w16.cell? ⟨w11.heap.size, 10, none⟩ = some (.slice bqw qB.length cqw) := (BW_10.out.cell 10).trans rfl
    have p11 : w16.cell? ⟨w11.heap.size, 11, none⟩ = some (.slice b1w B1.length c1w) := (BW_10.out.cell 11).trans rfl
    have p12 : w16.cell? ⟨w11.heap.size, 12, none⟩ = some (.slice b2w B2.length c2w) := (BW_10.out.cell 12).trans rfl
    have p13 : w16.cell? ⟨w11.heap.size, 13, none⟩ = some (.slice b3w zw c3w) := (BW_10.out.cell 13).trans rfl
    have q0 : w16.cell? ⟨W1.heap.size, 0, none⟩ = some (.int .i64 sz) := (BE_10.out.cell 0).trans rfl
    have q1 : w16.cell? ⟨W1.heap.size, 1, none⟩ = some (.int .i64 hi) := (BE_10.out.cell 1).trans rfl
    have q2 : w16.cell? ⟨W1.heap.size, 2, none⟩ = some (.int .i64 ver) := (BE_10.out.cell 2).trans rfl
    have q3 : w16.cell? ⟨W1.heap.size, 3, none⟩ = some (.bool d) := (BE_10.out.cell 3).trans rfl
    have q4 : w16.cell? ⟨W1.heap.size, 4, none⟩ = some (.slice a n c) := (BE_10.out.cell 4).trans rfl
    have hth := Lib.hid (with_there W_10.out.a3 (by rw [hzf.out.2.2]; omega) (.int .u16 id) (.bool rs) (.int .i64 op) (.bool aa) (.bool tc) (.bool rd) (.bool ra) (.bool ad) (.bool cd) (.int .i64 rc) (.slice bqw qB.length cqw) (.slice b1w B1.length c1w) (.slice b2w B2.length c2w) sz hi ver d a n c)
    go_wp2_with fail
    refine hth.out.mono ?_
    rintro e w17 ⟨rfl, hb⟩
    clear p0 p1 p2 p3 p4 p5 p6 p7 p8 p9 p10 p11 p12 p13 q0 q1 q2 q3 q4
    have K_11 := Lib.hid (K_10.out.trans ((hb).mono K_10.out.size))
    have BM_11 := Lib.hid (BM_10.out.below hb BM_10.out.lt)
    have BE_11 := Lib.hid (BE_10.out.below hb BE_10.out.lt)
    have E_11 := Lib.hid (E_10.out.ext hb)
    have M_11 := Lib.hid (M_10.out.ext hb)
    have W_11 := Lib.hid (W_10.out.ext hb)
    have BW_11 := Lib.hid (BW_10.out.below hb BW_10.out.lt)
    have X_11 := Lib.hid (X_10.out.ext hb)
    have BX_11 := Lib.hid (R15.out.below hb R15.out.lt)
    clear K_10 BM_10 BE_10 E_10 M_10 W_10 BW_10 X_10 R15
    clear hb hth
    obtain ⟨W18, hW18⟩ : ∃ W, w17.alloc (.cells #[.int .u16 0, .bool false, .int .i64 0, .bool false, .bool false, .bool false, .bool false, .bool false, .bool false, .int .i64 0, .slice none 0 0, .slice none 0 0, .slice none 0 0, .slice none 0 0] 60) = W := ⟨_, rfl⟩
    have N18 : Hid (Blk W18 w17.heap.size 60 (0, 0) [.int .u16 0, .bool false, .int .i64 0, .bool false, .bool false, .bool false, .bool false, .bool false, .bool false, .int .i64 0, .slice none 0 0, .slice none 0 0, .slice none 0 0, .slice none 0 0]) := Lib.hid (by rw [← hW18]; exact Blk.new w17 60 (0, 0) #[.int .u16 0, .bool false, .int .i64 0, .bool false, .bool false, .bool false, .bool false, .bool false, .bool false, .int .i64 0, .slice none 0 0, .slice none 0 0, .slice none 0 0, .slice none 0 0])
    have n18 : Hid (Below w17.heap.size w17 W18) := Lib.hid (by rw [← hW18]; exact alloc_bel _ _)
    go_upto_region 13 with (refine store_whole rfl 60 (.tmp 16) (.tmp 66) rfl rfl rfl N18.out (by rfl) (by kernel_rfl) (by kernel_rfl) ?_; intro w19 hBx hgx hzx; have R18 := Lib.hid hBx; have g18 := Lib.hid hgx; clear hBx hgx hzx)
    try rw [hW18]
    clear hW18
    have s18 := Lib.hid (fresh_store n18.out g18.out)
    have K_12 := Lib.hid (K_11.out.trans ((s18.out).mono K_11.out.size))
    have BM_12 := Lib.hid (BM_11.out.below s18.out BM_11.out.lt)
    have BE_12 := Lib.hid (BE_11.out.below s18.out BE_11.out.lt)
    have E_12 := Lib.hid (E_11.out.ext s18.out)
    have M_12 := Lib.hid (M_11.out.ext s18.out)
    have W_12 := Lib.hid (W_11.out.ext s18.out)
    have BW_12 := Lib.hid (BW_11.out.below s18.out BW_11.out.lt)
    have X_12 := Lib.hid (X_11.out.ext s18.out)
    have BX_12 := Lib.hid (BX_11.out.below s18.out BX_11.out.lt)
    clear K_11 BM_11 BE_11 E_11 M_11 W_11 BW_11 X_11 BX_11
    have l18 : Hid (w17.heap.size < w19.heap.size) := Lib.hid R18.out.lt
    clear N18 n18 g18 s18
    clear R18
    have hP := Lib.hid (size_says own sz)
    have p0 : w19.cell? ⟨w11.heap.size, 0, none⟩ = some (.int .u16 id) := (BW_12.out.cell 0).trans rfl
    have p1 : w19.cell? ⟨w11.heap.size, 1, none⟩ = some (.bool rs) := (BW_12.out.cell 1).trans rfl
    have p2 : w19.cell? ⟨w11.heap.size, 2, none⟩ = some (.int .i64 op) := (BW_12.out.cell 2).trans rfl
    have p3 : w19.cell? ⟨w11.heap.size, 3, none⟩ = some (.bool aa) := (BW_12.out.cell 3).trans rfl
    have p4 : w19.cell? ⟨w11.heap.size, 4, none⟩ = some (.bool tc) := (BW_12.out.cell 4).trans rfl
    have p5 : w19.cell? ⟨w11.heap.size, 5, none⟩ = some (.bool rd) := (BW_12.out.cell 5).trans rfl
    have p6 : w19.cell? ⟨w11.heap.size, 6, none⟩ = some (.bool ra) := (BW_12.out.cell 6).trans rfl
    have p7 : w19.cell? ⟨w11.heap.size, 7, none⟩ = some (.bool ad) := (BW_12.out.cell 7).trans rfl
    have p8 : w19.cell? ⟨w11.heap.size, 8, none⟩ = some (.bool cd) := (BW_12.out.cell 8).trans rfl
    have p9 : w19.cell? ⟨w11.heap.size, 9, none⟩ = some (.int .i64 rc) := (BW_12.out.cell 9).trans rfl
    have p10 : w19.cell? ⟨w11.heap.size, 10, none⟩ = some (.slice bqw qB.length cqw) := (BW_12.out.cell 10).trans rfl
    have p11 : w19.cell? ⟨w11.heap.size, 11, none⟩ = some (.slice b1w B1.length c1w) := (BW_12.out.cell 11).trans rfl
    have p12 : w19.cell? ⟨w11.heap.size, 12, none⟩ = some (.slice b2w B2.length c2w) := (BW_12.out.cell 12).trans rfl
    have p13 : w19.cell? ⟨w11.heap.size, 13, none⟩ = some (.slice b3w zw c3w) := (BW_12.out.cell 13).trans rfl
    have hsz := Lib.hid (size_all W_12.out.a3 hU1.out own (.int .u16 id) (.bool rs) (.int .i64 op) (.bool aa) (.bool tc) (.bool rd) (.bool ra) (.bool ad) (.bool cd) (.int .i64 rc) (.slice bqw qB.length cqw) (.slice b1w B1.length c1w) (.slice b2w B2.length c2w))
    go_wp2_with fail
    refine hsz.out.mono ?_
    rintro e w20 ⟨rfl, hb⟩
    clear p0 p1 p2 p3 p4 p5 p6 p7 p8 p9 p10 p11 p12 p13
    have K_13 := Lib.hid (K_12.out.trans ((hb).mono K_12.out.size))
    have BM_13 := Lib.hid (BM_12.out.below hb BM_12.out.lt)
    have BE_13 := Lib.hid (BE_12.out.below hb BE_12.out.lt)
    have E_13 := Lib.hid (E_12.out.ext hb)
    have M_13 := Lib.hid (M_12.out.ext hb)
    have W_13 := Lib.hid (W_12.out.ext hb)
    have BW_13 := Lib.hid (BW_12.out.below hb BW_12.out.lt)
    have X_13 := Lib.hid (X_12.out.ext hb)
    have BX_13 := Lib.hid (BX_12.out.below hb BX_12.out.lt)
    clear K_12 BM_12 BE_12 E_12 M_12 W_12 BW_12 X_12 BX_12
    clear hb hsz
    have p0 : w20.cell? ⟨w.heap.size, 0, none⟩ = some (.int .u16 id) := (BM_13.out.cell 0).trans rfl
    have p1 : w20.cell? ⟨w.heap.size, 1, none⟩ = some (.bool rs) := (BM_13.out.cell 1).trans rfl
    have p2 : w20.cell? ⟨w.heap.size, 2, none⟩ = some (.int .i64 op) := (BM_13.out.cell 2).trans rfl
    have p3 : w20.cell? ⟨w.heap.size, 3, none⟩ = some (.bool aa) := (BM_13.out.cell 3).trans rfl
    have p4 : w20.cell? ⟨w.heap.size, 4, none⟩ = some (.bool tc) := (BM_13.out.cell 4).trans rfl
    have p5 : w20.cell? ⟨w.heap.size, 5, none⟩ = some (.bool rd) := (BM_13.out.cell 5).trans rfl
    have p6 : w20.cell? ⟨w.heap.size, 6, none⟩ = some (.bool ra) := (BM_13.out.cell 6).trans rfl
    have p7 : w20.cell? ⟨w.heap.size, 7, none⟩ = some (.bool ad) := (BM_13.out.cell 7).trans rfl
    have p8 : w20.cell? ⟨w.heap.size, 8, none⟩ = some (.bool cd) := (BM_13.out.cell 8).trans rfl
    have p9 : w20.cell? ⟨w.heap.size, 9, none⟩ = some (.int .i64 rc) := (BM_13.out.cell 9).trans rfl
    have p10 : w20.cell? ⟨w.heap.size, 10, none⟩ = some (.slice bq QS.length cq) := (BM_13.out.cell 10).trans rfl
    have p11 : w20.cell? ⟨w.heap.size, 11, none⟩ = some (.slice b1 Q1.length c1) := (BM_13.out.cell 11).trans rfl
    have p12 : w20.cell? ⟨w.heap.size, 12, none⟩ = some (.slice b2 Q2.length c2) := (BM_13.out.cell 12).trans rfl
    have p13 : w20.cell? ⟨w.heap.size, 13, none⟩ = some (.slice b3 z3 c3) := (BM_13.out.cell 13).trans rfl
    have hsz := Lib.hid (size_all M_13.out.a3 hU0.out own (.int .u16 id) (.bool rs) (.int .i64 op) (.bool aa) (.bool tc) (.bool rd) (.bool ra) (.bool ad) (.bool cd) (.int .i64 rc) (.slice bq QS.length cq) (.slice b1 Q1.length c1) (.slice b2 Q2.length c2))
    go_wp2_with fail
    refine hsz.out.mono ?_
    rintro e w21 ⟨rfl, hb⟩
    clear p0 p1 p2 p3 p4 p5 p6 p7 p8 p9 p10 p11 p12 p13
    have K_14 := Lib.hid (K_13.out.trans ((hb).mono K_13.out.size))
    have BM_14 := Lib.hid (BM_13.out.below hb BM_13.out.lt)
    have BE_14 := Lib.hid (BE_13.out.below hb BE_13.out.lt)
    have E_14 := Lib.hid (E_13.out.ext hb)
    have M_14 := Lib.hid (M_13.out.ext hb)
    have W_14 := Lib.hid (W_13.out.ext hb)
    have BW_14 := Lib.hid (BW_13.out.below hb BW_13.out.lt)
    have X_14 := Lib.hid (X_13.out.ext hb)
    have BX_14 := Lib.hid (BX_13.out.below hb BX_13.out.lt)
    clear K_13 BM_13 BE_13 E_13 M_13 W_13 BW_13 X_13 BX_13
    clear hb hsz
    generalize szE own = eN at *
    generalize szN own sz true 0 = nN at *
    generalize szN own 0 false 0 = kN at *
    have x0 : w21.cell? ⟨w14.heap.size, 0, none⟩ = some (.int .i64 sz) := (BX_14.out.cell 0).trans rfl
    have x1 : w21.cell? ⟨w14.heap.size, 1, none⟩ = some (.int .i64 hi) := (BX_14.out.cell 1).trans rfl
    have x2 : w21.cell? ⟨w14.heap.size, 2, none⟩ = some (.int .i64 ver) := (BX_14.out.cell 2).trans rfl
    have x3 : w21.cell? ⟨w14.heap.size, 3, none⟩ = some (.bool d) := (BX_14.out.cell 3).trans rfl
    have x4 : w21.cell? ⟨w14.heap.size, 4, none⟩ = some (.slice xa xn xc) := (BX_14.out.cell 4).trans rfl
    have q0 : w21.cell? ⟨W1.heap.size, 0, none⟩ = some (.int .i64 sz) := (BE_14.out.cell 0).trans rfl
    have q1 : w21.cell? ⟨W1.heap.size, 1, none⟩ = some (.int .i64 hi) := (BE_14.out.cell 1).trans rfl
    have q2 : w21.cell? ⟨W1.heap.size, 2, none⟩ = some (.int .i64 ver) := (BE_14.out.cell 2).trans rfl
    have q3 : w21.cell? ⟨W1.heap.size, 3, none⟩ = some (.bool d) := (BE_14.out.cell 3).trans rfl
    have q4 : w21.cell? ⟨W1.heap.size, 4, none⟩ = some (.slice a n c) := (BE_14.out.cell 4).trans rfl
    have v0 : w21.cell? ⟨w11.heap.size, 0, none⟩ = some (.int .u16 id) := (BW_14.out.cell 0).trans rfl
    have v1 : w21.cell? ⟨w11.heap.size, 1, none⟩ = some (.bool rs) := (BW_14.out.cell 1).trans rfl
    have v2 : w21.cell? ⟨w11.heap.size, 2, none⟩ = some (.int .i64 op) := (BW_14.out.cell 2).trans rfl
    have v3 : w21.cell? ⟨w11.heap.size, 3, none⟩ = some (.bool aa) := (BW_14.out.cell 3).trans rfl
    have v4 : w21.cell? ⟨w11.heap.size, 4, none⟩ = some (.bool tc) := (BW_14.out.cell 4).trans rfl
    have v5 : w21.cell? ⟨w11.heap.size, 5, none⟩ = some (.bool rd) := (BW_14.out.cell 5).trans rfl
    have v6 : w21.cell? ⟨w11.heap.size, 6, none⟩ = some (.bool ra) := (BW_14.out.cell 6).trans rfl
    have v7 : w21.cell? ⟨w11.heap.size, 7, none⟩ = some (.bool ad) := (BW_14.out.cell 7).trans rfl
    have v8 : w21.cell? ⟨w11.heap.size, 8, none⟩ = some (.bool cd) := (BW_14.out.cell 8).trans rfl
    have v9 : w21.cell? ⟨w11.heap.size, 9, none⟩ = some (.int .i64 rc) := (BW_14.out.cell 9).trans rfl
    have v10 : w21.cell? ⟨w11.heap.size, 10, none⟩ = some (.slice bqw qB.length cqw) := (BW_14.out.cell 10).trans rfl
    have v11 : w21.cell? ⟨w11.heap.size, 11, none⟩ = some (.slice b1w B1.length c1w) := (BW_14.out.cell 11).trans rfl
    have v12 : w21.cell? ⟨w11.heap.size, 12, none⟩ = some (.slice b2w B2.length c2w) := (BW_14.out.cell 12).trans rfl
    have v13 : w21.cell? ⟨w11.heap.size, 13, none⟩ = some (.slice b3w zw c3w) := (BW_14.out.cell 13).trans rfl
    have p0 : w21.cell? ⟨w.heap.size, 0, none⟩ = some (.int .u16 id) := (BM_14.out.cell 0).trans rfl
    have p1 : w21.cell? ⟨w.heap.size, 1, none⟩ = some (.bool rs) := (BM_14.out.cell 1).trans rfl
    have p2 : w21.cell? ⟨w.heap.size, 2, none⟩ = some (.int .i64 op) := (BM_14.out.cell 2).trans rfl
    have p3 : w21.cell? ⟨w.heap.size, 3, none⟩ = some (.bool aa) := (BM_14.out.cell 3).trans rfl
    have p4 : w21.cell? ⟨w.heap.size, 4, none⟩ = some (.bool tc) := (BM_14.out.cell 4).trans rfl
    have p5 : w21.cell? ⟨w.heap.size, 5, none⟩ = some (.bool rd) := (BM_14.out.cell 5).trans rfl
    have p6 : w21.cell? ⟨w.heap.size, 6, none⟩ = some (.bool ra) := (BM_14.out.cell 6).trans rfl
    have p7 : w21.cell? ⟨w.heap.size, 7, none⟩ = some (.bool ad) := (BM_14.out.cell 7).trans rfl
    have p8 : w21.cell? ⟨w.heap.size, 8, none⟩ = some (.bool cd) := (BM_14.out.cell 8).trans rfl
    have p9 : w21.cell? ⟨w.heap.size, 9, none⟩ = some (.int .i64 rc) := (BM_14.out.cell 9).trans rfl
    have p10 : w21.cell? ⟨w.heap.size, 10, none⟩ = some (.slice bq QS.length cq) := (BM_14.out.cell 10).trans rfl
    have p11 : w21.cell? ⟨w.heap.size, 11, none⟩ = some (.slice b1 Q1.length c1) := (BM_14.out.cell 11).trans rfl
    have p12 : w21.cell? ⟨w.heap.size, 12, none⟩ = some (.slice b2 Q2.length c2) := (BM_14.out.cell 12).trans rfl
    have p13 : w21.cell? ⟨w.heap.size, 13, none⟩ = some (.slice b3 z3 c3) := (BM_14.out.cell 13).trans rfl
    have cs' : Hid (∀ wx, Below w21.heap.size w21 wx → wx.cell? ⟨w14.heap.size, 0, none⟩ = some (.int .i64 sz) ∧ wx.cell? ⟨w14.heap.size, 1, none⟩ = some (.int .i64 hi) ∧ wx.cell? ⟨w14.heap.size, 2, none⟩ = some (.int .i64 ver) ∧ wx.cell? ⟨w14.heap.size, 3, none⟩ = some (.bool d) ∧ wx.cell? ⟨w14.heap.size, 4, none⟩ = some (.slice xa xn xc) ∧ wx.cell? ⟨W1.heap.size, 0, none⟩ = some (.int .i64 sz) ∧ wx.cell? ⟨W1.heap.size, 1, none⟩ = some (.int .i64 hi) ∧ wx.cell? ⟨W1.heap.size, 2, none⟩ = some (.int .i64 ver) ∧ wx.cell? ⟨W1.heap.size, 3, none⟩ = some (.bool d) ∧ wx.cell? ⟨W1.heap.size, 4, none⟩ = some (.slice a n c) ∧ wx.cell? ⟨w11.heap.size, 0, none⟩ = some (.int .u16 id) ∧ wx.cell? ⟨w11.heap.size, 1, none⟩ = some (.bool rs) ∧ wx.cell? ⟨w11.heap.size, 2, none⟩ = some (.int .i64 op) ∧ wx.cell? ⟨w11.heap.size, 3, none⟩ = some (.bool aa) ∧ wx.cell? ⟨w11.heap.size, 4, none⟩ = some (.bool tc) ∧ wx.cell? ⟨w11.heap.size, 5, none⟩ = some (.bool rd) ∧ wx.cell? ⟨w11.heap.size, 6, none⟩ = some (.bool ra) ∧ wx.cell? ⟨w11.heap.size, 7, none⟩ = some (.bool ad) ∧ wx.cell? ⟨w11.heap.size, 8, none⟩ = some (.bool cd) ∧ wx.cell? ⟨w11.heap.size, 9, none⟩ = some (.int .i64 rc) ∧ wx.cell? ⟨w11.heap.size, 10, none⟩ = some (.slice bqw qB.length cqw) ∧ wx.cell? ⟨w11.heap.size, 11, none⟩ = some (.slice b1w B1.length c1w) ∧ wx.cell? ⟨w11.heap.size, 12, none⟩ = some (.slice b2w B2.length c2w) ∧ wx.cell? ⟨w11.heap.size, 13, none⟩ = some (.slice b3w zw c3w) ∧ wx.cell? ⟨w.heap.size, 0, none⟩ = some (.int .u16 id) ∧ wx.cell? ⟨w.heap.size, 1, none⟩ = some (.bool rs) ∧ wx.cell? ⟨w.heap.size, 2, none⟩ = some (.int .i64 op) ∧ wx.cell? ⟨w.heap.size, 3, none⟩ = some (.bool aa) ∧ wx.cell? ⟨w.heap.size, 4, none⟩ = some (.bool tc) ∧ wx.cell? ⟨w.heap.size, 5, none⟩ = some (.bool rd) ∧ wx.cell? ⟨w.heap.size, 6, none⟩ = some (.bool ra) ∧ wx.cell? ⟨w.heap.size, 7, none⟩ = some (.bool ad) ∧ wx.cell? ⟨w.heap.size, 8, none⟩ = some (.bool cd) ∧ wx.cell? ⟨w.heap.size, 9, none⟩ = some (.int .i64 rc) ∧ wx.cell? ⟨w.heap.size, 10, none⟩ = some (.slice bq QS.length cq) ∧ wx.cell? ⟨w.heap.size, 11, none⟩ = some (.slice b1 Q1.length c1) ∧ wx.cell? ⟨w.heap.size, 12, none⟩ = some (.slice b2 Q2.length c2) ∧ wx.cell? ⟨w.heap.size, 13, none⟩ = some (.slice b3 z3 c3)) := Lib.hid (fun wx hb => ⟨cell_old x0 hb, cell_old x1 hb, cell_old x2 hb, cell_old x3 hb, cell_old x4 hb, cell_old q0 hb, cell_old q1 hb, cell_old q2 hb, cell_old q3 hb, cell_old q4 hb, cell_old v0 hb, cell_old v1 hb, cell_old v2 hb, cell_old v3 hb, cell_old v4 hb, cell_old v5 hb, cell_old v6 hb, cell_old v7 hb, cell_old v8 hb, cell_old v9 hb, cell_old v10 hb, cell_old v11 hb, cell_old v12 hb, cell_old v13 hb, cell_old p0 hb, cell_old p1 hb, cell_old p2 hb, cell_old p3 hb, cell_old p4 hb, cell_old p5 hb, cell_old p6 hb, cell_old p7 hb, cell_old p8 hb, cell_old p9 hb, cell_old p10 hb, cell_old p11 hb, cell_old p12 hb, cell_old p13 hb⟩)
    clear x0 x1 x2 x3 x4 q0 q1 q2 q3 q4 v0 v1 v2 v3 v4 v5 v6 v7 v8 v9 v10 v11 v12 v13 p0 p1 p2 p3 p4 p5 p6 p7 p8 p9 p10 p11 p12 p13
    go_upto_region 15 with (fail)
    refine wp_region_noPanic ?_
    refine wp_region_held_drew (S := fun w' => w'.cell? ⟨w14.heap.size, 0, none⟩ = some (.int .i64 sz) ∧ w'.cell? ⟨w14.heap.size, 1, none⟩ = some (.int .i64 hi) ∧ w'.cell? ⟨w14.heap.size, 2, none⟩ = some (.int .i64 ver) ∧ w'.cell? ⟨w14.heap.size, 3, none⟩ = some (.bool d) ∧ w'.cell? ⟨w14.heap.size, 4, none⟩ = some (.slice xa xn xc) ∧ w'.cell? ⟨W1.heap.size, 0, none⟩ = some (.int .i64 sz) ∧ w'.cell? ⟨W1.heap.size, 1, none⟩ = some (.int .i64 hi) ∧ w'.cell? ⟨W1.heap.size, 2, none⟩ = some (.int .i64 ver) ∧ w'.cell? ⟨W1.heap.size, 3, none⟩ = some (.bool d) ∧ w'.cell? ⟨W1.heap.size, 4, none⟩ = some (.slice a n c) ∧ w'.cell? ⟨w11.heap.size, 0, none⟩ = some (.int .u16 id) ∧ w'.cell? ⟨w11.heap.size, 1, none⟩ = some (.bool rs) ∧ w'.cell? ⟨w11.heap.size, 2, none⟩ = some (.int .i64 op) ∧ w'.cell? ⟨w11.heap.size, 3, none⟩ = some (.bool aa) ∧ w'.cell? ⟨w11.heap.size, 4, none⟩ = some (.bool tc) ∧ w'.cell? ⟨w11.heap.size, 5, none⟩ = some (.bool rd) ∧ w'.cell? ⟨w11.heap.size, 6, none⟩ = some (.bool ra) ∧ w'.cell? ⟨w11.heap.size, 7, none⟩ = some (.bool ad) ∧ w'.cell? ⟨w11.heap.size, 8, none⟩ = some (.bool cd) ∧ w'.cell? ⟨w11.heap.size, 9, none⟩ = some (.int .i64 rc) ∧ w'.cell? ⟨w11.heap.size, 10, none⟩ = some (.slice bqw qB.length cqw) ∧ w'.cell? ⟨w11.heap.size, 11, none⟩ = some (.slice b1w B1.length c1w) ∧ w'.cell? ⟨w11.heap.size, 12, none⟩ = some (.slice b2w B2.length c2w) ∧ w'.cell? ⟨w11.heap.size, 13, none⟩ = some (.slice b3w zw c3w) ∧ w'.cell? ⟨w.heap.size, 0, none⟩ = some (.int .u16 id) ∧ w'.cell? ⟨w.heap.size, 1, none⟩ = some (.bool rs) ∧ w'.cell? ⟨w.heap.size, 2, none⟩ = some (.int .i64 op) ∧ w'.cell? ⟨w.heap.size, 3, none⟩ = some (.bool aa) ∧ w'.cell? ⟨w.heap.size, 4, none⟩ = some (.bool tc) ∧ w'.cell? ⟨w.heap.size, 5, none⟩ = some (.bool rd) ∧ w'.cell? ⟨w.heap.size, 6, none⟩ = some (.bool ra) ∧ w'.cell? ⟨w.heap.size, 7, none⟩ = some (.bool ad) ∧ w'.cell? ⟨w.heap.size, 8, none⟩ = some (.bool cd) ∧ w'.cell? ⟨w.heap.size, 9, none⟩ = some (.int .i64 rc) ∧ w'.cell? ⟨w.heap.size, 10, none⟩ = some (.slice bq QS.length cq) ∧ w'.cell? ⟨w.heap.size, 11, none⟩ = some (.slice b1 Q1.length c1) ∧ w'.cell? ⟨w.heap.size, 12, none⟩ = some (.slice b2 Q2.length c2) ∧ w'.cell? ⟨w.heap.size, 13, none⟩ = some (.slice b3 z3 c3)) (by kernel_rfl) (cs'.out _ (Below.refl _ _).drew) (fun hHeld => ?_)
    have k0 : Hid (Below w21.heap.size w21 w21.drew) := Lib.hid (Below.refl _ _).drew
    generalize w21.drew = U0 at *
    refine wpAnyH_take (i := 0) (oi := { dst := some 80, op := Op.move (Operand.tmp 14), type := 4, pos := _, after := #[], guard := none }) (v := ?_) rfl (by kernel_rfl) (by kernel_rfl) (by kernel_rfl) (fun _ _ _ h => h) (Or.inl ⟨by rfl, ?_⟩) (by assumption) ?_
    rotate_left
    · intro w hSw
      go_simp
      first | done | with_reducible rfl
    try simp only [Act.put, List.setIfInBounds_toArray, List.set_cons_zero, List.set_cons_succ]
    refine wpAnyH_take (i := 1) (oi := { dst := some 81, op := Op.unOp UnOp.not 4 (Operand.tmp 80), type := 4, pos := _, after := #[{ on := 0, ground := Ground.data }], guard := none }) (v := ?_) rfl (by kernel_rfl) (by kernel_rfl) (by kernel_rfl) (fun _ _ _ h => h) (Or.inl ⟨by rfl, ?_⟩) (by assumption) ?_
    rotate_left
    · intro w hSw
      go_simp
      first | done | with_reducible rfl
    try simp only [Act.put, List.setIfInBounds_toArray, List.set_cons_zero, List.set_cons_succ]
    refine wpAnyH_take (i := 2) (oi := { dst := some 82, op := Op.move (Operand.tmp 81), type := 4, pos := _, after := #[{ on := 1, ground := Ground.data }], guard := none }) (v := ?_) rfl (by kernel_rfl) (by kernel_rfl) (by kernel_rfl) (fun _ _ _ h => h) (Or.inl ⟨by rfl, ?_⟩) (by assumption) ?_
    rotate_left
    · intro w hSw
      go_simp
      first | done | with_reducible rfl
    try simp only [Act.put, List.setIfInBounds_toArray, List.set_cons_zero, List.set_cons_succ]
    refine wpAnyH_take (i := 3) (oi := { dst := some 83, op := Op.move (Operand.tmp 15), type := 41, pos := _, after := #[{ on := 2, ground := Ground.guard }], guard := some (2, false) }) (v := ?_) rfl (by kernel_rfl) (by kernel_rfl) (by kernel_rfl) (fun _ _ _ h => h) (Or.inl ⟨by rfl, ?_⟩) (by assumption) ?_
    rotate_left
    · intro w hSw
      go_simp
      first | done | with_reducible rfl
    try simp only [Act.put, List.setIfInBounds_toArray, List.set_cons_zero, List.set_cons_succ]
    refine wpAnyH_take (i := 4) (oi := { dst := some 84, op := Op.binOp BinOp.neq 41 (Operand.tmp 83) (Operand.const (Value.int IntKind.i64 0)) 41, type := 4, pos := _, after := #[{ on := 3, ground := Ground.data }, { on := 2, ground := Ground.guard }], guard := some (2, false) }) (v := ?_) rfl (by kernel_rfl) (by kernel_rfl) (by kernel_rfl) (fun _ _ _ h => h) (Or.inl ⟨by rfl, ?_⟩) (by assumption) ?_
    rotate_left
    · intro w hSw
      go_simp
      first | done | with_reducible rfl
    try simp only [Act.put, List.setIfInBounds_toArray, List.set_cons_zero, List.set_cons_succ]
    refine wpAnyH_take (i := 5) (oi := { dst := some 85, op := Op.pick (Operand.tmp 82) (Operand.const (Value.bool true)) (Operand.tmp 84), type := 4, pos := _, after := #[{ on := 2, ground := Ground.data }, { on := 4, ground := Ground.data }], guard := none }) (v := ?_) rfl (by kernel_rfl) (by kernel_rfl) (by kernel_rfl) (fun _ _ _ h => h) (Or.inl ⟨by rfl, ?_⟩) (by assumption) ?_
    rotate_left
    · intro w hSw
      go_simp
      first | done | with_reducible rfl
    try simp only [Act.put, List.setIfInBounds_toArray, List.set_cons_zero, List.set_cons_succ]
    refine wpAnyH_take (i := 6) (oi := { dst := some 86, op := Op.move (Operand.tmp 85), type := 4, pos := _, after := #[{ on := 5, ground := Ground.data }, { on := 2, ground := Ground.chain }], guard := none }) (v := ?_) rfl (by kernel_rfl) (by kernel_rfl) (by kernel_rfl) (fun _ _ _ h => h) (Or.inl ⟨by rfl, ?_⟩) (by assumption) ?_
    rotate_left
    · intro w hSw
      go_simp
      first | done | with_reducible rfl
    try simp only [Act.put, List.setIfInBounds_toArray, List.set_cons_zero, List.set_cons_succ]
    refine wpAnyH_take (i := 7) (oi := { dst := some 87, op := Op.load 24 (Operand.tmp 13), type := 24, pos := _, after := #[{ on := 6, ground := Ground.guard }], guard := some (6, false) }) (v := ?_) rfl (by kernel_rfl) (by kernel_rfl) (by kernel_rfl) (fun _ _ _ h => h) (Or.inl ⟨by rfl, ?_⟩) (by assumption) ?_
    rotate_left
    · intro w hSw
      go_simp
      first | done | with_reducible rfl
    try simp only [Act.put, List.setIfInBounds_toArray, List.set_cons_zero, List.set_cons_succ]
    refine wpAnyH_take (i := 8) (oi := { dst := some 88, op := Op.load 24 (Operand.tmp 4), type := 24, pos := _, after := #[{ on := 6, ground := Ground.guard }], guard := some (6, false) }) (v := ?_) rfl (by kernel_rfl) (by kernel_rfl) (by kernel_rfl) (fun _ _ _ h => h) (Or.inl ⟨by rfl, ?_⟩) (by assumption) ?_
    rotate_left
    · intro w hSw
      go_simp
      first | done | with_reducible rfl
    try simp only [Act.put, List.setIfInBounds_toArray, List.set_cons_zero, List.set_cons_succ]
    refine wpAnyH_ready (rs := [9]) (by kernel_rfl) (by simp) ?_
    refine AllReadyH.cons (o := { dst := some 89, op := Op.call { callee := Callee.value (Operand.func 16), args := #[Operand.tmp 87, Operand.tmp 88], argTypes := #[24, 24] }, type := 4, pos := _, after := #[{ on := 7, ground := Ground.data }, { on := 8, ground := Ground.data }, { on := 6, ground := Ground.chain }, { on := 6, ground := Ground.guard }], guard := some (6, false) }) rfl (fun K hK => ?_) ?_
    rotate_left
    · exact AllReadyH.nil
    refine step_call2 (by rfl) (.tmp 87) (.tmp 88) 24 24 (by rfl) (by rfl) (by rfl) enter16 ?_
    refine (same_edns (X_14.out.ext k0.out) (E_14.out.ext k0.out) sz hi ver d).mono ?_
    rintro e U1 ⟨rfl, m1⟩
    have k1 := Lib.hid (k0.out.trans (m1.mono k0.out.size))
    clear m1
    refine ⟨_, rfl, ?_⟩
    refine hK.out _ _ (cs'.out _ k1.out) (fun hHeld => ?_)
    clear hK K
    try simp only [Act.put, List.setIfInBounds_toArray, List.set_cons_zero, List.set_cons_succ]
    refine wpAnyH_take (i := 10) (oi := { dst := some 90, op := Op.unOp UnOp.not 4 (Operand.tmp 89), type := 4, pos := _, after := #[{ on := 9, ground := Ground.data }, { on := 6, ground := Ground.guard }], guard := some (6, false) }) (v := ?_) rfl (by kernel_rfl) (by kernel_rfl) (by kernel_rfl) (fun _ _ _ h => h) (Or.inl ⟨by rfl, ?_⟩) (by assumption) ?_
    rotate_left
    · intro w hSw
      go_simp
      first | done | with_reducible rfl
    try simp only [Act.put, List.setIfInBounds_toArray, List.set_cons_zero, List.set_cons_succ]
    refine wpAnyH_take (i := 11) (oi := { dst := some 91, op := Op.pick (Operand.tmp 86) (Operand.const (Value.bool true)) (Operand.tmp 90), type := 4, pos := _, after := #[{ on := 6, ground := Ground.data }, { on := 10, ground := Ground.data }], guard := none }) (v := ?_) rfl (by kernel_rfl) (by kernel_rfl) (by kernel_rfl) (fun _ _ _ h => h) (Or.inl ⟨by rfl, ?_⟩) (by assumption) ?_
    rotate_left
    · intro w hSw
      go_simp
      first | done | with_reducible rfl
    try simp only [Act.put, List.setIfInBounds_toArray, List.set_cons_zero, List.set_cons_succ]
    refine wpAnyH_take (i := 12) (oi := { dst := some 92, op := Op.move (Operand.tmp 91), type := 4, pos := _, after := #[{ on := 11, ground := Ground.data }, { on := 9, ground := Ground.chain }], guard := none }) (v := ?_) rfl (by kernel_rfl) (by kernel_rfl) (by kernel_rfl) (fun _ _ _ h => h) (Or.inl ⟨by rfl, ?_⟩) (by assumption) ?_
    rotate_left
    · intro w hSw
      go_simp
      first | done | with_reducible rfl
    try simp only [Act.put, List.setIfInBounds_toArray, List.set_cons_zero, List.set_cons_succ]
    refine wpAnyH_take (i := 13) (oi := { dst := some 93, op := Op.move (Operand.tmp 17), type := 41, pos := _, after := #[{ on := 12, ground := Ground.guard }], guard := some (12, false) }) (v := ?_) rfl (by kernel_rfl) (by kernel_rfl) (by kernel_rfl) (fun _ _ _ h => h) (Or.inl ⟨by rfl, ?_⟩) (by assumption) ?_
    rotate_left
    · intro w hSw
      go_simp
      first | done | with_reducible rfl
    try simp only [Act.put, List.setIfInBounds_toArray, List.set_cons_zero, List.set_cons_succ]
    refine wpAnyH_take (i := 14) (oi := { dst := some 94, op := Op.binOp BinOp.neq 41 (Operand.tmp 93) (Operand.const (Value.int IntKind.i64 10)) 41, type := 4, pos := _, after := #[{ on := 13, ground := Ground.data }, { on := 12, ground := Ground.guard }], guard := some (12, false) }) (v := ?_) rfl (by kernel_rfl) (by kernel_rfl) (by kernel_rfl) (fun _ _ _ h => h) (Or.inl ⟨by rfl, ?_⟩) (by assumption) ?_
    rotate_left
    · intro w hSw
      go_simp
      first | done | with_reducible rfl
    try simp only [Act.put, List.setIfInBounds_toArray, List.set_cons_zero, List.set_cons_succ]
    refine wpAnyH_take (i := 15) (oi := { dst := some 95, op := Op.pick (Operand.tmp 92) (Operand.const (Value.bool true)) (Operand.tmp 94), type := 4, pos := _, after := #[{ on := 12, ground := Ground.data }, { on := 14, ground := Ground.data }], guard := none }) (v := ?_) rfl (by kernel_rfl) (by kernel_rfl) (by kernel_rfl) (fun _ _ _ h => h) (Or.inl ⟨by rfl, ?_⟩) (by assumption) ?_
    rotate_left
    · intro w hSw
      go_simp
      first | done | with_reducible rfl
    try simp only [Act.put, List.setIfInBounds_toArray, List.set_cons_zero, List.set_cons_succ]
    refine wpAnyH_take (i := 16) (oi := { dst := some 96, op := Op.move (Operand.tmp 95), type := 4, pos := _, after := #[{ on := 15, ground := Ground.data }, { on := 12, ground := Ground.chain }], guard := none }) (v := ?_) rfl (by kernel_rfl) (by kernel_rfl) (by kernel_rfl) (fun _ _ _ h => h) (Or.inl ⟨by rfl, ?_⟩) (by assumption) ?_
    rotate_left
    · intro w hSw
      go_simp
      first | done | with_reducible rfl
    try simp only [Act.put, List.setIfInBounds_toArray, List.set_cons_zero, List.set_cons_succ]
    refine wpAnyH_take (i := 17) (oi := { dst := some 97, op := Op.load 60 (Operand.tmp 11), type := 60, pos := _, after := #[{ on := 16, ground := Ground.guard }], guard := some (16, false) }) (v := ?_) rfl (by kernel_rfl) (by kernel_rfl) (by kernel_rfl) (fun _ _ _ h => h) (Or.inl ⟨by rfl, ?_⟩) (by assumption) ?_
    rotate_left
    · intro w hSw
      go_simp
      first | done | with_reducible rfl
    try simp only [Act.put, List.setIfInBounds_toArray, List.set_cons_zero, List.set_cons_succ]
    refine wpAnyH_take (i := 19) (oi := { dst := some 99, op := Op.load 60 (Operand.tmp 3), type := 60, pos := _, after := #[{ on := 16, ground := Ground.guard }], guard := some (16, false) }) (v := ?_) rfl (by kernel_rfl) (by kernel_rfl) (by kernel_rfl) (fun _ _ _ h => h) (Or.inl ⟨by rfl, ?_⟩) (by assumption) ?_
    rotate_left
    · intro w hSw
      go_simp
      first | done | with_reducible rfl
    try simp only [Act.put, List.setIfInBounds_toArray, List.set_cons_zero, List.set_cons_succ]
    refine wpAnyH_ready (rs := [18]) (by kernel_rfl) (by simp) ?_
    refine AllReadyH.cons (o := { dst := some 98, op := Op.call { callee := Callee.value (Operand.func 28), args := #[Operand.tmp 97], argTypes := #[60] }, type := 60, pos := _, after := #[{ on := 17, ground := Ground.data }, { on := 16, ground := Ground.chain }, { on := 16, ground := Ground.guard }], guard := some (16, false) }) rfl (fun K hK => ?_) ?_
    rotate_left
    · exact AllReadyH.nil
    refine step_call1 (by rfl) (.tmp 97) 60 (by rfl) (by rfl) enter28 ?_
    refine (without_any (W_14.out.ext k1.out) (.int .u16 id) (.bool rs) (.int .i64 op) (.bool aa) (.bool tc) (.bool rd) (.bool ra) (.bool ad) (.bool cd) (.int .i64 rc) rfl (by have e1 := W_14.out.a3.1.len; have e2 := hzw.out; have e3 := lB3.out; have e4 := len3.out; rw [List.length_append, List.length_singleton] at e2; omega)).mono ?_
    rintro e U2 ⟨⟨vq, v1, v2, v3, rfl, om⟩, m2⟩
    have k2 := Lib.hid (k1.out.trans (m2.mono k1.out.size))
    rw [hzf.out.2.1] at om
    obtain ⟨bqy, cqy, qY, rfl, rQ, eQ⟩ := om.q.rdQs W_14.out.q.fit
    obtain ⟨b1y, c1y, Y1, rfl, rA1, eA1⟩ := om.a1.rdRs W_14.out.a1.fit
    obtain ⟨b2y, c2y, Y2, rfl, rA2, eA2⟩ := om.a2.rdRs W_14.out.a2.fit
    obtain ⟨b3y, c3y, Y3, rfl, rA3, eA3⟩ := om.a3.rdRs (by have h := W_14.out.a3.fit.zf; rw [hzf.out.2.1] at h; exact h)
    have hsm := Lib.hid (same_msg ⟨rQ, rA1, rA2, rA3⟩ (M_14.out.ext k2.out) (eQ.trans eW.out.1) (eA1.trans eW.out.2.1) (eA2.trans eW.out.2.2.1) (eA3.trans hzf.out.1) id rs op aa tc rd ra ad cd rc)
    clear m2 om rQ rA1 rA2 rA3 eQ eA1 eA2 eA3
    refine ⟨_, rfl, ?_⟩
    refine hK.out _ _ (cs'.out _ k2.out) (fun hHeld => ?_)
    clear hK K
    try simp only [Act.put, List.setIfInBounds_toArray, List.set_cons_zero, List.set_cons_succ]
    refine wpAnyH_ready (rs := [20]) (by kernel_rfl) (by simp) ?_
    refine AllReadyH.cons (o := { dst := some 100, op := Op.call { callee := Callee.value (Operand.func 30), args := #[Operand.tmp 98, Operand.tmp 99], argTypes := #[60, 60] }, type := 4, pos := _, after := #[{ on := 18, ground := Ground.data }, { on := 19, ground := Ground.data }, { on := 18, ground := Ground.chain }, { on := 16, ground := Ground.guard }], guard := some (16, false) }) rfl (fun K hK => ?_) ?_
    rotate_left
    · exact AllReadyH.nil
    refine step_call2 (by rfl) (.tmp 98) (.tmp 99) 60 60 (by rfl) (by rfl) (by rfl) enter30 ?_
    refine hsm.out.mono ?_
    rintro e U3 ⟨rfl, m3⟩
    have k3 := Lib.hid (k2.out.trans (m3.mono k2.out.size))
    clear m3 hsm
    refine ⟨_, rfl, ?_⟩
    refine hK.out _ _ (cs'.out _ k3.out) (fun hHeld => ?_)
    clear hK K
    try simp only [Act.put, List.setIfInBounds_toArray, List.set_cons_zero, List.set_cons_succ]
    refine wpAnyH_take (i := 21) (oi := { dst := some 101, op := Op.unOp UnOp.not 4 (Operand.tmp 100), type := 4, pos := _, after := #[{ on := 20, ground := Ground.data }, { on := 16, ground := Ground.guard }], guard := some (16, false) }) (v := ?_) rfl (by kernel_rfl) (by kernel_rfl) (by kernel_rfl) (fun _ _ _ h => h) (Or.inl ⟨by rfl, ?_⟩) (by assumption) ?_
    rotate_left
    · intro w hSw
      go_simp
      first | done | with_reducible rfl
    try simp only [Act.put, List.setIfInBounds_toArray, List.set_cons_zero, List.set_cons_succ]
    refine wpAnyH_take (i := 22) (oi := { dst := some 102, op := Op.pick (Operand.tmp 96) (Operand.const (Value.bool true)) (Operand.tmp 101), type := 4, pos := _, after := #[{ on := 16, ground := Ground.data }, { on := 21, ground := Ground.data }], guard := none }) (v := ?_) rfl (by kernel_rfl) (by kernel_rfl) (by kernel_rfl) (fun _ _ _ h => h) (Or.inl ⟨by rfl, ?_⟩) (by assumption) ?_
    rotate_left
    · intro w hSw
      go_simp
      first | done | with_reducible rfl
    try simp only [Act.put, List.setIfInBounds_toArray, List.set_cons_zero, List.set_cons_succ]
    refine wpAnyH_take (i := 23) (oi := { dst := some 103, op := Op.move (Operand.tmp 102), type := 4, pos := _, after := #[{ on := 22, ground := Ground.data }, { on := 20, ground := Ground.chain }], guard := none }) (v := ?_) rfl (by kernel_rfl) (by kernel_rfl) (by kernel_rfl) (fun _ _ _ h => h) (Or.inl ⟨by rfl, ?_⟩) (by assumption) ?_
    rotate_left
    · intro w hSw
      go_simp
      first | done | with_reducible rfl
    try simp only [Act.put, List.setIfInBounds_toArray, List.set_cons_zero, List.set_cons_succ]
    refine wpAnyH_take (i := 24) (oi := { dst := some 104, op := Op.move (Operand.tmp 19), type := 41, pos := _, after := #[{ on := 23, ground := Ground.guard }], guard := some (23, false) }) (v := ?_) rfl (by kernel_rfl) (by kernel_rfl) (by kernel_rfl) (fun _ _ _ h => h) (Or.inl ⟨by rfl, ?_⟩) (by assumption) ?_
    rotate_left
    · intro w hSw
      go_simp
      first | done | with_reducible rfl
    try simp only [Act.put, List.setIfInBounds_toArray, List.set_cons_zero, List.set_cons_succ]
    refine wpAnyH_take (i := 25) (oi := { dst := some 105, op := Op.move (Operand.tmp 21), type := 41, pos := _, after := #[{ on := 23, ground := Ground.guard }], guard := some (23, false) }) (v := ?_) rfl (by kernel_rfl) (by kernel_rfl) (by kernel_rfl) (fun _ _ _ h => h) (Or.inl ⟨by rfl, ?_⟩) (by assumption) ?_
    rotate_left
    · intro w hSw
      go_simp
      first | done | with_reducible rfl
    try simp only [Act.put, List.setIfInBounds_toArray, List.set_cons_zero, List.set_cons_succ]
    refine wpAnyH_take (i := 26) (oi := { dst := some 106, op := Op.binOp BinOp.neq 41 (Operand.tmp 104) (Operand.tmp 105) 41, type := 4, pos := _, after := #[{ on := 24, ground := Ground.data }, { on := 25, ground := Ground.data }, { on := 23, ground := Ground.guard }], guard := some (23, false) }) (v := ?_) rfl (by kernel_rfl) (by kernel_rfl) (by kernel_rfl) (fun _ _ _ h => h) (Or.inl ⟨by rfl, ?_⟩) (by assumption) ?_
    rotate_left
    · intro w hSw
      go_simp
      first | done | with_reducible rfl
    try simp only [Act.put, List.setIfInBounds_toArray, List.set_cons_zero, List.set_cons_succ]
    refine wpAnyH_take (i := 27) (oi := { dst := some 107, op := Op.pick (Operand.tmp 103) (Operand.const (Value.bool true)) (Operand.tmp 106), type := 4, pos := _, after := #[{ on := 23, ground := Ground.data }, { on := 26, ground := Ground.data }], guard := none }) (v := ?_) rfl (by kernel_rfl) (by kernel_rfl) (by kernel_rfl) (fun _ _ _ h => h) (Or.inl ⟨by rfl, ?_⟩) (by assumption) ?_
    rotate_left
    · intro w hSw
      go_simp
      first | done | with_reducible rfl
    try simp only [Act.put, List.setIfInBounds_toArray, List.set_cons_zero, List.set_cons_succ]
    refine wpAnyH_done (by kernel_rfl) ?_ _
    refine NoPanic.normal ?_
    clear hHeld
    have K_15 := Lib.hid (K_14.out.trans ((k3.out).mono K_14.out.size))
    have BM_15 := Lib.hid (BM_14.out.below k3.out BM_14.out.lt)
    have BE_15 := Lib.hid (BE_14.out.below k3.out BE_14.out.lt)
    have E_15 := Lib.hid (E_14.out.ext k3.out)
    have M_15 := Lib.hid (M_14.out.ext k3.out)
    have W_15 := Lib.hid (W_14.out.ext k3.out)
    have BW_15 := Lib.hid (BW_14.out.below k3.out BW_14.out.lt)
    have X_15 := Lib.hid (X_14.out.ext k3.out)
    have BX_15 := Lib.hid (BX_14.out.below k3.out BX_14.out.lt)
    clear K_14 BM_14 BE_14 E_14 M_14 W_14 BW_14 X_14 BX_14
    have q0 : U3.cell? ⟨W1.heap.size, 0, none⟩ = some (.int .i64 sz) := (BE_15.out.cell 0).trans rfl
    rcases hP.out with hE | ⟨rfl, rfl, h1, h2, h3⟩
    · have hEb : (eN != 0) = true := by simpa using hE
      clear hE hP
      go_wp2_with fail
      go_ret
      exact ⟨rfl, K_15.out⟩
    · clear hP
      have g1 : (512 : Int) ≤ nN := h1
      by_cases e1 : nN = own
      · subst e1
        clear h3
        go_wp2_with fail
        go_ret
        exact ⟨rfl, K_15.out⟩
      · by_cases e2 : nN = 512
        · subst e2
          clear h3
          go_wp2_with fail
          go_ret
          exact ⟨rfl, K_15.out⟩
        · have e3 : nN = sz := by omega
          subst e3
          clear h3
          go_wp2_with fail
          go_ret
          exact ⟨rfl, K_15.out⟩
  · skip
    have hw := Lib.hid (with_bad M_6.out (.int .u16 id) (.bool rs) (.int .i64 op) (.bool aa) (.bool tc) (.bool rd) (.bool ra) (.bool ad) (.bool cd) (.int .i64 rc) rfl hlt3.out E_6.out hs'.out hC'.out sz hi ver d hgood)
    clear hgood
    go_wp2_with fail
    refine hw.out.mono ?_
    rintro e w11 ⟨rfl, hb⟩
    clear p0 p1 p2 p3 p4 p5 p6 p7 p8 p9 p10 p11 p12 p13 q0 q1 q2 q3 q4
    have K_7 := Lib.hid (K_6.out.trans ((hb).mono K_6.out.size))
    have BM_7 := Lib.hid (BM_6.out.below hb BM_6.out.lt)
    have BE_7 := Lib.hid (BE_6.out.below hb BE_6.out.lt)
    have E_7 := Lib.hid (E_6.out.ext hb)
    have M_7 := Lib.hid (M_6.out.ext hb)
    clear K_6 BM_6 BE_6 E_6 M_6
    clear hb hw
    obtain ⟨W12, hW12⟩ : ∃ W, w11.alloc (.cells #[.int .u16 0, .bool false, .int .i64 0, .bool false, .bool false, .bool false, .bool false, .bool false, .bool false, .int .i64 0, .slice none 0 0, .slice none 0 0, .slice none 0 0, .slice none 0 0] 60) = W := ⟨_, rfl⟩
    have N12 : Hid (Blk W12 w11.heap.size 60 (0, 0) [.int .u16 0, .bool false, .int .i64 0, .bool false, .bool false, .bool false, .bool false, .bool false, .bool false, .int .i64 0, .slice none 0 0, .slice none 0 0, .slice none 0 0, .slice none 0 0]) := Lib.hid (by rw [← hW12]; exact Blk.new w11 60 (0, 0) #[.int .u16 0, .bool false, .int .i64 0, .bool false, .bool false, .bool false, .bool false, .bool false, .bool false, .int .i64 0, .slice none 0 0, .slice none 0 0, .slice none 0 0, .slice none 0 0])
    have n12 : Hid (Below w11.heap.size w11 W12) := Lib.hid (by rw [← hW12]; exact alloc_bel _ _)
    go_wp2_with (refine store_whole rfl 60 (.tmp 11) (.tmp 42) rfl rfl rfl N12.out (by rfl) (by kernel_rfl) (by kernel_rfl) ?_; intro w13 hBx hgx hzx; have R12 := Lib.hid hBx; have g12 := Lib.hid hgx; clear hBx hgx hzx)
    try rw [hW12]
    clear hW12
    have s12 := Lib.hid (fresh_store n12.out g12.out)
    have K_8 := Lib.hid (K_7.out.trans ((s12.out).mono K_7.out.size))
    have BM_8 := Lib.hid (BM_7.out.below s12.out BM_7.out.lt)
    have BE_8 := Lib.hid (BE_7.out.below s12.out BE_7.out.lt)
    have E_8 := Lib.hid (E_7.out.ext s12.out)
    have M_8 := Lib.hid (M_7.out.ext s12.out)
    clear K_7 BM_7 BE_7 E_7 M_7
    have l12 : Hid (w11.heap.size < w13.heap.size) := Lib.hid R12.out.lt
    clear N12 n12 g12 s12
    go_ret
    exact ⟨rfl, K_8.out⟩
section
open Go.ChangeShapes Go.WideShapes
variable {H : Type} {enc : TypeId × Value → H}
set_option maxRecDepth 100000 in
theorem ednsWith_law {W : World} {r : Reach} {b0 : Nat} {ts : List TypeId} {ds : List (DataW H)} (v0 : Value) (d0 : DataW H) (p0 : List MemPlace) (h0 : DataW.Trod enc Try.prog W 0 (fun _ => true) true 60 v0 d0 p0) (hv0 : Value.okWide Try.prog W r b0 60 v0)
    (_ : (DataW.weightsEach Try.prog ts ds).all (· ≤ reachBytes) = true) {x : Nat} (hb : Rows.uptoBulk d0 + x ≤ 1048576) (z0 : Sz Try.prog 60 d0) (v1 : Value) (d1 : DataW H) (p1 : List MemPlace) (h1 : DataW.Trod enc Try.prog W 0 (fun _ => true) true 24 v1 d1 p1) (hv1 : Value.okWide Try.prog W r b0 24 v1)
    (_ : (DataW.weightsEach Try.prog ts ds).all (· ≤ reachBytes) = true) {y : Nat} (_ : y ≤ 1048576) (z1 : Sz Try.prog 24 d1) (own : Int) (_ : (Lit.int .i64 own).wf = true) (_ : World) : Calls Try.prog 7 #[v0, v1, .int .i64 own] W fun e w' => e = .returned (.bool true) ∧ Below W.heap.size W w' := by
  obtain ⟨id, rs, op, aa, tc, rd, ra, ad, cd, rc, qa, qn, qc, QS, NS, an, nn1, nc1, Q1, L1, au, nn2, nc2, Q2, L2, ad3, nn3, nc3, Q3, L3, rfl, hM, hz⟩ := open_msg hv0 h0 z0 (by omega)
  obtain ⟨sz, hi, ver, b, a, n, c, O, rfl, hO, hC⟩ := open_edns hv1 h1 z1
  exact ednsWith_any hM hz id rs op aa tc rd ra ad cd rc hO hC sz hi ver b own
end
end Go.Proofs.Ythgnlbdolilklaa
