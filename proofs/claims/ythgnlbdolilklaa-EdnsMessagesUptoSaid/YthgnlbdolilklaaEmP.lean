/- EdnsMessages; printed by gen_em.py. -/
import Derived.Test.YthgnlbdolilklaaJn7
import Derived.Test.YthgnlbdolilklaaEtL
namespace Go.Proofs.Ythgnlbdolilklaa
open Go Go.RowKit
def F6 (s0 s1 : Nat) (mv ev ov : Value) (v7 v8 v32 v34 : Value) : Act := { tmps := #[mv, ev, ov, .pointer (some ⟨s0, 0, none⟩), .pointer (some ⟨s1, 0, none⟩), undef, .bool false, v7, v8, undef, undef, undef, undef, undef, undef, undef, undef, undef, undef, undef, undef, undef, undef, undef, undef, mv, .bool false, .bool false, ev, .bool false, .bool false, mv, v32, ev, v34, undef, undef, undef, undef, undef, undef, undef, undef, undef, undef, undef, undef, undef, undef, undef, undef, undef, undef, undef, undef, undef, undef, undef, undef, undef, undef, undef, undef, undef, undef, undef, undef, undef, undef, undef, undef, undef, undef, undef, undef, undef, undef, undef, undef, undef, undef, undef, undef, undef, undef, undef, undef, undef, undef, undef, undef, undef, undef, undef, undef, undef, undef, undef, undef, undef, undef, undef, undef, undef, undef, undef, undef, undef, undef, undef, undef, undef, undef, undef, undef, undef, undef, undef, undef, undef, undef, undef, undef, undef, undef, undef, undef, undef, undef], defers := [] }
/-- what is so while region 3 goes on -/
structure I6 (W U : World) (MS : List Value) (QS : List QD) (NS : List Nm) (Q1 : List RD) (L1 : List RL) (Q2 : List RD) (L2 : List RL) (Q3 : List RD) (L3 : List RL) (sz hi ver : Int) (d : Bool) (O : List Opt) (l7 l8 m1 m2 : Bool) (b7 b8 : Nat) (vq x1 x2 x3 u : Value) (v7 v8 v32 v34 : Value) : Prop where
  bel : Below W.heap.size W U
  a7 : l7 = true → v7 = .pointer (some ⟨b7, 0, none⟩) ∧ Blk U b7 60 (0, 0) [.int .u16 0, .bool false, .int .i64 0, .bool false, .bool false, .bool false, .bool false, .bool false, .bool false, .int .i64 0, .slice none 0 0, .slice none 0 0, .slice none 0 0, .slice none 0 0] ∧ W.heap.size ≤ b7
  a8 : l8 = true → v8 = .pointer (some ⟨b8, 0, none⟩) ∧ Blk U b8 24 (0, 0) [.int .i64 0, .int .i64 0, .int .i64 0, .bool false, .slice none 0 0] ∧ W.heap.size ≤ b8
  c1 : m1 = true → v32 = .agg (MS ++ [vq, x1, x2, x3]).toArray ∧ OwnQs U W.heap.size vq QS NS ∧ OwnRs U W.heap.size x1 Q1 L1 ∧ OwnRs U W.heap.size x2 Q2 L2 ∧ OwnRs U W.heap.size x3 Q3 L3
  c2 : m2 = true → v34 = .agg #[.int .i64 sz, .int .i64 hi, .int .i64 ver, .bool d, u] ∧ OwnO U W.heap.size u O
  o2 : m2 = true → m1 = true
theorem I6.ext {U' : World} {W U : World} {MS : List Value} {QS : List QD} {NS : List Nm} {Q1 : List RD} {L1 : List RL} {Q2 : List RD} {L2 : List RL} {Q3 : List RD} {L3 : List RL} {sz hi ver : Int} {d : Bool} {O : List Opt} {l7 l8 m1 m2 : Bool} {b7 b8 : Nat} {vq x1 x2 x3 u : Value} {v7 v8 v32 v34 : Value} (h : I6 W U MS QS NS Q1 L1 Q2 L2 Q3 L3 sz hi ver d O l7 l8 m1 m2 b7 b8 vq x1 x2 x3 u v7 v8 v32 v34) (hb : Below U.heap.size U U') : I6 W U' MS QS NS Q1 L1 Q2 L2 Q3 L3 sz hi ver d O l7 l8 m1 m2 b7 b8 vq x1 x2 x3 u v7 v8 v32 v34 where
  bel := h.bel.trans (hb.mono h.bel.size)
  a7 := fun e => ⟨(h.a7 e).1, (h.a7 e).2.1.below hb (h.a7 e).2.1.lt, (h.a7 e).2.2⟩
  a8 := fun e => ⟨(h.a8 e).1, (h.a8 e).2.1.below hb (h.a8 e).2.1.lt, (h.a8 e).2.2⟩
  c1 := fun e => ⟨(h.c1 e).1, (h.c1 e).2.1.ext hb, (h.c1 e).2.2.1.ext hb, (h.c1 e).2.2.2.1.ext hb, (h.c1 e).2.2.2.2.ext hb⟩
  c2 := fun e => ⟨(h.c2 e).1, (h.c2 e).2.ext hb⟩
  o2 := h.o2
theorem I6.al7 {W U : World} {MS : List Value} {QS : List QD} {NS : List Nm} {Q1 : List RD} {L1 : List RL} {Q2 : List RD} {L2 : List RL} {Q3 : List RD} {L3 : List RL} {sz hi ver : Int} {d : Bool} {O : List Opt} {l7 l8 m1 m2 : Bool} {b7 b8 : Nat} {vq x1 x2 x3 u : Value} {v7 v8 v32 v34 : Value} (h : I6 W U MS QS NS Q1 L1 Q2 L2 Q3 L3 sz hi ver d O l7 l8 m1 m2 b7 b8 vq x1 x2 x3 u v7 v8 v32 v34) : I6 W (U.alloc (.cells #[.int .u16 0, .bool false, .int .i64 0, .bool false, .bool false, .bool false, .bool false, .bool false, .bool false, .int .i64 0, .slice none 0 0, .slice none 0 0, .slice none 0 0, .slice none 0 0] 60)) MS QS NS Q1 L1 Q2 L2 Q3 L3 sz hi ver d O true l8 m1 m2 U.heap.size b8 vq x1 x2 x3 u (.pointer (some ⟨U.heap.size, 0, none⟩)) v8 v32 v34 := by
  have hb : Below U.heap.size U (U.alloc (.cells #[.int .u16 0, .bool false, .int .i64 0, .bool false, .bool false, .bool false, .bool false, .bool false, .bool false, .int .i64 0, .slice none 0 0, .slice none 0 0, .slice none 0 0, .slice none 0 0] 60)) := alloc_bel _ _
  exact { h.ext hb with
    a7 := fun _ => ⟨rfl, Blk.new U 60 (0, 0) #[.int .u16 0, .bool false, .int .i64 0, .bool false, .bool false, .bool false, .bool false, .bool false, .bool false, .int .i64 0, .slice none 0 0, .slice none 0 0, .slice none 0 0, .slice none 0 0], h.bel.size⟩
  }
theorem I6.al8 {W U : World} {MS : List Value} {QS : List QD} {NS : List Nm} {Q1 : List RD} {L1 : List RL} {Q2 : List RD} {L2 : List RL} {Q3 : List RD} {L3 : List RL} {sz hi ver : Int} {d : Bool} {O : List Opt} {l7 l8 m1 m2 : Bool} {b7 b8 : Nat} {vq x1 x2 x3 u : Value} {v7 v8 v32 v34 : Value} (h : I6 W U MS QS NS Q1 L1 Q2 L2 Q3 L3 sz hi ver d O l7 l8 m1 m2 b7 b8 vq x1 x2 x3 u v7 v8 v32 v34) : I6 W (U.alloc (.cells #[.int .i64 0, .int .i64 0, .int .i64 0, .bool false, .slice none 0 0] 24)) MS QS NS Q1 L1 Q2 L2 Q3 L3 sz hi ver d O l7 true m1 m2 b7 U.heap.size vq x1 x2 x3 u v7 (.pointer (some ⟨U.heap.size, 0, none⟩)) v32 v34 := by
  have hb : Below U.heap.size U (U.alloc (.cells #[.int .i64 0, .int .i64 0, .int .i64 0, .bool false, .slice none 0 0] 24)) := alloc_bel _ _
  exact { h.ext hb with
    a8 := fun _ => ⟨rfl, Blk.new U 24 (0, 0) #[.int .i64 0, .int .i64 0, .int .i64 0, .bool false, .slice none 0 0], h.bel.size⟩
  }
theorem I6.cl1 {U' : World} {W U : World} {MS : List Value} {QS : List QD} {NS : List Nm} {Q1 : List RD} {L1 : List RL} {Q2 : List RD} {L2 : List RL} {Q3 : List RD} {L3 : List RL} {sz hi ver : Int} {d : Bool} {O : List Opt} {l7 l8 m2 : Bool} {b7 b8 : Nat} {vq x1 x2 x3 u : Value} {v7 v8 v32 v34 : Value} {wq y1 y2 y3 : Value} (h : I6 W U MS QS NS Q1 L1 Q2 L2 Q3 L3 sz hi ver d O l7 l8 false m2 b7 b8 vq x1 x2 x3 u v7 v8 v32 v34) (hb : Below U.heap.size U U') (hq : OwnQs U' U.heap.size wq QS NS) (h1 : OwnRs U' U.heap.size y1 Q1 L1) (h2 : OwnRs U' U.heap.size y2 Q2 L2) (h3 : OwnRs U' U.heap.size y3 Q3 L3) : I6 W U' MS QS NS Q1 L1 Q2 L2 Q3 L3 sz hi ver d O l7 l8 true m2 b7 b8 wq y1 y2 y3 u v7 v8 (.agg (MS ++ [wq, y1, y2, y3]).toArray) v34 := by
  exact { h.ext hb with
    c1 := fun _ => ⟨rfl, OwnQs_mono hq h.bel.size, h1.mono h.bel.size, h2.mono h.bel.size, h3.mono h.bel.size⟩
    o2 := fun _ => rfl
  }
theorem I6.cl2 {U' : World} {W U : World} {MS : List Value} {QS : List QD} {NS : List Nm} {Q1 : List RD} {L1 : List RL} {Q2 : List RD} {L2 : List RL} {Q3 : List RD} {L3 : List RL} {sz hi ver : Int} {d : Bool} {O : List Opt} {l7 l8 m1 : Bool} {b7 b8 : Nat} {vq x1 x2 x3 u : Value} {v7 v8 v32 v34 : Value} {w1 : Value} (h : I6 W U MS QS NS Q1 L1 Q2 L2 Q3 L3 sz hi ver d O l7 l8 m1 false b7 b8 vq x1 x2 x3 u v7 v8 v32 v34) (hp : m1 = true) (hb : Below U.heap.size U U') (ho : OwnO U' U.heap.size w1 O) : I6 W U' MS QS NS Q1 L1 Q2 L2 Q3 L3 sz hi ver d O l7 l8 m1 true b7 b8 vq x1 x2 x3 w1 v7 v8 v32 (.agg #[.int .i64 sz, .int .i64 hi, .int .i64 ver, .bool d, w1]) := by
  exact { h.ext hb with
    c2 := fun _ => ⟨rfl, ho.mono h.bel.size⟩
    o2 := fun _ => hp
  }
theorem ownRs_st {w w' : World} {b k : Nat} {v : Value} {QS : List RD} {LS : List RL} {t : TypeId} {fz : Nat × Nat} {C : List Value} (ho : OwnRs w b v QS LS) (hB : Blk w k t fz C) (h0 : (37 : Nat) ≠ t) (h1 : (9 : Nat) ≠ t) (h2 : (26 : Nat) ≠ t) (h3 : (30 : Nat) ≠ t) (h4 : (5 : Nat) ≠ t) (hg : w.grownBy w' (some k)) : OwnRs w' b v QS LS := by
  obtain ⟨qs, p1, p2, p3⟩ := ho
  exact ⟨qs, own_store p1 hB h0 hg, p2, fun j q q0 L hq hq0 hL => ⟨ownRec_store (p3 j q q0 L hq hq0 hL).1 hB h1 h2 h3 h4 hg, (p3 j q q0 L hq hq0 hL).2⟩⟩
theorem enter16 (args : Array Value) (w : World) : (callFunc 16 args).run Try.prog w = .ok (.enter 16 args) w := Go.MuLone.run_callFunc_enter Try.func16 (by kernel_rfl) (by rfl) args w
theorem enter30 (args : Array Value) (w : World) : (callFunc 30 args).run Try.prog w = .ok (.enter 30 args) w := Go.MuLone.run_callFunc_enter Try.func30 (by kernel_rfl) (by rfl) args w
theorem enter25 (args : Array Value) (w : World) : (callFunc 25 args).run Try.prog w = .ok (.enter 25 args) w := Go.MuLone.run_callFunc_enter Try.func25 (by kernel_rfl) (by rfl) args w
/-- behind region 3 -/
structure E6 (W U : World) (MS : List Value) (QS : List QD) (NS : List Nm) (Q1 : List RD) (L1 : List RL) (Q2 : List RD) (L2 : List RL) (Q3 : List RD) (L3 : List RL) (sz hi ver : Int) (d : Bool) (O : List Opt) (b7 b8 : Nat) (vq x1 x2 x3 u : Value) : Prop where
  bel : Below W.heap.size W U
  k7 : Blk U b7 60 (0, 0) (MS ++ [vq, x1, x2, x3])
  k8 : Blk U b8 24 (0, 0) [.int .i64 sz, .int .i64 hi, .int .i64 ver, .bool d, u]
  z : W.heap.size ≤ b7 ∧ W.heap.size ≤ b8
  q : OwnQs U W.heap.size vq QS NS
  r1 : OwnRs U W.heap.size x1 Q1 L1
  r2 : OwnRs U W.heap.size x2 Q2 L2
  r3 : OwnRs U W.heap.size x3 Q3 L3
  o : OwnO U W.heap.size u O
def RA6 (W : World) (s0 s1 : Nat) (mv ev ov : Value) (MS : List Value) (QS : List QD) (NS : List Nm) (Q1 : List RD) (L1 : List RL) (Q2 : List RD) (L2 : List RL) (Q3 : List RD) (L3 : List RL) (sz hi ver : Int) (d : Bool) (O : List Opt) (e : Exit) (a : Act) (U : World) : Prop := e = .normal ∧ ∃ b7 b8 vq x1 x2 x3 u, a = F6 s0 s1 mv ev ov (.pointer (some ⟨b7, 0, none⟩)) (.pointer (some ⟨b8, 0, none⟩)) (.agg (MS ++ [vq, x1, x2, x3]).toArray) (.agg #[.int .i64 sz, .int .i64 hi, .int .i64 ver, .bool d, u]) ∧ E6 W U MS QS NS Q1 L1 Q2 L2 Q3 L3 sz hi ver d O b7 b8 vq x1 x2 x3 u
/-- a call of a function with two arguments, as a step of a region that draws -/
theorem step_call2 {P : Program} {ops : Array Oper} {o : Oper} {a : Act} {w : World} {K : Act → World → Prop} {Q : Exit → Act → World → Prop} {Ep : Prop} (hw : Region.wanted o (yielded ops a.tmps) = true) {f : FuncId} (x y : Operand) (t t2 : TypeId)
    (ho : o.op = .call { callee := .value (.func f), args := #[x, y], argTypes := #[t, t2] }) {v v2 : Value} (hx : a.eval x = v) (hy : a.eval y = v2) (hcf : ∀ (args : Array Value) (w : World), (callFunc f args).run P w = .ok (.enter f args) w)
    (h : Calls P f #[v, v2] w fun e w' => ∃ r, e = .returned r ∧ K (a.put o.dst r) w') : if Region.wanted o (yielded ops a.tmps) = true then Oper.wp P o a w K Q else Ep := by
  rw [if_pos hw]
  unfold Oper.wp execOp
  have hv : a.eval (.func f) = .func (.func f) #[] #[] := rfl
  have e : (Deferred.ofValue (Value.func (Fn.func f) #[] #[]) #[v, v2]).run P w = .ok { target := .fn (.func f) #[], args := #[v, v2] } w := by simp [Deferred.ofValue]
  simp only [ho, resolve, invoke, Sem.run_bind, List.map_toArray, List.map_cons, List.map_nil, hx, hy, hv, e, Result.andThen_ok, Array.append_empty, hcf, Oper.upon_enter]
  refine h.mono ?_
  rintro e w' ⟨r, rfl, hk⟩
  exact hk
theorem step_call1 {P : Program} {ops : Array Oper} {o : Oper} {a : Act} {w : World} {K : Act → World → Prop} {Q : Exit → Act → World → Prop} {Ep : Prop} (hw : Region.wanted o (yielded ops a.tmps) = true) {f : FuncId} (x : Operand) (t : TypeId)
    (ho : o.op = .call { callee := .value (.func f), args := #[x], argTypes := #[t] }) {v : Value} (hx : a.eval x = v) (hcf : ∀ (args : Array Value) (w : World), (callFunc f args).run P w = .ok (.enter f args) w)
    (h : Calls P f #[v] w fun e w' => ∃ r, e = .returned r ∧ K (a.put o.dst r) w') : if Region.wanted o (yielded ops a.tmps) = true then Oper.wp P o a w K Q else Ep := by
  rw [if_pos hw]
  unfold Oper.wp execOp
  have hv : a.eval (.func f) = .func (.func f) #[] #[] := rfl
  have e : (Deferred.ofValue (Value.func (Fn.func f) #[] #[]) #[v]).run P w = .ok { target := .fn (.func f) #[], args := #[v] } w := by simp [Deferred.ofValue]
  simp only [ho, resolve, invoke, Sem.run_bind, List.map_toArray, List.map_cons, List.map_nil, hx, hv, e, Result.andThen_ok, Array.append_empty, hcf, Oper.upon_enter]
  refine h.mono ?_
  rintro e w' ⟨r, rfl, hk⟩
  exact hk
theorem rdQs_zero (w : World) : RdQs w none 0 0 [] [] := ⟨Rd.zero qsE w none 0 (Nat.zero_le _), rfl, by decide, fun j q N h => by simp at h⟩
theorem rdRs_zero (w : World) : RdRs w none 0 0 [] [] := ⟨Rd.zero recE w none 0 (Nat.zero_le _), rfl, by decide, fun j q N h => by simp at h⟩
theorem rdM_zero (w : World) : RdM w none 0 0 [] [] none 0 0 [] [] none 0 0 [] [] none 0 0 [] [] := ⟨rdQs_zero w, rdRs_zero w, rdRs_zero w, rdRs_zero w⟩
theorem fitRs_nil : FitRs [] [] := ⟨rfl, by decide, fun j q l h => by simp at h⟩
theorem fitQs_nil : FitQs [] [] := ⟨rfl, by decide, fun j q l h => by simp at h⟩
theorem snoc_rd {w : World} {a : Option Addr} {n c b : Nat} {Q : List RD} {L : List RL} {v : Value} (h : RdRs w a n c Q L) {sn tn : Nat} {ra : Option Addr} {rn rc : Nat} {raw : List UInt8} (ho : Own recE w b v (Q ++ [⟨none, 0, 0, 41, sn, tn, none, 0, 0, none, 0, 0, none, 0, 0, ra, rn, rc⟩])) (hr : Own byteE w b (.slice ra rn rc) raw) (hn : n ≤ 4000000) (hs : sn < 65536) (ht : tn < 4294967296) (hl : raw.length ≤ 65535) :
    ∃ a' c', v = .slice a' (n + 1) c' ∧ RdRs w a' (n + 1) c' (Q ++ [⟨none, 0, 0, 41, sn, tn, none, 0, 0, none, 0, 0, none, 0, 0, ra, rn, rc⟩]) (L ++ [optRL raw]) := by
  obtain ⟨a', c', e, r⟩ := ho.rd
  have hQ := h.1.len
  have hL := h.2.1
  rw [List.length_append, hQ] at e r
  refine ⟨a', c', e, r, by simp [hL], by unfold reachBytes; omega, fun j q l hq hl2 => ?_⟩
  by_cases hj : j < Q.length
  · rw [List.getElem?_append_left hj] at hq
    rw [List.getElem?_append_left (by omega)] at hl2
    exact h.2.2.2 j q l hq hl2
  · rw [List.getElem?_append_right (by omega)] at hq
    rw [List.getElem?_append_right (by omega), ← hL] at hl2
    obtain ⟨i, hi⟩ : ∃ i, j - Q.length = i := ⟨_, rfl⟩
    rw [hi] at hq hl2
    cases i with
    | succ i => simp at hq
    | zero =>
      simp at hq hl2
      subst hq
      subst hl2
      have hz : (0 : Nat) ≤ maxLen := Nat.zero_le _
      obtain ⟨hrd, hrl⟩ := own_rd_at hr
      exact ⟨⟨Rd.zero strE w none 0 hz, fun s hs => by simp [optRL] at hs, by dsimp only; omega⟩, ⟨[], Rd.zero slN w none 0 hz, rfl, by dsimp only; unfold reachBytes; omega, fun j p X hp => by simp at hp⟩, Rd.zero u32E w none 0 hz, ⟨Rd.zero strE w none 0 hz, fun s hs => by simp [optRL] at hs, by dsimp only; omega⟩, hrd, hs, by dsimp only; omega, ht, fun n hn => by simp [optRL] at hn, by dsimp only; omega, by unfold reachBytes; dsimp only; omega⟩
end Go.Proofs.Ythgnlbdolilklaa
