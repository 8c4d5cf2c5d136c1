/- A message is copied: edns.copied 51; printed by gen_cpm.py. -/
import Derived.Test.YthgnlbdolilklaaClS
namespace Go.Proofs.Ythgnlbdolilklaa
open Go Go.RowKit
def qCpM0 (p : String) : Oper := { dst := some 29, op := Op.load 55 (Operand.tmp 28), type := 55, pos := p, after := #[{ on := 1, ground := Ground.data }], guard := none }
def qCpM1 (p : String) : Oper := { dst := some 30, op := Op.call { callee := Callee.value (Operand.tmp 27), args := #[Operand.tmp 29], argTypes := #[55] }, type := 55, pos := p, after := #[{ on := 0, ground := Ground.data }, { on := 2, ground := Ground.data }], guard := none }
def qCpM2 (p : String) : Oper := { dst := some 33, op := Op.load 55 (Operand.tmp 32), type := 55, pos := p, after := #[{ on := 5, ground := Ground.data }], guard := none }
def qCpM3 (p : String) : Oper := { dst := some 34, op := Op.call { callee := Callee.value (Operand.tmp 31), args := #[Operand.tmp 33], argTypes := #[55] }, type := 55, pos := p, after := #[{ on := 4, ground := Ground.data }, { on := 6, ground := Ground.data }, { on := 3, ground := Ground.chain }], guard := none }
def qCpM4 (p : String) : Oper := { dst := some 37, op := Op.load 55 (Operand.tmp 36), type := 55, pos := p, after := #[{ on := 9, ground := Ground.data }], guard := none }
def qCpM5 (p : String) : Oper := { dst := some 39, op := Op.fieldAddr 60 (Operand.tmp 1) 11, type := 0, pos := p, after := #[{ on := 0, ground := Ground.phase }, { on := 1, ground := Ground.phase }, { on := 2, ground := Ground.phase }, { on := 3, ground := Ground.phase }, { on := 4, ground := Ground.textOnly Departure.lateStores }, { on := 5, ground := Ground.phase }, { on := 6, ground := Ground.phase }, { on := 7, ground := Ground.textOnly Departure.lateStoresUnsure }, { on := 8, ground := Ground.textOnly Departure.lateStores }, { on := 9, ground := Ground.phase }, { on := 10, ground := Ground.phase }, { on := 11, ground := Ground.textOnly Departure.lateStoresUnsure }], guard := none }
def qCpM6 (p : String) : Oper := { dst := some 38, op := Op.call { callee := Callee.value (Operand.tmp 35), args := #[Operand.tmp 37], argTypes := #[55] }, type := 55, pos := p, after := #[{ on := 8, ground := Ground.data }, { on := 10, ground := Ground.data }, { on := 7, ground := Ground.chain }], guard := none }
def qCpM7 (p : String) : Oper := { dst := none, op := Op.store 55 (Operand.tmp 39) (Operand.tmp 30), type := 0, pos := p, after := #[{ on := 12, ground := Ground.data }, { on := 3, ground := Ground.data }, { on := 11, ground := Ground.chain }, { on := 0, ground := Ground.phase }, { on := 1, ground := Ground.phase }, { on := 2, ground := Ground.phase }, { on := 3, ground := Ground.phase }, { on := 4, ground := Ground.textOnly Departure.lateStores }, { on := 5, ground := Ground.phase }, { on := 6, ground := Ground.phase }, { on := 7, ground := Ground.textOnly Departure.lateStoresUnsure }, { on := 8, ground := Ground.textOnly Departure.lateStores }, { on := 9, ground := Ground.phase }, { on := 10, ground := Ground.phase }, { on := 11, ground := Ground.textOnly Departure.lateStoresUnsure }], guard := none }
def qCpM8 (p : String) : Oper := { dst := some 40, op := Op.fieldAddr 60 (Operand.tmp 1) 12, type := 0, pos := p, after := #[{ on := 0, ground := Ground.phase }, { on := 1, ground := Ground.phase }, { on := 2, ground := Ground.phase }, { on := 3, ground := Ground.phase }, { on := 4, ground := Ground.phase }, { on := 5, ground := Ground.phase }, { on := 6, ground := Ground.phase }, { on := 7, ground := Ground.phase }, { on := 8, ground := Ground.textOnly Departure.lateStores }, { on := 9, ground := Ground.phase }, { on := 10, ground := Ground.phase }, { on := 11, ground := Ground.textOnly Departure.lateStoresUnsure }, { on := 12, ground := Ground.phase }, { on := 13, ground := Ground.phase }], guard := none }
def qCpM9 (p : String) : Oper := { dst := none, op := Op.store 55 (Operand.tmp 40) (Operand.tmp 34), type := 0, pos := p, after := #[{ on := 14, ground := Ground.data }, { on := 7, ground := Ground.data }, { on := 13, ground := Ground.chain }, { on := 0, ground := Ground.phase }, { on := 1, ground := Ground.phase }, { on := 2, ground := Ground.phase }, { on := 3, ground := Ground.phase }, { on := 4, ground := Ground.phase }, { on := 5, ground := Ground.phase }, { on := 6, ground := Ground.phase }, { on := 7, ground := Ground.phase }, { on := 8, ground := Ground.textOnly Departure.lateStores }, { on := 9, ground := Ground.phase }, { on := 10, ground := Ground.phase }, { on := 11, ground := Ground.textOnly Departure.lateStoresUnsure }, { on := 12, ground := Ground.phase }, { on := 13, ground := Ground.phase }], guard := none }
def qCpM10 (p : String) : Oper := { dst := some 41, op := Op.fieldAddr 60 (Operand.tmp 1) 13, type := 0, pos := p, after := #[{ on := 0, ground := Ground.phase }, { on := 1, ground := Ground.phase }, { on := 2, ground := Ground.phase }, { on := 3, ground := Ground.phase }, { on := 4, ground := Ground.phase }, { on := 5, ground := Ground.phase }, { on := 6, ground := Ground.phase }, { on := 7, ground := Ground.phase }, { on := 8, ground := Ground.phase }, { on := 9, ground := Ground.phase }, { on := 10, ground := Ground.phase }, { on := 11, ground := Ground.phase }, { on := 12, ground := Ground.phase }, { on := 13, ground := Ground.phase }, { on := 14, ground := Ground.phase }, { on := 15, ground := Ground.phase }], guard := none }
def qCpM11 (p : String) : Oper := { dst := none, op := Op.store 55 (Operand.tmp 41) (Operand.tmp 38), type := 0, pos := p, after := #[{ on := 16, ground := Ground.data }, { on := 11, ground := Ground.data }, { on := 15, ground := Ground.chain }, { on := 0, ground := Ground.phase }, { on := 1, ground := Ground.phase }, { on := 2, ground := Ground.phase }, { on := 3, ground := Ground.phase }, { on := 4, ground := Ground.phase }, { on := 5, ground := Ground.phase }, { on := 6, ground := Ground.phase }, { on := 7, ground := Ground.phase }, { on := 8, ground := Ground.phase }, { on := 9, ground := Ground.phase }, { on := 10, ground := Ground.phase }, { on := 11, ground := Ground.phase }, { on := 12, ground := Ground.phase }, { on := 13, ground := Ground.phase }, { on := 14, ground := Ground.phase }, { on := 15, ground := Ground.phase }], guard := none }
theorem Try.info90 : (Try.prog.info? 90).map (fun i => (i.zero, i.size, i.bytes)) = some (some (.agg #[.slice none 0 0, .int .u16 0, .int .u16 0]), 3, 32) := by kernel_rfl
/-- a question as it lies -/
structure QD where
 na : Option Addr
 nn : Nat
 nc : Nat
 t : Nat
 k : Nat
def qsE : Enc QD := ⟨90, 3, fun q => [.slice q.na q.nn q.nc, .int .u16 q.t, .int .u16 q.k], ⟨none, 0, 0, 0, 0⟩, fun _ => rfl, fun x v hv => by simp at hv; rcases hv with rfl | rfl | rfl <;> rfl, by decide⟩
def RdQs (w : World) (a : Option Addr) (n c : Nat) (QS : List QD) (NS : List Nm) : Prop := Rd qsE w a n c QS ∧ QS.length = NS.length ∧ n * 32 ≤ reachBytes ∧ ∀ (j : Nat) (q : QD) (N : Nm), QS[j]? = some q → NS[j]? = some N → RdT w q.na q.nn q.nc N
theorem RdQs.ext {w w' : World} {a : Option Addr} {n c : Nat} {QS : List QD} {NS : List Nm} (h : RdQs w a n c QS NS) (hb : Below w.heap.size w w') : RdQs w' a n c QS NS := ⟨h.1.ext hb, h.2.1, h.2.2.1, fun j q N hq hN => (h.2.2.2 j q N hq hN).ext hb⟩
def OwnQs (w : World) (base : Nat) (v : Value) (QS : List QD) (NS : List Nm) : Prop :=
 ∃ qs : List QD, Own qsE w base v qs ∧ qs.length = QS.length ∧ ∀ (j : Nat) (q q0 : QD) (N : Nm), qs[j]? = some q → QS[j]? = some q0 → NS[j]? = some N → Own strE w base (.slice q.na q.nn q.nc) N ∧ q.t = q0.t ∧ q.k = q0.k
theorem OwnQs.nil (w : World) (base : Nat) : OwnQs w base (.slice none 0 0) [] [] := ⟨[], Own.nil _ _ _, rfl, fun j q q0 N h => by simp at h⟩
theorem OwnQs.ext {w w' : World} {base : Nat} {v : Value} {QS : List QD} {NS : List Nm} (h : OwnQs w base v QS NS) (hb : Below w.heap.size w w') : OwnQs w' base v QS NS := by
 obtain ⟨qs, h1, h2, h3⟩ := h
 exact ⟨qs, h1.ext hb, h2, fun j q q0 N hq h0 hN => ⟨(h3 j q q0 N hq h0 hN).1.ext hb, (h3 j q q0 N hq h0 hN).2⟩⟩
theorem OwnQs.shape {w : World} {base : Nat} {v : Value} {QS : List QD} {NS : List Nm} (h : OwnQs w base v QS NS) : ∃ a c, v = .slice a QS.length c := by
 obtain ⟨qs, h1, h2, _⟩ := h
 obtain ⟨a, c, e⟩ := h1.shape
 exact ⟨a, c, by rw [e, h2]⟩
theorem ownQs_store {w w' : World} {b k : Nat} {v : Value} {QS : List QD} {NS : List Nm} {t : TypeId} {fz : Nat × Nat} {C : List Value} (ho : OwnQs w b v QS NS) (hB : Blk w k t fz C) (h1 : (90 : Nat) ≠ t) (h2 : (9 : Nat) ≠ t) (hg : w.grownBy w' (some k)) : OwnQs w' b v QS NS := by
 obtain ⟨qs, p1, p2, p3⟩ := ho
 exact ⟨qs, own_store p1 hB h1 hg, p2, fun j q q0 N hq h0 hN => ⟨own_store (p3 j q q0 N hq h0 hN).1 hB h2 hg, (p3 j q q0 N hq h0 hN).2⟩⟩
theorem OwnQs.app {w w' : World} {base : Nat} {v v' : Value} {QS : List QD} {NS : List Nm} {qs : List QD} {q q0 : QD} {N : Nm} (h1 : Own qsE w base v qs) (h2 : qs.length = QS.length) (h2' : NS.length = QS.length)
 (h3 : ∀ (j : Nat) (q q0 : QD) (N : Nm), qs[j]? = some q → QS[j]? = some q0 → NS[j]? = some N → Own strE w base (.slice q.na q.nn q.nc) N ∧ q.t = q0.t ∧ q.k = q0.k)
 (hq : Own strE w base (.slice q.na q.nn q.nc) N ∧ q.t = q0.t ∧ q.k = q0.k) (ho : Own qsE w' base v' (qs ++ [q])) (hg : w.grownBy w' v.ownBlock) : OwnQs w' base v' (QS ++ [q0]) (NS ++ [N]) := by
 refine ⟨qs ++ [q], ho, by simp [h2], fun j x x0 Y hx hx0 hY => ?_⟩
 rw [List.getElem?_append] at hx hx0 hY
 by_cases hj : j < qs.length
 ·rw [if_pos hj] at hx
  rw [if_pos (by omega)] at hx0 hY
  obtain ⟨r1, r2⟩ := h3 j x x0 Y hx hx0 hY
  exact ⟨own_grown r1 h1 (by decide) hg, r2⟩
 ·rw [if_neg hj] at hx
  rw [if_neg (by omega), ← h2] at hx0
  rw [if_neg (by omega), h2', ← h2] at hY
  obtain ⟨m, hm⟩ : ∃ m, j - qs.length = m := ⟨_, rfl⟩
  rw [hm] at hx hx0 hY
  cases m with
  | succ m => simp at hx
  | zero =>
   simp only [List.getElem?_cons_zero, Option.some.injEq] at hx hx0 hY
   subst hx hx0 hY
   exact ⟨own_grown hq.1 h1 (by decide) hg, hq.2⟩
/-- two slices of the call's own lie in two blocks -/
def Apt (v v' : Value) : Prop := ∀ k, v.ownBlock = some k → v'.ownBlock ≠ some k
theorem apt_new {w w' : World} {b : Nat} {v v' : Value} {Q Q' : List RD} {L L' : List RL} (h : OwnRs w b v Q L) (h' : OwnRs w' w.heap.size v' Q' L') : Apt v v' := fun k h1 h2 => by
 have := (h.lt k h1).2
 have := (h'.lt k h2).1
 omega
theorem OwnRs.mono {w : World} {b b' : Nat} {v : Value} {QS : List RD} {LS : List RL} (h : OwnRs w b v QS LS) (hb : b' ≤ b) : OwnRs w b' v QS LS := by
 obtain ⟨qs, h1, h2, h3⟩ := h
 exact ⟨qs, h1.mono hb, h2, fun j q q0 L hq h0 hL => ⟨(h3 j q q0 L hq h0 hL).1.mono hb, (h3 j q q0 L hq h0 hL).2⟩⟩
theorem OwnRec.store {w w' : World} {b k : Nat} {q : RD} {L : RL} {fz : Nat × Nat} {C : List Value} (h : OwnRec w b q L) (hB : Blk w k 60 fz C) (hg : w.grownBy w' (some k)) : OwnRec w' b q L :=
 ⟨own_store h.ow hB (by decide) hg, ownN_store h.nm hB (by decide) (by decide) hg, own_store h.nu hB (by decide) hg, own_store h.tx hB (by decide) hg, own_store h.raw hB (by decide) hg⟩
theorem ownRs_store {w w' : World} {b k : Nat} {v : Value} {QS : List RD} {LS : List RL} {fz : Nat × Nat} {C : List Value} (ho : OwnRs w b v QS LS) (hB : Blk w k 60 fz C) (hg : w.grownBy w' (some k)) : OwnRs w' b v QS LS := by
 obtain ⟨qs, p1, p2, p3⟩ := ho
 exact ⟨qs, own_store p1 hB (by decide) hg, p2, fun j q q0 L hq h0 hL => ⟨(p3 j q q0 L hq h0 hL).1.store hB hg, (p3 j q q0 L hq h0 hL).2⟩⟩
/-- a call through a value, with one argument, as a step of a region that draws -/
theorem step_callv {P : Program} {ops : Array Oper} {o : Oper} {a : Act} {w : World} {K : Act → World → Prop} {Q : Exit → Act → World → Prop} {Ep : Prop} (hgd : o.guard = none) {f : FuncId} (c x : Operand) (t : TypeId)
 (ho : o.op = .call { callee := .value c, args := #[x], argTypes := #[t] }) (hc : a.eval c = .func (.func f) #[] #[]) {v : Value} (hx : a.eval x = v) (hcf : ∀ (args : Array Value) (w : World), (callFunc f args).run P w = .ok (.enter f args) w)
 (h : Calls P f #[v] w fun e w' => ∃ r, e = .returned r ∧ K (a.put o.dst r) w') : if Region.wanted o (yielded ops a.tmps) = true then Oper.wp P o a w K Q else Ep := by
 have hw : Region.wanted o (yielded ops a.tmps) = true := by simp [Region.wanted, hgd]
 rw [if_pos hw]
 unfold Oper.wp execOp
 have e : (Deferred.ofValue (Value.func (Fn.func f) #[] #[]) #[v]).run P w = .ok { target := .fn (.func f) #[], args := #[v] } w := by simp [Deferred.ofValue]
 simp only [ho, resolve, invoke, Sem.run_bind, List.map_toArray, List.map_cons, List.map_nil, hx, hc, e, Result.andThen_ok, Array.append_empty, hcf, Oper.upon_enter]
 refine h.mono ?_
 rintro e w' ⟨r, rfl, hk⟩
 exact hk
theorem enter66 (args : Array Value) (w : World) : (callFunc 66 args).run Try.prog w = .ok (.enter 66 args) w := Go.MuLone.run_callFunc_enter Try.func66 (by kernel_rfl) (by rfl) args w
theorem rd_qs {w : World} {a : Option Addr} {n c : Nat} {l : List QD} (h : Rd qsE w a n c l) (h0 : 0 < n) : ∃ b o, a = some ⟨b, o, none⟩ ∧ b < w.heap.size ∧ ∀ j (hj : j < l.length), w.cell? ⟨b, o + j * 3, none⟩ = some (.slice l[j].na l[j].nn l[j].nc) ∧ w.cell? ⟨b, o + j * 3 + 1, none⟩ = some (.int .u16 l[j].t) ∧ w.cell? ⟨b, o + j * 3 + 2, none⟩ = some (.int .u16 l[j].k) := by
 obtain ⟨b, o, h1, h2, h3⟩ := h.addr h0
 exact ⟨b, o, h1, h2, fun j hj => ⟨h3 j hj 0 (by decide), h3 j hj 1 (by decide), h3 j hj 2 (by decide)⟩⟩
set_option maxHeartbeats 16000000 in
set_option maxRecDepth 100000 in
theorem copied_any {w : World} {qa : Option Addr} {qn qc : Nat} {QS : List QD} {NS : List Nm} (hQ : RdQs w qa qn qc QS NS) {an : Option Addr} {nn1 nc1 : Nat} {Q1 : List RD} {L1 : List RL} (h1 : RdRs w an nn1 nc1 Q1 L1) {au : Option Addr} {nn2 nc2 : Nat} {Q2 : List RD} {L2 : List RL} (h2 : RdRs w au nn2 nc2 Q2 L2)
 {ad : Option Addr} {nn3 nc3 : Nat} {Q3 : List RD} {L3 : List RL} (h3 : RdRs w ad nn3 nc3 Q3 L3) (m0 m1 m2 m3 m4 m5 m6 m7 m8 m9 : Value) (ho : [m0, m1, m2, m3, m4, m5, m6, m7, m8, m9].all (·.oneCell') = true) :
 Calls Try.prog 51 #[.agg #[m0, m1, m2, m3, m4, m5, m6, m7, m8, m9, .slice qa qn qc, .slice an nn1 nc1, .slice au nn2 nc2, .slice ad nn3 nc3]] w fun e w' => (∃ vq v1 v2 v3, e = .returned (.agg #[m0, m1, m2, m3, m4, m5, m6, m7, m8, m9, vq, v1, v2, v3]) ∧ OwnQs w' w.heap.size vq QS NS ∧ OwnRs w' w.heap.size v1 Q1 L1 ∧ OwnRs w' w.heap.size v2 Q2 L2 ∧ OwnRs w' w.heap.size v3 Q3 L3 ∧ Apt v1 v2 ∧ Apt v1 v3 ∧ Apt v2 v3) ∧ Below w.heap.size w w' := by
 obtain ⟨W1, hW1⟩ : ∃ W, w.alloc (.cells #[m0, m1, m2, m3, m4, m5, m6, m7, m8, m9, .slice qa qn qc, .slice an nn1 nc1, .slice au nn2 nc2, .slice ad nn3 nc3] 60) = W := ⟨_, rfl⟩
 obtain ⟨W2, hW2⟩ : ∃ W, W1.alloc (.cells #[.int .u16 0, .bool false, .int .i64 0, .bool false, .bool false, .bool false, .bool false, .bool false, .bool false, .int .i64 0, .slice none 0 0, .slice none 0 0, .slice none 0 0, .slice none 0 0] 60) = W := ⟨_, rfl⟩
 have B1 : Blk W1 w.heap.size 60 (0, 0) [m0, m1, m2, m3, m4, m5, m6, m7, m8, m9, .slice qa qn qc, .slice an nn1 nc1, .slice au nn2 nc2, .slice ad nn3 nc3] := by rw [← hW1]; exact Blk.new w 60 (0, 0) #[m0, m1, m2, m3, m4, m5, m6, m7, m8, m9, .slice qa qn qc, .slice an nn1 nc1, .slice au nn2 nc2, .slice ad nn3 nc3]
 have B2 : Hid (Blk W2 W1.heap.size 60 (0, 0) [.int .u16 0, .bool false, .int .i64 0, .bool false, .bool false, .bool false, .bool false, .bool false, .bool false, .int .i64 0, .slice none 0 0, .slice none 0 0, .slice none 0 0, .slice none 0 0]) := Lib.hid (by rw [← hW2]; exact Blk.new W1 60 (0, 0) #[.int .u16 0, .bool false, .int .i64 0, .bool false, .bool false, .bool false, .bool false, .bool false, .bool false, .int .i64 0, .slice none 0 0, .slice none 0 0, .slice none 0 0, .slice none 0 0])
 have k1 : Below w.heap.size w W1 := by rw [← hW1]; exact alloc_bel _ _
 have k2 : Below W1.heap.size W1 W2 := by rw [← hW2]; exact alloc_bel _ _
 have hl1 : Hid (w.heap.size < W1.heap.size) := Lib.hid B1.lt
 have hb2 : Hid (Below w.heap.size w W2) := Lib.hid (k1.trans (k2.mono k1.size))
 have B12 := Lib.hid (B1.below k2 B1.lt)
 have p10 : W2.cell? ⟨w.heap.size, 10, none⟩ = some (.slice qa qn qc) := (B12.out.cell 10).trans rfl
 have f10 : W2.frozen? ⟨w.heap.size, 10, none⟩ = false := by rw [B12.out.frozen]; try simp
 have hQl := hQ.1.len
 have hQl2 := hQ.2.1
 have hqn : qn ≤ 1152921504606846976 := by have := hQ.2.2.1; unfold reachBytes at this; omega
 have hqb : Hid (qn * 32 ≤ 140737488355328) := Lib.hid (by have := hQ.2.2.1; unfold reachBytes at this; omega)
 have hH := Lib.hid hQ
 have hR1 := Lib.hid h1
 have hR2 := Lib.hid h2
 have hR3 := Lib.hid h3
 clear hQ h1 h2 h3 B1 k1 k2
 go_enter Try.func51, Try.ntmps51
 go_upto_region 5 with (fail)
 try rw [hW1]
 try rw [hW2]
 clear hW1 hW2
 obtain ⟨V, hV⟩ : ∃ V, W2.setCell ⟨w.heap.size, 10, none⟩ (.slice none 0 0) = V := ⟨_, rfl⟩
 rw [hV]
 have hgV : Hid (W2.grownBy V (some w.heap.size)) := Lib.hid (by rw [← hV]; exact grown_set _ _ _ _)
 have hM : Hid (Blk V w.heap.size 60 (0, 0) [m0, m1, m2, m3, m4, m5, m6, m7, m8, m9, .slice none 0 0, .slice an nn1 nc1, .slice au nn2 nc2, .slice ad nn3 nc3]) := Lib.hid (by rw [← hV]; exact B12.out.set 10 _)
 have hZ : Hid (Blk V W1.heap.size 60 (0, 0) [.int .u16 0, .bool false, .int .i64 0, .bool false, .bool false, .bool false, .bool false, .bool false, .bool false, .int .i64 0, .slice none 0 0, .slice none 0 0, .slice none 0 0, .slice none 0 0]) := Lib.hid (B2.out.grownV2 hgV.out (fun e => by have e2 := Option.some.inj e; have := hl1.out; omega))
 have hbV : Hid (Below w.heap.size w V) := Lib.hid (hb2.out.grown hgV.out hb2.out.size (fun j hj => by cases hj; exact Nat.le_refl _))
 clear hV hgV B12 B2 p10 f10 hb2
 go_loopw [12] (fun i wr => ∃ (k : Nat) (v : Value), k ≤ qn ∧ i = .int .i64 k ∧ Hid (Blk wr w.heap.size 60 (0, 0) [m0, m1, m2, m3, m4, m5, m6, m7, m8, m9, v, .slice an nn1 nc1, .slice au nn2 nc2, .slice ad nn3 nc3]) ∧ Hid (Blk wr W1.heap.size 60 (0, 0) [.int .u16 0, .bool false, .int .i64 0, .bool false, .bool false, .bool false, .bool false, .bool false, .bool false, .int .i64 0, .slice none 0 0, .slice none 0 0, .slice none 0 0, .slice none 0 0]) ∧ Hid (OwnQs wr w.heap.size v (QS.take k) (NS.take k)) ∧ Hid (Below w.heap.size w wr)) (fun i _ => qn - (intOf i).toNat)
 case atStart => exact ⟨0, _, Nat.zero_le _, rfl, hM, hZ, Lib.hid (OwnQs.nil _ _), hbV⟩
 case round =>
  clear hM hZ hbV
  obtain ⟨k, v, hk, rfl, hM, hZ, hv, hb⟩ := hrel
  by_cases hlt : k < qn
  ·have hkI : (k : Int) < qn := by omega
   have hks : k < QS.length := by omega
   obtain ⟨b, o, rfl, hbs, hc⟩ := rd_qs (hH.out.1.ext hb.out) (by omega)
   obtain ⟨c0, c1, c2⟩ := hc k hks
   clear hc
   obtain ⟨x, hx⟩ : ∃ x, QS[k] = x := ⟨_, rfl⟩
   have hxs : Hid (QS[k]? = some x) := Lib.hid (by rw [List.getElem?_eq_getElem hks, hx])
   rw [hx] at c0 c1 c2
   clear hx
   obtain ⟨N, hN⟩ : ∃ N, NS[k]? = some N := ⟨NS[k]'(by omega), List.getElem?_eq_getElem _⟩
   have hNs := Lib.hid hN
   have hnm := Lib.hid ((hH.out.2.2.2 k x N hxs.out hN).ext hb.out)
   clear hN
   obtain ⟨xa, xn, xc, xt, xk⟩ := x
   dsimp only at c0 c1 c2
   have hnm' : Hid (RdT wr xa xn xc N) := hnm
   clear hnm
   have hxn : Hid (xn * 16 ≤ 140737488355328) := Lib.hid (by have := hnm'.out.2.2; unfold reachBytes at this; omega)
   obtain ⟨qs, p1, p2, p3⟩ := hv.out
   have hkt : (QS.take k).length = k := by rw [List.length_take]; omega
   obtain ⟨av, cv, rfl⟩ := hv.out.shape
   rw [hkt] at p1 hM
   have hql : qs.length = k := by rw [p2, hkt]
   have hp1 := Lib.hid p1
   have hp2 := Lib.hid p2
   have hp3 := Lib.hid p3
   clear p1 p2 p3 hv
   obtain ⟨W5, hW5⟩ : ∃ W, wr.alloc (.cells #[.slice none 0 0, .int .u16 0, .int .u16 0] 90) = W := ⟨_, rfl⟩
   have hN5 : Hid (Blk W5 wr.heap.size 90 (0, 0) [.slice none 0 0, .int .u16 0, .int .u16 0]) := Lib.hid (by rw [← hW5]; exact Blk.new wr 90 (0, 0) #[.slice none 0 0, .int .u16 0, .int .u16 0])
   have hk5 : Hid (Below wr.heap.size wr W5) := Lib.hid (by rw [← hW5]; exact alloc_bel _ _)
   go_upto_region 7 with (refine store_whole rfl 90 (.tmp 6) (.tmp 15) rfl rfl rfl hN5.out (by rfl) (by kernel_rfl) (by kernel_rfl) ?_; intro w5 hB6 hg6 hz6; have hR5 := Lib.hid hB6; have hkR := Lib.hid (fresh_store hk5.out hg6); clear hB6 hg6 hz6)
   clear hW5 hN5 hk5 c0 c1 c2
   have d0 : w5.cell? ⟨wr.heap.size, 0, none⟩ = some (.slice xa xn xc) := (hR5.out.cell 0).trans rfl
   have hcl1 := Lib.hid (clone_name (hnm'.out.1.ext hkR.out) hxn.out)
   go_wp2_with fail
   refine hcl1.out.mono ?_
   rintro e w6 ⟨⟨aO, cO, rfl, hO⟩, hb6⟩
   have hO6 := Lib.hid hO
   have hR6 := Lib.hid (hR5.out.below hb6 hR5.out.lt)
   have hk6 := Lib.hid (hkR.out.trans (hb6.mono hkR.out.size))
   have h5le : Hid (wr.heap.size ≤ w5.heap.size) := Lib.hid hkR.out.size
   clear hO hb6 hcl1 d0
   have e0 : w6.cell? ⟨wr.heap.size, 0, none⟩ = some (.slice xa xn xc) := (hR6.out.cell 0).trans rfl
   have f0 : w6.frozen? ⟨wr.heap.size, 0, none⟩ = false := by rw [hR6.out.frozen]; try simp
   go_upto_region 8 with (fail)
   obtain ⟨V7, hV7⟩ : ∃ V, w6.setCell ⟨wr.heap.size, 0, none⟩ (.slice aO xn cO) = V := ⟨_, rfl⟩
   rw [hV7]
   have hg7 : Hid (w6.grownBy V7 (some wr.heap.size)) := Lib.hid (by rw [← hV7]; exact grown_set _ _ _ _)
   have hR7 : Hid (Blk V7 wr.heap.size 90 (0, 0) [.slice aO xn cO, .int .u16 xt, .int .u16 xk]) := Lib.hid (by rw [← hV7]; exact hR6.out.set 0 _)
   have hO7 := Lib.hid (own_store hO6.out hR6.out (by decide) hg7.out)
   have hk7 : Hid (Below wr.heap.size wr V7) := Lib.hid (hk6.out.grown hg7.out hk6.out.size (fun j hj => by cases hj; exact Nat.le_refl _))
   clear hV7 e0 f0 hR5 hR6 hO6 hk6 hg7 hkR
   have y0 : V7.cell? ⟨wr.heap.size, 0, none⟩ = some (.slice aO xn cO) := (hR7.out.cell 0).trans rfl
   have y1 : V7.cell? ⟨wr.heap.size, 1, none⟩ = some (.int .u16 xt) := (hR7.out.cell 1).trans rfl
   have y2 : V7.cell? ⟨wr.heap.size, 2, none⟩ = some (.int .u16 xk) := (hR7.out.cell 2).trans rfl
   have hM7 := Lib.hid (hM.out.below hk7.out hM.out.lt)
   have hZ7 := Lib.hid (hZ.out.below hk7.out hZ.out.lt)
   have t10 : V7.cell? ⟨w.heap.size, 10, none⟩ = some (.slice av k cv) := (hM7.out.cell 10).trans rfl
   obtain ⟨V1, hV1⟩ : ∃ V, V7.alloc (.cells #[.slice aO xn cO, .int .u16 xt, .int .u16 xk] 90) = V := ⟨_, rfl⟩
   have hkV : Hid (Below V7.heap.size V7 V1) := Lib.hid (by rw [← hV1]; exact alloc_bel _ _)
   have hBV : Hid (Blk V1 V7.heap.size 90 (0, 0) [.slice aO xn cO, .int .u16 xt, .int .u16 xk]) := Lib.hid (by rw [← hV1]; exact Blk.new V7 90 (0, 0) #[.slice aO xn cO, .int .u16 xt, .int .u16 xk])
   obtain ⟨i0, hi7, hq0, hq1, hq2⟩ := info_parts Try.info90
   have hsrc : Src Try.prog qsE.k 58 (.slice (some ⟨V7.heap.size, 0, none⟩) 1 1) 1 (rowOf qsE [(⟨aO, xn, cO, xt, xk⟩ : QD)]) V1 := (rd_blk (E := qsE) (X := [(⟨aO, xn, cO, xt, xk⟩ : QD)]) (fz := (0, 0)) hBV.out 1 rfl (by decide)).src (P := Try.prog) (tx := 58) Try.underlying58
   have hwk : Hid (w.heap.size ≤ wr.heap.size) := Lib.hid hb.out.size
   have hkA := Lib.hid (hk7.out.trans (hkV.out.mono hk7.out.size))
   have hsz1 : Hid (w.heap.size ≤ V1.heap.size) := Lib.hid (Nat.le_trans hwk.out hkA.out.size)
   have hqbx := hqb.out
   go_wp2_with (at_builtin; refine app_own (E := qsE) (l := qs) (news := [(⟨aO, xn, cO, xt, xk⟩ : QD)]) (base := w.heap.size) rfl (.tmp 21) (.tmp 23) 58 58 rfl Try.underlying58 hi7 hq0 hq1 hq2 rfl rfl (hp1.out.ext hkA.out) rfl hsrc (by simp [maxLen]; omega) (by simp; omega) hsz1.out ?_)
   intro v9 w9 ho9 hg9 _
   have hown9 := OwnQs.app (QS := QS.take k) (NS := NS.take k) (hp1.out.ext hkA.out) hp2.out (by simp; omega) (fun jj q q0 LL h1 h2 h3 => ⟨(hp3.out jj q q0 LL h1 h2 h3).1.ext hkA.out, (hp3.out jj q q0 LL h1 h2 h3).2⟩) (q := ⟨aO, xn, cO, xt, xk⟩) (q0 := ⟨xa, xn, xc, xt, xk⟩) ⟨((hO7.out.mono h5le.out).mono hwk.out).ext hkV.out, rfl, rfl⟩ ho9 hg9
   have eQ : QS.take k ++ [⟨xa, xn, xc, xt, xk⟩] = QS.take (k + 1) := by
    rw [List.take_add_one, hxs.out]
    rfl
   have eL : NS.take k ++ [N] = NS.take (k + 1) := by
    rw [List.take_add_one, hNs.out]
    rfl
   rw [eQ, eL] at hown9
   have hM9 := Lib.hid (blk_own (hM7.out.below hkV.out hM7.out.lt) (hp1.out.ext hkA.out) (by decide) hg9)
   have hZ9 := Lib.hid (blk_own (hZ7.out.below hkV.out hZ7.out.lt) (hp1.out.ext hkA.out) (by decide) hg9)
   have hb9 : Hid (Below w.heap.size w w9) := Lib.hid (own_below (hb.out.trans (hkA.out.mono hwk.out)) hg9 (hp1.out.ext hkA.out) hsz1.out (Nat.le_refl _))
   obtain ⟨a9, c9, rfl⟩ := hown9.shape
   have hown9' := Lib.hid hown9
   have u10 : w9.cell? ⟨w.heap.size, 10, none⟩ = some (.slice av k cv) := (hM9.out.cell 10).trans rfl
   have g10 : w9.frozen? ⟨w.heap.size, 10, none⟩ = false := by rw [hM9.out.frozen]; try simp
   clear hown9 ho9 hg9 hV1 hkV hBV hsrc y0 y1 y2 t10 hM7 hZ7 hM hZ eQ eL
   generalize (QS.take (k + 1)).length = lk at *
   obtain ⟨Y, hY⟩ : ∃ V, w9.setCell ⟨w.heap.size, 10, none⟩ (.slice a9 lk c9) = V := ⟨_, rfl⟩
   have hgY : Hid (w9.grownBy Y (some w.heap.size)) := Lib.hid (by rw [← hY]; exact grown_set _ _ _ _)
   have yM : Hid (Blk Y w.heap.size 60 (0, 0) [m0, m1, m2, m3, m4, m5, m6, m7, m8, m9, .slice a9 lk c9, .slice an nn1 nc1, .slice au nn2 nc2, .slice ad nn3 nc3]) := Lib.hid (by rw [← hY]; exact hM9.out.set 10 _)
   have yZ := Lib.hid (hZ9.out.grownV2 hgY.out (fun e => by have e2 := Option.some.inj e; have := hl1.out; omega))
   have yO := Lib.hid (ownQs_store hown9'.out hM9.out (by decide) (by decide) hgY.out)
   have yb : Hid (Below w.heap.size w Y) := Lib.hid (hb9.out.grown hgY.out hb9.out.size (fun j hj => by cases hj; exact Nat.le_refl _))
   go_wp2_with fail
   try rw [hY]
   clear hY
   go_roundw
   case rel => exact ⟨k + 1, _, by omega, by go_num, yM, yZ, yO, yb⟩
   case measure => simp [intOf]; omega
  ·have hk0 : k = qn := by omega
   subst hk0
   rw [List.take_of_length_le (by omega), List.take_of_length_le (by omega)] at hv
   obtain ⟨av, cv, rfl⟩ := hv.out.shape
   go_upto_region 9 with (fail)
   generalize QS.length = aq at *
   clear hH hqn hqb hk hlt hQl hQl2
   go_cut [1] from 27 to 41 (fun t1 wx => ∃ v1 v2 v3, t1 = .pointer (some ⟨w.heap.size, 0, none⟩) ∧ v1.oneCell' = true ∧ v2.oneCell' = true ∧ v3.oneCell' = true ∧ Hid (Blk wx w.heap.size 60 (0, 0) [m0, m1, m2, m3, m4, m5, m6, m7, m8, m9, .slice av aq cv, v1, v2, v3]) ∧ Hid (Blk wx W1.heap.size 60 (0, 0) [.int .u16 0, .bool false, .int .i64 0, .bool false, .bool false, .bool false, .bool false, .bool false, .bool false, .int .i64 0, .slice none 0 0, .slice none 0 0, .slice none 0 0, .slice none 0 0]) ∧ Hid (OwnQs wx w.heap.size (.slice av aq cv) QS NS) ∧ Hid (OwnRs wx w.heap.size v1 Q1 L1) ∧ Hid (OwnRs wx w.heap.size v2 Q2 L2) ∧ Hid (OwnRs wx w.heap.size v3 Q3 L3) ∧ Hid (Apt v1 v2 ∧ Apt v1 v3 ∧ Apt v2 v3) ∧ Hid (Below w.heap.size w wx))
   case first =>
    refine wp_region_noPanic ?_
    refine wp_region_held_drew (S := fun _ => True) (by kernel_rfl) trivial (fun hHeld => ?_)
    have k0 : Hid (Below wr.heap.size wr wr.drew) := Lib.hid (Below.refl _ _).drew
    have B0 : Hid (Blk wr.drew w.heap.size 60 (0, 0) [m0, m1, m2, m3, m4, m5, m6, m7, m8, m9, .slice av aq cv, .slice an nn1 nc1, .slice au nn2 nc2, .slice ad nn3 nc3]) := Lib.hid (hM.out.below k0.out hM.out.lt)
    generalize wr.drew = U0 at *
    have z11_0 : U0.cell? ⟨w.heap.size, 11, none⟩ = some (.slice an nn1 nc1) := (B0.out.cell 11).trans rfl
    have z12_0 : U0.cell? ⟨w.heap.size, 12, none⟩ = some (.slice au nn2 nc2) := (B0.out.cell 12).trans rfl
    have z13_0 : U0.cell? ⟨w.heap.size, 13, none⟩ = some (.slice ad nn3 nc3) := (B0.out.cell 13).trans rfl
    refine tkz 0 ({ dst := some 27, op := Op.move (Operand.tmp 3), type := 93, pos := _, after := #[], guard := none }) ?_ rfl ?_ ?_
    rotate_left
    ·intro w hSw
     go_simp
     first | done | with_reducible rfl
    try simp only [pz0, pz2, pz3, pz4]
    refine tkz 1 ({ dst := some 28, op := Op.fieldAddr 60 (Operand.tmp 1) 11, type := 0, pos := _, after := #[], guard := none }) ?_ rfl ?_ ?_
    rotate_left
    ·intro w hSw
     go_simp
     first | done | with_reducible rfl
    try simp only [pz0, pz2, pz3, pz4]
    refine tkz 4 ({ dst := some 31, op := Op.move (Operand.tmp 3), type := 93, pos := _, after := #[], guard := none }) ?_ rfl ?_ ?_
    rotate_left
    ·intro w hSw
     go_simp
     first | done | with_reducible rfl
    try simp only [pz0, pz2, pz3, pz4]
    refine tkz 5 ({ dst := some 32, op := Op.fieldAddr 60 (Operand.tmp 1) 12, type := 0, pos := _, after := #[], guard := none }) ?_ rfl ?_ ?_
    rotate_left
    ·intro w hSw
     go_simp
     first | done | with_reducible rfl
    try simp only [pz0, pz2, pz3, pz4]
    refine tkz 8 ({ dst := some 35, op := Op.move (Operand.tmp 3), type := 93, pos := _, after := #[], guard := none }) ?_ rfl ?_ ?_
    rotate_left
    ·intro w hSw
     go_simp
     first | done | with_reducible rfl
    try simp only [pz0, pz2, pz3, pz4]
    refine tkz 9 ({ dst := some 36, op := Op.fieldAddr 60 (Operand.tmp 1) 13, type := 0, pos := _, after := #[], guard := none }) ?_ rfl ?_ ?_
    rotate_left
    ·intro w hSw
     go_simp
     first | done | with_reducible rfl
    try simp only [pz0, pz2, pz3, pz4]
    refine wpAnyH_ready (rs := [2, 6, 10]) (by kernel_rfl) (by simp) ?_
    refine arz (qCpM0 _) rfl (fun K hK => ?_) ?_
    ·unfold qCpM0
     go_simp
     refine hK.out _ _ trivial (fun hHeld => ?_)
     clear hK K
     try simp only [pz0, pz2, pz3, pz4]
     refine wpAnyH_ready (rs := [3, 6, 10]) (by kernel_rfl) (by simp) ?_
     refine arz (qCpM1 _) rfl (fun K hK => ?_) ?_
     ·unfold qCpM1
      refine step_callv (by rfl) (.tmp 27) (.tmp 29) 55 (by rfl) (by rfl) (by rfl) enter66 ?_
      refine (recs_copy ((hR1.out.ext hb.out).ext k0.out)).mono ?_
      rintro e G1 ⟨⟨v1, rfl, hw⟩, m1⟩
      have k1 := Lib.hid (k0.out.trans (m1.mono k0.out.size))
      have B1 := Lib.hid (B0.out.below m1 B0.out.lt)
      have V1_1 := Lib.hid (hw.mono (Nat.le_trans hb.out.size k0.out.size))
      obtain ⟨a1, c1, rfl⟩ := hw.shape
      have z11_1 : G1.cell? ⟨w.heap.size, 11, none⟩ = some (.slice an nn1 nc1) := (B1.out.cell 11).trans rfl
      have z12_1 : G1.cell? ⟨w.heap.size, 12, none⟩ = some (.slice au nn2 nc2) := (B1.out.cell 12).trans rfl
      have z13_1 : G1.cell? ⟨w.heap.size, 13, none⟩ = some (.slice ad nn3 nc3) := (B1.out.cell 13).trans rfl
      clear hw m1
      refine ⟨_, rfl, ?_⟩
      refine hK.out _ _ trivial (fun hHeld => ?_)
      clear hK K
      try simp only [pz0, pz2, pz3, pz4]
      refine wpAnyH_ready (rs := [6, 10]) (by kernel_rfl) (by simp) ?_
      refine arz (qCpM2 _) rfl (fun K hK => ?_) ?_
      ·unfold qCpM2
       go_simp
       refine hK.out _ _ trivial (fun hHeld => ?_)
       clear hK K
       try simp only [pz0, pz2, pz3, pz4]
       refine wpAnyH_ready (rs := [7, 10]) (by kernel_rfl) (by simp) ?_
       refine arz (qCpM3 _) rfl (fun K hK => ?_) ?_
       ·unfold qCpM3
        refine step_callv (by rfl) (.tmp 31) (.tmp 33) 55 (by rfl) (by rfl) (by rfl) enter66 ?_
        refine (recs_copy ((hR2.out.ext hb.out).ext k1.out)).mono ?_
        rintro e G2 ⟨⟨v2, rfl, hw⟩, m2⟩
        have k2 := Lib.hid (k1.out.trans (m2.mono k1.out.size))
        have B2 := Lib.hid (B1.out.below m2 B1.out.lt)
        have V2_2 := Lib.hid (hw.mono (Nat.le_trans hb.out.size k1.out.size))
        obtain ⟨a2, c2, rfl⟩ := hw.shape
        have V1_2 := Lib.hid (V1_1.out.ext m2)
        have A12 : Hid (Apt (.slice a1 Q1.length c1) (.slice a2 Q2.length c2)) := Lib.hid (apt_new V1_1.out hw)
        have z11_2 : G2.cell? ⟨w.heap.size, 11, none⟩ = some (.slice an nn1 nc1) := (B2.out.cell 11).trans rfl
        have z12_2 : G2.cell? ⟨w.heap.size, 12, none⟩ = some (.slice au nn2 nc2) := (B2.out.cell 12).trans rfl
        have z13_2 : G2.cell? ⟨w.heap.size, 13, none⟩ = some (.slice ad nn3 nc3) := (B2.out.cell 13).trans rfl
        clear hw m2
        refine ⟨_, rfl, ?_⟩
        refine hK.out _ _ trivial (fun hHeld => ?_)
        clear hK K
        try simp only [pz0, pz2, pz3, pz4]
        refine wpAnyH_ready (rs := [10]) (by kernel_rfl) (by simp) ?_
        refine arz (qCpM4 _) rfl (fun K hK => ?_) AllReadyH.nil
        unfold qCpM4
        go_simp
        refine hK.out _ _ trivial (fun hHeld => ?_)
        clear hK K
        try simp only [pz0, pz2, pz3, pz4]
        refine tkz 12 (qCpM5 _) ?_ rfl ?_ ?_
        rotate_left
        ·intro w hSw
         unfold qCpM5
         go_simp
         first | done | with_reducible rfl
        try simp only [qCpM5, pz0, pz2, pz3, pz4]
        refine wpAnyH_ready (rs := [11]) (by kernel_rfl) (by simp) ?_
        refine arz (qCpM6 _) rfl (fun K hK => ?_) AllReadyH.nil
        unfold qCpM6
        refine step_callv (by rfl) (.tmp 35) (.tmp 37) 55 (by rfl) (by rfl) (by rfl) enter66 ?_
        refine (recs_copy ((hR3.out.ext hb.out).ext k2.out)).mono ?_
        rintro e G3 ⟨⟨v3, rfl, hw⟩, m3⟩
        have k3 := Lib.hid (k2.out.trans (m3.mono k2.out.size))
        have B3 := Lib.hid (B2.out.below m3 B2.out.lt)
        have V3_3 := Lib.hid (hw.mono (Nat.le_trans hb.out.size k2.out.size))
        obtain ⟨a3, c3, rfl⟩ := hw.shape
        have V1_3 := Lib.hid (V1_2.out.ext m3)
        have V2_3 := Lib.hid (V2_2.out.ext m3)
        have A13 : Hid (Apt (.slice a1 Q1.length c1) (.slice a3 Q3.length c3)) := Lib.hid (apt_new V1_2.out hw)
        have A23 : Hid (Apt (.slice a2 Q2.length c2) (.slice a3 Q3.length c3)) := Lib.hid (apt_new V2_2.out hw)
        have z11_3 : G3.cell? ⟨w.heap.size, 11, none⟩ = some (.slice an nn1 nc1) := (B3.out.cell 11).trans rfl
        have z12_3 : G3.cell? ⟨w.heap.size, 12, none⟩ = some (.slice au nn2 nc2) := (B3.out.cell 12).trans rfl
        have z13_3 : G3.cell? ⟨w.heap.size, 13, none⟩ = some (.slice ad nn3 nc3) := (B3.out.cell 13).trans rfl
        clear hw m3
        refine ⟨_, rfl, ?_⟩
        refine hK.out _ _ trivial (fun hHeld => ?_)
        clear hK K
        try simp only [pz0, pz2, pz3, pz4]
        refine wpAnyH_ready (rs := [13]) (by kernel_rfl) (by simp) ?_
        refine arz (qCpM7 _) rfl (fun K hK => ?_) AllReadyH.nil
        unfold qCpM7
        have fz : G3.frozen? ⟨w.heap.size, 11, none⟩ = false := by rw [B3.out.frozen]; try simp
        go_simp
        obtain ⟨G4, hV⟩ : ∃ V, G3.setCell ⟨w.heap.size, 11, none⟩ (.slice a1 Q1.length c1) = V := ⟨_, rfl⟩
        try rw [hV]
        have hgV : G3.grownBy G4 (some w.heap.size) := by rw [← hV]; exact grown_set _ _ _ _
        have B4 : Hid (Blk G4 w.heap.size 60 (0, 0) [m0, m1, m2, m3, m4, m5, m6, m7, m8, m9, .slice av aq cv, .slice a1 Q1.length c1, .slice au nn2 nc2, .slice ad nn3 nc3]) := Lib.hid (by rw [← hV]; exact B3.out.set 11 _)
        have b4 : Hid (Below w.heap.size w G4) := Lib.hid ((hb.out.trans (k3.out.mono hb.out.size)).grown hgV (Nat.le_trans hb.out.size k3.out.size) (fun j hj => by cases hj; exact Nat.le_refl _))
        have Q4 := Lib.hid (ownQs_store (hv.out.ext k3.out) B3.out (by decide) (by decide) hgV)
        have Z4 := Lib.hid ((hZ.out.below k3.out hZ.out.lt).grownV2 hgV (fun e => by have e2 := Option.some.inj e; have := hl1.out; omega))
        have V1_4 := Lib.hid (ownRs_store V1_3.out B3.out hgV)
        have V2_4 := Lib.hid (ownRs_store V2_3.out B3.out hgV)
        have V3_4 := Lib.hid (ownRs_store V3_3.out B3.out hgV)
        clear hV hgV fz
        refine hK.out _ _ trivial (fun hHeld => ?_)
        clear hK K
        try simp only [pz0, pz2, pz3, pz4]
        refine tkz 14 (qCpM8 _) ?_ rfl ?_ ?_
        rotate_left
        ·intro w hSw
         unfold qCpM8
         go_simp
         first | done | with_reducible rfl
        try simp only [qCpM8, pz0, pz2, pz3, pz4]
        refine wpAnyH_ready (rs := [15]) (by kernel_rfl) (by simp) ?_
        refine arz (qCpM9 _) rfl (fun K hK => ?_) AllReadyH.nil
        unfold qCpM9
        have fz : G4.frozen? ⟨w.heap.size, 12, none⟩ = false := by rw [B4.out.frozen]; try simp
        have zz : G4.cell? ⟨w.heap.size, 12, none⟩ = some (.slice au nn2 nc2) := (B4.out.cell 12).trans rfl
        go_simp
        obtain ⟨G5, hV⟩ : ∃ V, G4.setCell ⟨w.heap.size, 12, none⟩ (.slice a2 Q2.length c2) = V := ⟨_, rfl⟩
        try rw [hV]
        have hgV : G4.grownBy G5 (some w.heap.size) := by rw [← hV]; exact grown_set _ _ _ _
        have B5 : Hid (Blk G5 w.heap.size 60 (0, 0) [m0, m1, m2, m3, m4, m5, m6, m7, m8, m9, .slice av aq cv, .slice a1 Q1.length c1, .slice a2 Q2.length c2, .slice ad nn3 nc3]) := Lib.hid (by rw [← hV]; exact B4.out.set 12 _)
        have b5 : Hid (Below w.heap.size w G5) := Lib.hid (b4.out.grown hgV b4.out.size (fun j hj => by cases hj; exact Nat.le_refl _))
        have Q5 := Lib.hid (ownQs_store Q4.out B4.out (by decide) (by decide) hgV)
        have Z5 := Lib.hid (Z4.out.grownV2 hgV (fun e => by have e2 := Option.some.inj e; have := hl1.out; omega))
        have V1_5 := Lib.hid (ownRs_store V1_4.out B4.out hgV)
        have V2_5 := Lib.hid (ownRs_store V2_4.out B4.out hgV)
        have V3_5 := Lib.hid (ownRs_store V3_4.out B4.out hgV)
        clear hV hgV fz zz
        refine hK.out _ _ trivial (fun hHeld => ?_)
        clear hK K
        try simp only [pz0, pz2, pz3, pz4]
        refine tkz 16 (qCpM10 _) ?_ rfl ?_ ?_
        rotate_left
        ·intro w hSw
         unfold qCpM10
         go_simp
         first | done | with_reducible rfl
        try simp only [qCpM10, pz0, pz2, pz3, pz4]
        refine wpAnyH_ready (rs := [17]) (by kernel_rfl) (by simp) ?_
        refine arz (qCpM11 _) rfl (fun K hK => ?_) AllReadyH.nil
        unfold qCpM11
        have fz : G5.frozen? ⟨w.heap.size, 13, none⟩ = false := by rw [B5.out.frozen]; try simp
        have zz : G5.cell? ⟨w.heap.size, 13, none⟩ = some (.slice ad nn3 nc3) := (B5.out.cell 13).trans rfl
        go_simp
        obtain ⟨G6, hV⟩ : ∃ V, G5.setCell ⟨w.heap.size, 13, none⟩ (.slice a3 Q3.length c3) = V := ⟨_, rfl⟩
        try rw [hV]
        have hgV : G5.grownBy G6 (some w.heap.size) := by rw [← hV]; exact grown_set _ _ _ _
        have B6 : Hid (Blk G6 w.heap.size 60 (0, 0) [m0, m1, m2, m3, m4, m5, m6, m7, m8, m9, .slice av aq cv, .slice a1 Q1.length c1, .slice a2 Q2.length c2, .slice a3 Q3.length c3]) := Lib.hid (by rw [← hV]; exact B5.out.set 13 _)
        have b6 : Hid (Below w.heap.size w G6) := Lib.hid (b5.out.grown hgV b5.out.size (fun j hj => by cases hj; exact Nat.le_refl _))
        have Q6 := Lib.hid (ownQs_store Q5.out B5.out (by decide) (by decide) hgV)
        have Z6 := Lib.hid (Z5.out.grownV2 hgV (fun e => by have e2 := Option.some.inj e; have := hl1.out; omega))
        have V1_6 := Lib.hid (ownRs_store V1_5.out B5.out hgV)
        have V2_6 := Lib.hid (ownRs_store V2_5.out B5.out hgV)
        have V3_6 := Lib.hid (ownRs_store V3_5.out B5.out hgV)
        clear hV hgV fz zz
        refine hK.out _ _ trivial (fun hHeld => ?_)
        clear hK K
        refine wpAnyH_done (by kernel_rfl) ?_ _
        refine NoPanic.normal ?_
        go_wp2_with fail
        go_meet
        exact ⟨_, _, _, rfl, rfl, rfl, rfl, B6, Z6, Q6, V1_6, V2_6, V3_6, Lib.hid ⟨A12.out, A13.out, A23.out⟩, b6⟩
       refine arz (qCpM4 _) rfl (fun K hK => ?_) AllReadyH.nil
       unfold qCpM4
       go_simp
       refine hK.out _ _ trivial (fun hHeld => ?_)
       clear hK K
       try simp only [pz0, pz2, pz3, pz4]
       refine tkz 12 (qCpM5 _) ?_ rfl ?_ ?_
       rotate_left
       ·intro w hSw
        unfold qCpM5
        go_simp
        first | done | with_reducible rfl
       try simp only [qCpM5, pz0, pz2, pz3, pz4]
       refine wpAnyH_ready (rs := [7]) (by kernel_rfl) (by simp) ?_
       refine arz (qCpM3 _) rfl (fun K hK => ?_) AllReadyH.nil
       unfold qCpM3
       refine step_callv (by rfl) (.tmp 31) (.tmp 33) 55 (by rfl) (by rfl) (by rfl) enter66 ?_
       refine (recs_copy ((hR2.out.ext hb.out).ext k1.out)).mono ?_
       rintro e G7 ⟨⟨v2, rfl, hw⟩, m7⟩
       have k7 := Lib.hid (k1.out.trans (m7.mono k1.out.size))
       have B7 := Lib.hid (B1.out.below m7 B1.out.lt)
       have V2_7 := Lib.hid (hw.mono (Nat.le_trans hb.out.size k1.out.size))
       obtain ⟨a2, c2, rfl⟩ := hw.shape
       have V1_7 := Lib.hid (V1_1.out.ext m7)
       have A12 : Hid (Apt (.slice a1 Q1.length c1) (.slice a2 Q2.length c2)) := Lib.hid (apt_new V1_1.out hw)
       have z11_7 : G7.cell? ⟨w.heap.size, 11, none⟩ = some (.slice an nn1 nc1) := (B7.out.cell 11).trans rfl
       have z12_7 : G7.cell? ⟨w.heap.size, 12, none⟩ = some (.slice au nn2 nc2) := (B7.out.cell 12).trans rfl
       have z13_7 : G7.cell? ⟨w.heap.size, 13, none⟩ = some (.slice ad nn3 nc3) := (B7.out.cell 13).trans rfl
       clear hw m7
       refine ⟨_, rfl, ?_⟩
       refine hK.out _ _ trivial (fun hHeld => ?_)
       clear hK K
       try simp only [pz0, pz2, pz3, pz4]
       refine wpAnyH_ready (rs := [11]) (by kernel_rfl) (by simp) ?_
       refine arz (qCpM6 _) rfl (fun K hK => ?_) AllReadyH.nil
       unfold qCpM6
       refine step_callv (by rfl) (.tmp 35) (.tmp 37) 55 (by rfl) (by rfl) (by rfl) enter66 ?_
       refine (recs_copy ((hR3.out.ext hb.out).ext k7.out)).mono ?_
       rintro e G8 ⟨⟨v3, rfl, hw⟩, m8⟩
       have k8 := Lib.hid (k7.out.trans (m8.mono k7.out.size))
       have B8 := Lib.hid (B7.out.below m8 B7.out.lt)
       have V3_8 := Lib.hid (hw.mono (Nat.le_trans hb.out.size k7.out.size))
       obtain ⟨a3, c3, rfl⟩ := hw.shape
       have V1_8 := Lib.hid (V1_7.out.ext m8)
       have V2_8 := Lib.hid (V2_7.out.ext m8)
       have A13 : Hid (Apt (.slice a1 Q1.length c1) (.slice a3 Q3.length c3)) := Lib.hid (apt_new V1_7.out hw)
       have A23 : Hid (Apt (.slice a2 Q2.length c2) (.slice a3 Q3.length c3)) := Lib.hid (apt_new V2_7.out hw)
       have z11_8 : G8.cell? ⟨w.heap.size, 11, none⟩ = some (.slice an nn1 nc1) := (B8.out.cell 11).trans rfl
       have z12_8 : G8.cell? ⟨w.heap.size, 12, none⟩ = some (.slice au nn2 nc2) := (B8.out.cell 12).trans rfl
       have z13_8 : G8.cell? ⟨w.heap.size, 13, none⟩ = some (.slice ad nn3 nc3) := (B8.out.cell 13).trans rfl
       clear hw m8
       refine ⟨_, rfl, ?_⟩
       refine hK.out _ _ trivial (fun hHeld => ?_)
       clear hK K
       try simp only [pz0, pz2, pz3, pz4]
       refine wpAnyH_ready (rs := [13]) (by kernel_rfl) (by simp) ?_
       refine arz (qCpM7 _) rfl (fun K hK => ?_) AllReadyH.nil
       unfold qCpM7
       have fz : G8.frozen? ⟨w.heap.size, 11, none⟩ = false := by rw [B8.out.frozen]; try simp
       go_simp
       obtain ⟨G9, hV⟩ : ∃ V, G8.setCell ⟨w.heap.size, 11, none⟩ (.slice a1 Q1.length c1) = V := ⟨_, rfl⟩
       try rw [hV]
       have hgV : G8.grownBy G9 (some w.heap.size) := by rw [← hV]; exact grown_set _ _ _ _
       have B9 : Hid (Blk G9 w.heap.size 60 (0, 0) [m0, m1, m2, m3, m4, m5, m6, m7, m8, m9, .slice av aq cv, .slice a1 Q1.length c1, .slice au nn2 nc2, .slice ad nn3 nc3]) := Lib.hid (by rw [← hV]; exact B8.out.set 11 _)
       have b9 : Hid (Below w.heap.size w G9) := Lib.hid ((hb.out.trans (k8.out.mono hb.out.size)).grown hgV (Nat.le_trans hb.out.size k8.out.size) (fun j hj => by cases hj; exact Nat.le_refl _))
       have Q9 := Lib.hid (ownQs_store (hv.out.ext k8.out) B8.out (by decide) (by decide) hgV)
       have Z9 := Lib.hid ((hZ.out.below k8.out hZ.out.lt).grownV2 hgV (fun e => by have e2 := Option.some.inj e; have := hl1.out; omega))
       have V1_9 := Lib.hid (ownRs_store V1_8.out B8.out hgV)
       have V2_9 := Lib.hid (ownRs_store V2_8.out B8.out hgV)
       have V3_9 := Lib.hid (ownRs_store V3_8.out B8.out hgV)
       clear hV hgV fz
       refine hK.out _ _ trivial (fun hHeld => ?_)
       clear hK K
       try simp only [pz0, pz2, pz3, pz4]
       refine tkz 14 (qCpM8 _) ?_ rfl ?_ ?_
       rotate_left
       ·intro w hSw
        unfold qCpM8
        go_simp
        first | done | with_reducible rfl
       try simp only [qCpM8, pz0, pz2, pz3, pz4]
       refine wpAnyH_ready (rs := [15]) (by kernel_rfl) (by simp) ?_
       refine arz (qCpM9 _) rfl (fun K hK => ?_) AllReadyH.nil
       unfold qCpM9
       have fz : G9.frozen? ⟨w.heap.size, 12, none⟩ = false := by rw [B9.out.frozen]; try simp
       have zz : G9.cell? ⟨w.heap.size, 12, none⟩ = some (.slice au nn2 nc2) := (B9.out.cell 12).trans rfl
       go_simp
       obtain ⟨G10, hV⟩ : ∃ V, G9.setCell ⟨w.heap.size, 12, none⟩ (.slice a2 Q2.length c2) = V := ⟨_, rfl⟩
       try rw [hV]
       have hgV : G9.grownBy G10 (some w.heap.size) := by rw [← hV]; exact grown_set _ _ _ _
       have B10 : Hid (Blk G10 w.heap.size 60 (0, 0) [m0, m1, m2, m3, m4, m5, m6, m7, m8, m9, .slice av aq cv, .slice a1 Q1.length c1, .slice a2 Q2.length c2, .slice ad nn3 nc3]) := Lib.hid (by rw [← hV]; exact B9.out.set 12 _)
       have b10 : Hid (Below w.heap.size w G10) := Lib.hid (b9.out.grown hgV b9.out.size (fun j hj => by cases hj; exact Nat.le_refl _))
       have Q10 := Lib.hid (ownQs_store Q9.out B9.out (by decide) (by decide) hgV)
       have Z10 := Lib.hid (Z9.out.grownV2 hgV (fun e => by have e2 := Option.some.inj e; have := hl1.out; omega))
       have V1_10 := Lib.hid (ownRs_store V1_9.out B9.out hgV)
       have V2_10 := Lib.hid (ownRs_store V2_9.out B9.out hgV)
       have V3_10 := Lib.hid (ownRs_store V3_9.out B9.out hgV)
       clear hV hgV fz zz
       refine hK.out _ _ trivial (fun hHeld => ?_)
       clear hK K
       try simp only [pz0, pz2, pz3, pz4]
       refine tkz 16 (qCpM10 _) ?_ rfl ?_ ?_
       rotate_left
       ·intro w hSw
        unfold qCpM10
        go_simp
        first | done | with_reducible rfl
       try simp only [qCpM10, pz0, pz2, pz3, pz4]
       refine wpAnyH_ready (rs := [17]) (by kernel_rfl) (by simp) ?_
       refine arz (qCpM11 _) rfl (fun K hK => ?_) AllReadyH.nil
       unfold qCpM11
       have fz : G10.frozen? ⟨w.heap.size, 13, none⟩ = false := by rw [B10.out.frozen]; try simp
       have zz : G10.cell? ⟨w.heap.size, 13, none⟩ = some (.slice ad nn3 nc3) := (B10.out.cell 13).trans rfl
       go_simp
       obtain ⟨G11, hV⟩ : ∃ V, G10.setCell ⟨w.heap.size, 13, none⟩ (.slice a3 Q3.length c3) = V := ⟨_, rfl⟩
       try rw [hV]
       have hgV : G10.grownBy G11 (some w.heap.size) := by rw [← hV]; exact grown_set _ _ _ _
       have B11 : Hid (Blk G11 w.heap.size 60 (0, 0) [m0, m1, m2, m3, m4, m5, m6, m7, m8, m9, .slice av aq cv, .slice a1 Q1.length c1, .slice a2 Q2.length c2, .slice a3 Q3.length c3]) := Lib.hid (by rw [← hV]; exact B10.out.set 13 _)
       have b11 : Hid (Below w.heap.size w G11) := Lib.hid (b10.out.grown hgV b10.out.size (fun j hj => by cases hj; exact Nat.le_refl _))
       have Q11 := Lib.hid (ownQs_store Q10.out B10.out (by decide) (by decide) hgV)
       have Z11 := Lib.hid (Z10.out.grownV2 hgV (fun e => by have e2 := Option.some.inj e; have := hl1.out; omega))
       have V1_11 := Lib.hid (ownRs_store V1_10.out B10.out hgV)
       have V2_11 := Lib.hid (ownRs_store V2_10.out B10.out hgV)
       have V3_11 := Lib.hid (ownRs_store V3_10.out B10.out hgV)
       clear hV hgV fz zz
       refine hK.out _ _ trivial (fun hHeld => ?_)
       clear hK K
       refine wpAnyH_done (by kernel_rfl) ?_ _
       refine NoPanic.normal ?_
       go_wp2_with fail
       go_meet
       exact ⟨_, _, _, rfl, rfl, rfl, rfl, B11, Z11, Q11, V1_11, V2_11, V3_11, Lib.hid ⟨A12.out, A13.out, A23.out⟩, b11⟩
      refine arz (qCpM4 _) rfl (fun K hK => ?_) AllReadyH.nil
      unfold qCpM4
      go_simp
      refine hK.out _ _ trivial (fun hHeld => ?_)
      clear hK K
      try simp only [pz0, pz2, pz3, pz4]
      refine wpAnyH_ready (rs := [6]) (by kernel_rfl) (by simp) ?_
      refine arz (qCpM2 _) rfl (fun K hK => ?_) AllReadyH.nil
      unfold qCpM2
      go_simp
      refine hK.out _ _ trivial (fun hHeld => ?_)
      clear hK K
      try simp only [pz0, pz2, pz3, pz4]
      refine tkz 12 (qCpM5 _) ?_ rfl ?_ ?_
      rotate_left
      ·intro w hSw
       unfold qCpM5
       go_simp
       first | done | with_reducible rfl
      try simp only [qCpM5, pz0, pz2, pz3, pz4]
      refine wpAnyH_ready (rs := [7]) (by kernel_rfl) (by simp) ?_
      refine arz (qCpM3 _) rfl (fun K hK => ?_) AllReadyH.nil
      unfold qCpM3
      refine step_callv (by rfl) (.tmp 31) (.tmp 33) 55 (by rfl) (by rfl) (by rfl) enter66 ?_
      refine (recs_copy ((hR2.out.ext hb.out).ext k1.out)).mono ?_
      rintro e G12 ⟨⟨v2, rfl, hw⟩, m12⟩
      have k12 := Lib.hid (k1.out.trans (m12.mono k1.out.size))
      have B12 := Lib.hid (B1.out.below m12 B1.out.lt)
      have V2_12 := Lib.hid (hw.mono (Nat.le_trans hb.out.size k1.out.size))
      obtain ⟨a2, c2, rfl⟩ := hw.shape
      have V1_12 := Lib.hid (V1_1.out.ext m12)
      have A12 : Hid (Apt (.slice a1 Q1.length c1) (.slice a2 Q2.length c2)) := Lib.hid (apt_new V1_1.out hw)
      have z11_12 : G12.cell? ⟨w.heap.size, 11, none⟩ = some (.slice an nn1 nc1) := (B12.out.cell 11).trans rfl
      have z12_12 : G12.cell? ⟨w.heap.size, 12, none⟩ = some (.slice au nn2 nc2) := (B12.out.cell 12).trans rfl
      have z13_12 : G12.cell? ⟨w.heap.size, 13, none⟩ = some (.slice ad nn3 nc3) := (B12.out.cell 13).trans rfl
      clear hw m12
      refine ⟨_, rfl, ?_⟩
      refine hK.out _ _ trivial (fun hHeld => ?_)
      clear hK K
      try simp only [pz0, pz2, pz3, pz4]
      refine wpAnyH_ready (rs := [11]) (by kernel_rfl) (by simp) ?_
      refine arz (qCpM6 _) rfl (fun K hK => ?_) AllReadyH.nil
      unfold qCpM6
      refine step_callv (by rfl) (.tmp 35) (.tmp 37) 55 (by rfl) (by rfl) (by rfl) enter66 ?_
      refine (recs_copy ((hR3.out.ext hb.out).ext k12.out)).mono ?_
      rintro e G13 ⟨⟨v3, rfl, hw⟩, m13⟩
      have k13 := Lib.hid (k12.out.trans (m13.mono k12.out.size))
      have B13 := Lib.hid (B12.out.below m13 B12.out.lt)
      have V3_13 := Lib.hid (hw.mono (Nat.le_trans hb.out.size k12.out.size))
      obtain ⟨a3, c3, rfl⟩ := hw.shape
      have V1_13 := Lib.hid (V1_12.out.ext m13)
      have V2_13 := Lib.hid (V2_12.out.ext m13)
      have A13 : Hid (Apt (.slice a1 Q1.length c1) (.slice a3 Q3.length c3)) := Lib.hid (apt_new V1_12.out hw)
      have A23 : Hid (Apt (.slice a2 Q2.length c2) (.slice a3 Q3.length c3)) := Lib.hid (apt_new V2_12.out hw)
      have z11_13 : G13.cell? ⟨w.heap.size, 11, none⟩ = some (.slice an nn1 nc1) := (B13.out.cell 11).trans rfl
      have z12_13 : G13.cell? ⟨w.heap.size, 12, none⟩ = some (.slice au nn2 nc2) := (B13.out.cell 12).trans rfl
      have z13_13 : G13.cell? ⟨w.heap.size, 13, none⟩ = some (.slice ad nn3 nc3) := (B13.out.cell 13).trans rfl
      clear hw m13
      refine ⟨_, rfl, ?_⟩
      refine hK.out _ _ trivial (fun hHeld => ?_)
      clear hK K
      try simp only [pz0, pz2, pz3, pz4]
      refine wpAnyH_ready (rs := [13]) (by kernel_rfl) (by simp) ?_
      refine arz (qCpM7 _) rfl (fun K hK => ?_) AllReadyH.nil
      unfold qCpM7
      have fz : G13.frozen? ⟨w.heap.size, 11, none⟩ = false := by rw [B13.out.frozen]; try simp
      go_simp
      obtain ⟨G14, hV⟩ : ∃ V, G13.setCell ⟨w.heap.size, 11, none⟩ (.slice a1 Q1.length c1) = V := ⟨_, rfl⟩
      try rw [hV]
      have hgV : G13.grownBy G14 (some w.heap.size) := by rw [← hV]; exact grown_set _ _ _ _
      have B14 : Hid (Blk G14 w.heap.size 60 (0, 0) [m0, m1, m2, m3, m4, m5, m6, m7, m8, m9, .slice av aq cv, .slice a1 Q1.length c1, .slice au nn2 nc2, .slice ad nn3 nc3]) := Lib.hid (by rw [← hV]; exact B13.out.set 11 _)
      have b14 : Hid (Below w.heap.size w G14) := Lib.hid ((hb.out.trans (k13.out.mono hb.out.size)).grown hgV (Nat.le_trans hb.out.size k13.out.size) (fun j hj => by cases hj; exact Nat.le_refl _))
      have Q14 := Lib.hid (ownQs_store (hv.out.ext k13.out) B13.out (by decide) (by decide) hgV)
      have Z14 := Lib.hid ((hZ.out.below k13.out hZ.out.lt).grownV2 hgV (fun e => by have e2 := Option.some.inj e; have := hl1.out; omega))
      have V1_14 := Lib.hid (ownRs_store V1_13.out B13.out hgV)
      have V2_14 := Lib.hid (ownRs_store V2_13.out B13.out hgV)
      have V3_14 := Lib.hid (ownRs_store V3_13.out B13.out hgV)
      clear hV hgV fz
      refine hK.out _ _ trivial (fun hHeld => ?_)
      clear hK K
      try simp only [pz0, pz2, pz3, pz4]
      refine tkz 14 (qCpM8 _) ?_ rfl ?_ ?_
      rotate_left
      ·intro w hSw
       unfold qCpM8
       go_simp
       first | done | with_reducible rfl
      try simp only [qCpM8, pz0, pz2, pz3, pz4]
      refine wpAnyH_ready (rs := [15]) (by kernel_rfl) (by simp) ?_
      refine arz (qCpM9 _) rfl (fun K hK => ?_) AllReadyH.nil
      unfold qCpM9
      have fz : G14.frozen? ⟨w.heap.size, 12, none⟩ = false := by rw [B14.out.frozen]; try simp
      have zz : G14.cell? ⟨w.heap.size, 12, none⟩ = some (.slice au nn2 nc2) := (B14.out.cell 12).trans rfl
      go_simp
      obtain ⟨G15, hV⟩ : ∃ V, G14.setCell ⟨w.heap.size, 12, none⟩ (.slice a2 Q2.length c2) = V := ⟨_, rfl⟩
      try rw [hV]
      have hgV : G14.grownBy G15 (some w.heap.size) := by rw [← hV]; exact grown_set _ _ _ _
      have B15 : Hid (Blk G15 w.heap.size 60 (0, 0) [m0, m1, m2, m3, m4, m5, m6, m7, m8, m9, .slice av aq cv, .slice a1 Q1.length c1, .slice a2 Q2.length c2, .slice ad nn3 nc3]) := Lib.hid (by rw [← hV]; exact B14.out.set 12 _)
      have b15 : Hid (Below w.heap.size w G15) := Lib.hid (b14.out.grown hgV b14.out.size (fun j hj => by cases hj; exact Nat.le_refl _))
      have Q15 := Lib.hid (ownQs_store Q14.out B14.out (by decide) (by decide) hgV)
      have Z15 := Lib.hid (Z14.out.grownV2 hgV (fun e => by have e2 := Option.some.inj e; have := hl1.out; omega))
      have V1_15 := Lib.hid (ownRs_store V1_14.out B14.out hgV)
      have V2_15 := Lib.hid (ownRs_store V2_14.out B14.out hgV)
      have V3_15 := Lib.hid (ownRs_store V3_14.out B14.out hgV)
      clear hV hgV fz zz
      refine hK.out _ _ trivial (fun hHeld => ?_)
      clear hK K
      try simp only [pz0, pz2, pz3, pz4]
      refine tkz 16 (qCpM10 _) ?_ rfl ?_ ?_
      rotate_left
      ·intro w hSw
       unfold qCpM10
       go_simp
       first | done | with_reducible rfl
      try simp only [qCpM10, pz0, pz2, pz3, pz4]
      refine wpAnyH_ready (rs := [17]) (by kernel_rfl) (by simp) ?_
      refine arz (qCpM11 _) rfl (fun K hK => ?_) AllReadyH.nil
      unfold qCpM11
      have fz : G15.frozen? ⟨w.heap.size, 13, none⟩ = false := by rw [B15.out.frozen]; try simp
      have zz : G15.cell? ⟨w.heap.size, 13, none⟩ = some (.slice ad nn3 nc3) := (B15.out.cell 13).trans rfl
      go_simp
      obtain ⟨G16, hV⟩ : ∃ V, G15.setCell ⟨w.heap.size, 13, none⟩ (.slice a3 Q3.length c3) = V := ⟨_, rfl⟩
      try rw [hV]
      have hgV : G15.grownBy G16 (some w.heap.size) := by rw [← hV]; exact grown_set _ _ _ _
      have B16 : Hid (Blk G16 w.heap.size 60 (0, 0) [m0, m1, m2, m3, m4, m5, m6, m7, m8, m9, .slice av aq cv, .slice a1 Q1.length c1, .slice a2 Q2.length c2, .slice a3 Q3.length c3]) := Lib.hid (by rw [← hV]; exact B15.out.set 13 _)
      have b16 : Hid (Below w.heap.size w G16) := Lib.hid (b15.out.grown hgV b15.out.size (fun j hj => by cases hj; exact Nat.le_refl _))
      have Q16 := Lib.hid (ownQs_store Q15.out B15.out (by decide) (by decide) hgV)
      have Z16 := Lib.hid (Z15.out.grownV2 hgV (fun e => by have e2 := Option.some.inj e; have := hl1.out; omega))
      have V1_16 := Lib.hid (ownRs_store V1_15.out B15.out hgV)
      have V2_16 := Lib.hid (ownRs_store V2_15.out B15.out hgV)
      have V3_16 := Lib.hid (ownRs_store V3_15.out B15.out hgV)
      clear hV hgV fz zz
      refine hK.out _ _ trivial (fun hHeld => ?_)
      clear hK K
      refine wpAnyH_done (by kernel_rfl) ?_ _
      refine NoPanic.normal ?_
      go_wp2_with fail
      go_meet
      exact ⟨_, _, _, rfl, rfl, rfl, rfl, B16, Z16, Q16, V1_16, V2_16, V3_16, Lib.hid ⟨A12.out, A13.out, A23.out⟩, b16⟩
     refine arz (qCpM2 _) rfl (fun K hK => ?_) ?_
     ·unfold qCpM2
      go_simp
      refine hK.out _ _ trivial (fun hHeld => ?_)
      clear hK K
      try simp only [pz0, pz2, pz3, pz4]
      refine wpAnyH_ready (rs := [3, 10]) (by kernel_rfl) (by simp) ?_
      refine arz (qCpM1 _) rfl (fun K hK => ?_) ?_
      ·unfold qCpM1
       refine step_callv (by rfl) (.tmp 27) (.tmp 29) 55 (by rfl) (by rfl) (by rfl) enter66 ?_
       refine (recs_copy ((hR1.out.ext hb.out).ext k0.out)).mono ?_
       rintro e G17 ⟨⟨v1, rfl, hw⟩, m17⟩
       have k17 := Lib.hid (k0.out.trans (m17.mono k0.out.size))
       have B17 := Lib.hid (B0.out.below m17 B0.out.lt)
       have V1_17 := Lib.hid (hw.mono (Nat.le_trans hb.out.size k0.out.size))
       obtain ⟨a1, c1, rfl⟩ := hw.shape
       have z11_17 : G17.cell? ⟨w.heap.size, 11, none⟩ = some (.slice an nn1 nc1) := (B17.out.cell 11).trans rfl
       have z12_17 : G17.cell? ⟨w.heap.size, 12, none⟩ = some (.slice au nn2 nc2) := (B17.out.cell 12).trans rfl
       have z13_17 : G17.cell? ⟨w.heap.size, 13, none⟩ = some (.slice ad nn3 nc3) := (B17.out.cell 13).trans rfl
       clear hw m17
       refine ⟨_, rfl, ?_⟩
       refine hK.out _ _ trivial (fun hHeld => ?_)
       clear hK K
       try simp only [pz0, pz2, pz3, pz4]
       refine wpAnyH_ready (rs := [7, 10]) (by kernel_rfl) (by simp) ?_
       refine arz (qCpM3 _) rfl (fun K hK => ?_) ?_
       ·unfold qCpM3
        refine step_callv (by rfl) (.tmp 31) (.tmp 33) 55 (by rfl) (by rfl) (by rfl) enter66 ?_
        refine (recs_copy ((hR2.out.ext hb.out).ext k17.out)).mono ?_
        rintro e G18 ⟨⟨v2, rfl, hw⟩, m18⟩
        have k18 := Lib.hid (k17.out.trans (m18.mono k17.out.size))
        have B18 := Lib.hid (B17.out.below m18 B17.out.lt)
        have V2_18 := Lib.hid (hw.mono (Nat.le_trans hb.out.size k17.out.size))
        obtain ⟨a2, c2, rfl⟩ := hw.shape
        have V1_18 := Lib.hid (V1_17.out.ext m18)
        have A12 : Hid (Apt (.slice a1 Q1.length c1) (.slice a2 Q2.length c2)) := Lib.hid (apt_new V1_17.out hw)
        have z11_18 : G18.cell? ⟨w.heap.size, 11, none⟩ = some (.slice an nn1 nc1) := (B18.out.cell 11).trans rfl
        have z12_18 : G18.cell? ⟨w.heap.size, 12, none⟩ = some (.slice au nn2 nc2) := (B18.out.cell 12).trans rfl
        have z13_18 : G18.cell? ⟨w.heap.size, 13, none⟩ = some (.slice ad nn3 nc3) := (B18.out.cell 13).trans rfl
        clear hw m18
        refine ⟨_, rfl, ?_⟩
        refine hK.out _ _ trivial (fun hHeld => ?_)
        clear hK K
        try simp only [pz0, pz2, pz3, pz4]
        refine wpAnyH_ready (rs := [10]) (by kernel_rfl) (by simp) ?_
        refine arz (qCpM4 _) rfl (fun K hK => ?_) AllReadyH.nil
        unfold qCpM4
        go_simp
        refine hK.out _ _ trivial (fun hHeld => ?_)
        clear hK K
        try simp only [pz0, pz2, pz3, pz4]
        refine tkz 12 (qCpM5 _) ?_ rfl ?_ ?_
        rotate_left
        ·intro w hSw
         unfold qCpM5
         go_simp
         first | done | with_reducible rfl
        try simp only [qCpM5, pz0, pz2, pz3, pz4]
        refine wpAnyH_ready (rs := [11]) (by kernel_rfl) (by simp) ?_
        refine arz (qCpM6 _) rfl (fun K hK => ?_) AllReadyH.nil
        unfold qCpM6
        refine step_callv (by rfl) (.tmp 35) (.tmp 37) 55 (by rfl) (by rfl) (by rfl) enter66 ?_
        refine (recs_copy ((hR3.out.ext hb.out).ext k18.out)).mono ?_
        rintro e G19 ⟨⟨v3, rfl, hw⟩, m19⟩
        have k19 := Lib.hid (k18.out.trans (m19.mono k18.out.size))
        have B19 := Lib.hid (B18.out.below m19 B18.out.lt)
        have V3_19 := Lib.hid (hw.mono (Nat.le_trans hb.out.size k18.out.size))
        obtain ⟨a3, c3, rfl⟩ := hw.shape
        have V1_19 := Lib.hid (V1_18.out.ext m19)
        have V2_19 := Lib.hid (V2_18.out.ext m19)
        have A13 : Hid (Apt (.slice a1 Q1.length c1) (.slice a3 Q3.length c3)) := Lib.hid (apt_new V1_18.out hw)
        have A23 : Hid (Apt (.slice a2 Q2.length c2) (.slice a3 Q3.length c3)) := Lib.hid (apt_new V2_18.out hw)
        have z11_19 : G19.cell? ⟨w.heap.size, 11, none⟩ = some (.slice an nn1 nc1) := (B19.out.cell 11).trans rfl
        have z12_19 : G19.cell? ⟨w.heap.size, 12, none⟩ = some (.slice au nn2 nc2) := (B19.out.cell 12).trans rfl
        have z13_19 : G19.cell? ⟨w.heap.size, 13, none⟩ = some (.slice ad nn3 nc3) := (B19.out.cell 13).trans rfl
        clear hw m19
        refine ⟨_, rfl, ?_⟩
        refine hK.out _ _ trivial (fun hHeld => ?_)
        clear hK K
        try simp only [pz0, pz2, pz3, pz4]
        refine wpAnyH_ready (rs := [13]) (by kernel_rfl) (by simp) ?_
        refine arz (qCpM7 _) rfl (fun K hK => ?_) AllReadyH.nil
        unfold qCpM7
        have fz : G19.frozen? ⟨w.heap.size, 11, none⟩ = false := by rw [B19.out.frozen]; try simp
        go_simp
        obtain ⟨G20, hV⟩ : ∃ V, G19.setCell ⟨w.heap.size, 11, none⟩ (.slice a1 Q1.length c1) = V := ⟨_, rfl⟩
        try rw [hV]
        have hgV : G19.grownBy G20 (some w.heap.size) := by rw [← hV]; exact grown_set _ _ _ _
        have B20 : Hid (Blk G20 w.heap.size 60 (0, 0) [m0, m1, m2, m3, m4, m5, m6, m7, m8, m9, .slice av aq cv, .slice a1 Q1.length c1, .slice au nn2 nc2, .slice ad nn3 nc3]) := Lib.hid (by rw [← hV]; exact B19.out.set 11 _)
        have b20 : Hid (Below w.heap.size w G20) := Lib.hid ((hb.out.trans (k19.out.mono hb.out.size)).grown hgV (Nat.le_trans hb.out.size k19.out.size) (fun j hj => by cases hj; exact Nat.le_refl _))
        have Q20 := Lib.hid (ownQs_store (hv.out.ext k19.out) B19.out (by decide) (by decide) hgV)
        have Z20 := Lib.hid ((hZ.out.below k19.out hZ.out.lt).grownV2 hgV (fun e => by have e2 := Option.some.inj e; have := hl1.out; omega))
        have V1_20 := Lib.hid (ownRs_store V1_19.out B19.out hgV)
        have V2_20 := Lib.hid (ownRs_store V2_19.out B19.out hgV)
        have V3_20 := Lib.hid (ownRs_store V3_19.out B19.out hgV)
        clear hV hgV fz
        refine hK.out _ _ trivial (fun hHeld => ?_)
        clear hK K
        try simp only [pz0, pz2, pz3, pz4]
        refine tkz 14 (qCpM8 _) ?_ rfl ?_ ?_
        rotate_left
        ·intro w hSw
         unfold qCpM8
         go_simp
         first | done | with_reducible rfl
        try simp only [qCpM8, pz0, pz2, pz3, pz4]
        refine wpAnyH_ready (rs := [15]) (by kernel_rfl) (by simp) ?_
        refine arz (qCpM9 _) rfl (fun K hK => ?_) AllReadyH.nil
        unfold qCpM9
        have fz : G20.frozen? ⟨w.heap.size, 12, none⟩ = false := by rw [B20.out.frozen]; try simp
        have zz : G20.cell? ⟨w.heap.size, 12, none⟩ = some (.slice au nn2 nc2) := (B20.out.cell 12).trans rfl
        go_simp
        obtain ⟨G21, hV⟩ : ∃ V, G20.setCell ⟨w.heap.size, 12, none⟩ (.slice a2 Q2.length c2) = V := ⟨_, rfl⟩
        try rw [hV]
        have hgV : G20.grownBy G21 (some w.heap.size) := by rw [← hV]; exact grown_set _ _ _ _
        have B21 : Hid (Blk G21 w.heap.size 60 (0, 0) [m0, m1, m2, m3, m4, m5, m6, m7, m8, m9, .slice av aq cv, .slice a1 Q1.length c1, .slice a2 Q2.length c2, .slice ad nn3 nc3]) := Lib.hid (by rw [← hV]; exact B20.out.set 12 _)
        have b21 : Hid (Below w.heap.size w G21) := Lib.hid (b20.out.grown hgV b20.out.size (fun j hj => by cases hj; exact Nat.le_refl _))
        have Q21 := Lib.hid (ownQs_store Q20.out B20.out (by decide) (by decide) hgV)
        have Z21 := Lib.hid (Z20.out.grownV2 hgV (fun e => by have e2 := Option.some.inj e; have := hl1.out; omega))
        have V1_21 := Lib.hid (ownRs_store V1_20.out B20.out hgV)
        have V2_21 := Lib.hid (ownRs_store V2_20.out B20.out hgV)
        have V3_21 := Lib.hid (ownRs_store V3_20.out B20.out hgV)
        clear hV hgV fz zz
        refine hK.out _ _ trivial (fun hHeld => ?_)
        clear hK K
        try simp only [pz0, pz2, pz3, pz4]
        refine tkz 16 (qCpM10 _) ?_ rfl ?_ ?_
        rotate_left
        ·intro w hSw
         unfold qCpM10
         go_simp
         first | done | with_reducible rfl
        try simp only [qCpM10, pz0, pz2, pz3, pz4]
        refine wpAnyH_ready (rs := [17]) (by kernel_rfl) (by simp) ?_
        refine arz (qCpM11 _) rfl (fun K hK => ?_) AllReadyH.nil
        unfold qCpM11
        have fz : G21.frozen? ⟨w.heap.size, 13, none⟩ = false := by rw [B21.out.frozen]; try simp
        have zz : G21.cell? ⟨w.heap.size, 13, none⟩ = some (.slice ad nn3 nc3) := (B21.out.cell 13).trans rfl
        go_simp
        obtain ⟨G22, hV⟩ : ∃ V, G21.setCell ⟨w.heap.size, 13, none⟩ (.slice a3 Q3.length c3) = V := ⟨_, rfl⟩
        try rw [hV]
        have hgV : G21.grownBy G22 (some w.heap.size) := by rw [← hV]; exact grown_set _ _ _ _
        have B22 : Hid (Blk G22 w.heap.size 60 (0, 0) [m0, m1, m2, m3, m4, m5, m6, m7, m8, m9, .slice av aq cv, .slice a1 Q1.length c1, .slice a2 Q2.length c2, .slice a3 Q3.length c3]) := Lib.hid (by rw [← hV]; exact B21.out.set 13 _)
        have b22 : Hid (Below w.heap.size w G22) := Lib.hid (b21.out.grown hgV b21.out.size (fun j hj => by cases hj; exact Nat.le_refl _))
        have Q22 := Lib.hid (ownQs_store Q21.out B21.out (by decide) (by decide) hgV)
        have Z22 := Lib.hid (Z21.out.grownV2 hgV (fun e => by have e2 := Option.some.inj e; have := hl1.out; omega))
        have V1_22 := Lib.hid (ownRs_store V1_21.out B21.out hgV)
        have V2_22 := Lib.hid (ownRs_store V2_21.out B21.out hgV)
        have V3_22 := Lib.hid (ownRs_store V3_21.out B21.out hgV)
        clear hV hgV fz zz
        refine hK.out _ _ trivial (fun hHeld => ?_)
        clear hK K
        refine wpAnyH_done (by kernel_rfl) ?_ _
        refine NoPanic.normal ?_
        go_wp2_with fail
        go_meet
        exact ⟨_, _, _, rfl, rfl, rfl, rfl, B22, Z22, Q22, V1_22, V2_22, V3_22, Lib.hid ⟨A12.out, A13.out, A23.out⟩, b22⟩
       refine arz (qCpM4 _) rfl (fun K hK => ?_) AllReadyH.nil
       unfold qCpM4
       go_simp
       refine hK.out _ _ trivial (fun hHeld => ?_)
       clear hK K
       try simp only [pz0, pz2, pz3, pz4]
       refine tkz 12 (qCpM5 _) ?_ rfl ?_ ?_
       rotate_left
       ·intro w hSw
        unfold qCpM5
        go_simp
        first | done | with_reducible rfl
       try simp only [qCpM5, pz0, pz2, pz3, pz4]
       refine wpAnyH_ready (rs := [7]) (by kernel_rfl) (by simp) ?_
       refine arz (qCpM3 _) rfl (fun K hK => ?_) AllReadyH.nil
       unfold qCpM3
       refine step_callv (by rfl) (.tmp 31) (.tmp 33) 55 (by rfl) (by rfl) (by rfl) enter66 ?_
       refine (recs_copy ((hR2.out.ext hb.out).ext k17.out)).mono ?_
       rintro e G23 ⟨⟨v2, rfl, hw⟩, m23⟩
       have k23 := Lib.hid (k17.out.trans (m23.mono k17.out.size))
       have B23 := Lib.hid (B17.out.below m23 B17.out.lt)
       have V2_23 := Lib.hid (hw.mono (Nat.le_trans hb.out.size k17.out.size))
       obtain ⟨a2, c2, rfl⟩ := hw.shape
       have V1_23 := Lib.hid (V1_17.out.ext m23)
       have A12 : Hid (Apt (.slice a1 Q1.length c1) (.slice a2 Q2.length c2)) := Lib.hid (apt_new V1_17.out hw)
       have z11_23 : G23.cell? ⟨w.heap.size, 11, none⟩ = some (.slice an nn1 nc1) := (B23.out.cell 11).trans rfl
       have z12_23 : G23.cell? ⟨w.heap.size, 12, none⟩ = some (.slice au nn2 nc2) := (B23.out.cell 12).trans rfl
       have z13_23 : G23.cell? ⟨w.heap.size, 13, none⟩ = some (.slice ad nn3 nc3) := (B23.out.cell 13).trans rfl
       clear hw m23
       refine ⟨_, rfl, ?_⟩
       refine hK.out _ _ trivial (fun hHeld => ?_)
       clear hK K
       try simp only [pz0, pz2, pz3, pz4]
       refine wpAnyH_ready (rs := [11]) (by kernel_rfl) (by simp) ?_
       refine arz (qCpM6 _) rfl (fun K hK => ?_) AllReadyH.nil
       unfold qCpM6
       refine step_callv (by rfl) (.tmp 35) (.tmp 37) 55 (by rfl) (by rfl) (by rfl) enter66 ?_
       refine (recs_copy ((hR3.out.ext hb.out).ext k23.out)).mono ?_
       rintro e G24 ⟨⟨v3, rfl, hw⟩, m24⟩
       have k24 := Lib.hid (k23.out.trans (m24.mono k23.out.size))
       have B24 := Lib.hid (B23.out.below m24 B23.out.lt)
       have V3_24 := Lib.hid (hw.mono (Nat.le_trans hb.out.size k23.out.size))
       obtain ⟨a3, c3, rfl⟩ := hw.shape
       have V1_24 := Lib.hid (V1_23.out.ext m24)
       have V2_24 := Lib.hid (V2_23.out.ext m24)
       have A13 : Hid (Apt (.slice a1 Q1.length c1) (.slice a3 Q3.length c3)) := Lib.hid (apt_new V1_23.out hw)
       have A23 : Hid (Apt (.slice a2 Q2.length c2) (.slice a3 Q3.length c3)) := Lib.hid (apt_new V2_23.out hw)
       have z11_24 : G24.cell? ⟨w.heap.size, 11, none⟩ = some (.slice an nn1 nc1) := (B24.out.cell 11).trans rfl
       have z12_24 : G24.cell? ⟨w.heap.size, 12, none⟩ = some (.slice au nn2 nc2) := (B24.out.cell 12).trans rfl
       have z13_24 : G24.cell? ⟨w.heap.size, 13, none⟩ = some (.slice ad nn3 nc3) := (B24.out.cell 13).trans rfl
       clear hw m24
       refine ⟨_, rfl, ?_⟩
       refine hK.out _ _ trivial (fun hHeld => ?_)
       clear hK K
       try simp only [pz0, pz2, pz3, pz4]
       refine wpAnyH_ready (rs := [13]) (by kernel_rfl) (by simp) ?_
       refine arz (qCpM7 _) rfl (fun K hK => ?_) AllReadyH.nil
       unfold qCpM7
       have fz : G24.frozen? ⟨w.heap.size, 11, none⟩ = false := by rw [B24.out.frozen]; try simp
       go_simp
       obtain ⟨G25, hV⟩ : ∃ V, G24.setCell ⟨w.heap.size, 11, none⟩ (.slice a1 Q1.length c1) = V := ⟨_, rfl⟩
       try rw [hV]
       have hgV : G24.grownBy G25 (some w.heap.size) := by rw [← hV]; exact grown_set _ _ _ _
       have B25 : Hid (Blk G25 w.heap.size 60 (0, 0) [m0, m1, m2, m3, m4, m5, m6, m7, m8, m9, .slice av aq cv, .slice a1 Q1.length c1, .slice au nn2 nc2, .slice ad nn3 nc3]) := Lib.hid (by rw [← hV]; exact B24.out.set 11 _)
       have b25 : Hid (Below w.heap.size w G25) := Lib.hid ((hb.out.trans (k24.out.mono hb.out.size)).grown hgV (Nat.le_trans hb.out.size k24.out.size) (fun j hj => by cases hj; exact Nat.le_refl _))
       have Q25 := Lib.hid (ownQs_store (hv.out.ext k24.out) B24.out (by decide) (by decide) hgV)
       have Z25 := Lib.hid ((hZ.out.below k24.out hZ.out.lt).grownV2 hgV (fun e => by have e2 := Option.some.inj e; have := hl1.out; omega))
       have V1_25 := Lib.hid (ownRs_store V1_24.out B24.out hgV)
       have V2_25 := Lib.hid (ownRs_store V2_24.out B24.out hgV)
       have V3_25 := Lib.hid (ownRs_store V3_24.out B24.out hgV)
       clear hV hgV fz
       refine hK.out _ _ trivial (fun hHeld => ?_)
       clear hK K
       try simp only [pz0, pz2, pz3, pz4]
       refine tkz 14 (qCpM8 _) ?_ rfl ?_ ?_
       rotate_left
       ·intro w hSw
        unfold qCpM8
        go_simp
        first | done | with_reducible rfl
       try simp only [qCpM8, pz0, pz2, pz3, pz4]
       refine wpAnyH_ready (rs := [15]) (by kernel_rfl) (by simp) ?_
       refine arz (qCpM9 _) rfl (fun K hK => ?_) AllReadyH.nil
       unfold qCpM9
       have fz : G25.frozen? ⟨w.heap.size, 12, none⟩ = false := by rw [B25.out.frozen]; try simp
       have zz : G25.cell? ⟨w.heap.size, 12, none⟩ = some (.slice au nn2 nc2) := (B25.out.cell 12).trans rfl
       go_simp
       obtain ⟨G26, hV⟩ : ∃ V, G25.setCell ⟨w.heap.size, 12, none⟩ (.slice a2 Q2.length c2) = V := ⟨_, rfl⟩
       try rw [hV]
       have hgV : G25.grownBy G26 (some w.heap.size) := by rw [← hV]; exact grown_set _ _ _ _
       have B26 : Hid (Blk G26 w.heap.size 60 (0, 0) [m0, m1, m2, m3, m4, m5, m6, m7, m8, m9, .slice av aq cv, .slice a1 Q1.length c1, .slice a2 Q2.length c2, .slice ad nn3 nc3]) := Lib.hid (by rw [← hV]; exact B25.out.set 12 _)
       have b26 : Hid (Below w.heap.size w G26) := Lib.hid (b25.out.grown hgV b25.out.size (fun j hj => by cases hj; exact Nat.le_refl _))
       have Q26 := Lib.hid (ownQs_store Q25.out B25.out (by decide) (by decide) hgV)
       have Z26 := Lib.hid (Z25.out.grownV2 hgV (fun e => by have e2 := Option.some.inj e; have := hl1.out; omega))
       have V1_26 := Lib.hid (ownRs_store V1_25.out B25.out hgV)
       have V2_26 := Lib.hid (ownRs_store V2_25.out B25.out hgV)
       have V3_26 := Lib.hid (ownRs_store V3_25.out B25.out hgV)
       clear hV hgV fz zz
       refine hK.out _ _ trivial (fun hHeld => ?_)
       clear hK K
       try simp only [pz0, pz2, pz3, pz4]
       refine tkz 16 (qCpM10 _) ?_ rfl ?_ ?_
       rotate_left
       ·intro w hSw
        unfold qCpM10
        go_simp
        first | done | with_reducible rfl
       try simp only [qCpM10, pz0, pz2, pz3, pz4]
       refine wpAnyH_ready (rs := [17]) (by kernel_rfl) (by simp) ?_
       refine arz (qCpM11 _) rfl (fun K hK => ?_) AllReadyH.nil
       unfold qCpM11
       have fz : G26.frozen? ⟨w.heap.size, 13, none⟩ = false := by rw [B26.out.frozen]; try simp
       have zz : G26.cell? ⟨w.heap.size, 13, none⟩ = some (.slice ad nn3 nc3) := (B26.out.cell 13).trans rfl
       go_simp
       obtain ⟨G27, hV⟩ : ∃ V, G26.setCell ⟨w.heap.size, 13, none⟩ (.slice a3 Q3.length c3) = V := ⟨_, rfl⟩
       try rw [hV]
       have hgV : G26.grownBy G27 (some w.heap.size) := by rw [← hV]; exact grown_set _ _ _ _
       have B27 : Hid (Blk G27 w.heap.size 60 (0, 0) [m0, m1, m2, m3, m4, m5, m6, m7, m8, m9, .slice av aq cv, .slice a1 Q1.length c1, .slice a2 Q2.length c2, .slice a3 Q3.length c3]) := Lib.hid (by rw [← hV]; exact B26.out.set 13 _)
       have b27 : Hid (Below w.heap.size w G27) := Lib.hid (b26.out.grown hgV b26.out.size (fun j hj => by cases hj; exact Nat.le_refl _))
       have Q27 := Lib.hid (ownQs_store Q26.out B26.out (by decide) (by decide) hgV)
       have Z27 := Lib.hid (Z26.out.grownV2 hgV (fun e => by have e2 := Option.some.inj e; have := hl1.out; omega))
       have V1_27 := Lib.hid (ownRs_store V1_26.out B26.out hgV)
       have V2_27 := Lib.hid (ownRs_store V2_26.out B26.out hgV)
       have V3_27 := Lib.hid (ownRs_store V3_26.out B26.out hgV)
       clear hV hgV fz zz
       refine hK.out _ _ trivial (fun hHeld => ?_)
       clear hK K
       refine wpAnyH_done (by kernel_rfl) ?_ _
       refine NoPanic.normal ?_
       go_wp2_with fail
       go_meet
       exact ⟨_, _, _, rfl, rfl, rfl, rfl, B27, Z27, Q27, V1_27, V2_27, V3_27, Lib.hid ⟨A12.out, A13.out, A23.out⟩, b27⟩
      refine arz (qCpM4 _) rfl (fun K hK => ?_) AllReadyH.nil
      unfold qCpM4
      go_simp
      refine hK.out _ _ trivial (fun hHeld => ?_)
      clear hK K
      try simp only [pz0, pz2, pz3, pz4]
      refine wpAnyH_ready (rs := [3]) (by kernel_rfl) (by simp) ?_
      refine arz (qCpM1 _) rfl (fun K hK => ?_) AllReadyH.nil
      unfold qCpM1
      refine step_callv (by rfl) (.tmp 27) (.tmp 29) 55 (by rfl) (by rfl) (by rfl) enter66 ?_
      refine (recs_copy ((hR1.out.ext hb.out).ext k0.out)).mono ?_
      rintro e G28 ⟨⟨v1, rfl, hw⟩, m28⟩
      have k28 := Lib.hid (k0.out.trans (m28.mono k0.out.size))
      have B28 := Lib.hid (B0.out.below m28 B0.out.lt)
      have V1_28 := Lib.hid (hw.mono (Nat.le_trans hb.out.size k0.out.size))
      obtain ⟨a1, c1, rfl⟩ := hw.shape
      have z11_28 : G28.cell? ⟨w.heap.size, 11, none⟩ = some (.slice an nn1 nc1) := (B28.out.cell 11).trans rfl
      have z12_28 : G28.cell? ⟨w.heap.size, 12, none⟩ = some (.slice au nn2 nc2) := (B28.out.cell 12).trans rfl
      have z13_28 : G28.cell? ⟨w.heap.size, 13, none⟩ = some (.slice ad nn3 nc3) := (B28.out.cell 13).trans rfl
      clear hw m28
      refine ⟨_, rfl, ?_⟩
      refine hK.out _ _ trivial (fun hHeld => ?_)
      clear hK K
      try simp only [pz0, pz2, pz3, pz4]
      refine tkz 12 (qCpM5 _) ?_ rfl ?_ ?_
      rotate_left
      ·intro w hSw
       unfold qCpM5
       go_simp
       first | done | with_reducible rfl
      try simp only [qCpM5, pz0, pz2, pz3, pz4]
      refine wpAnyH_ready (rs := [7]) (by kernel_rfl) (by simp) ?_
      refine arz (qCpM3 _) rfl (fun K hK => ?_) AllReadyH.nil
      unfold qCpM3
      refine step_callv (by rfl) (.tmp 31) (.tmp 33) 55 (by rfl) (by rfl) (by rfl) enter66 ?_
      refine (recs_copy ((hR2.out.ext hb.out).ext k28.out)).mono ?_
      rintro e G29 ⟨⟨v2, rfl, hw⟩, m29⟩
      have k29 := Lib.hid (k28.out.trans (m29.mono k28.out.size))
      have B29 := Lib.hid (B28.out.below m29 B28.out.lt)
      have V2_29 := Lib.hid (hw.mono (Nat.le_trans hb.out.size k28.out.size))
      obtain ⟨a2, c2, rfl⟩ := hw.shape
      have V1_29 := Lib.hid (V1_28.out.ext m29)
      have A12 : Hid (Apt (.slice a1 Q1.length c1) (.slice a2 Q2.length c2)) := Lib.hid (apt_new V1_28.out hw)
      have z11_29 : G29.cell? ⟨w.heap.size, 11, none⟩ = some (.slice an nn1 nc1) := (B29.out.cell 11).trans rfl
      have z12_29 : G29.cell? ⟨w.heap.size, 12, none⟩ = some (.slice au nn2 nc2) := (B29.out.cell 12).trans rfl
      have z13_29 : G29.cell? ⟨w.heap.size, 13, none⟩ = some (.slice ad nn3 nc3) := (B29.out.cell 13).trans rfl
      clear hw m29
      refine ⟨_, rfl, ?_⟩
      refine hK.out _ _ trivial (fun hHeld => ?_)
      clear hK K
      try simp only [pz0, pz2, pz3, pz4]
      refine wpAnyH_ready (rs := [11]) (by kernel_rfl) (by simp) ?_
      refine arz (qCpM6 _) rfl (fun K hK => ?_) AllReadyH.nil
      unfold qCpM6
      refine step_callv (by rfl) (.tmp 35) (.tmp 37) 55 (by rfl) (by rfl) (by rfl) enter66 ?_
      refine (recs_copy ((hR3.out.ext hb.out).ext k29.out)).mono ?_
      rintro e G30 ⟨⟨v3, rfl, hw⟩, m30⟩
      have k30 := Lib.hid (k29.out.trans (m30.mono k29.out.size))
      have B30 := Lib.hid (B29.out.below m30 B29.out.lt)
      have V3_30 := Lib.hid (hw.mono (Nat.le_trans hb.out.size k29.out.size))
      obtain ⟨a3, c3, rfl⟩ := hw.shape
      have V1_30 := Lib.hid (V1_29.out.ext m30)
      have V2_30 := Lib.hid (V2_29.out.ext m30)
      have A13 : Hid (Apt (.slice a1 Q1.length c1) (.slice a3 Q3.length c3)) := Lib.hid (apt_new V1_29.out hw)
      have A23 : Hid (Apt (.slice a2 Q2.length c2) (.slice a3 Q3.length c3)) := Lib.hid (apt_new V2_29.out hw)
      have z11_30 : G30.cell? ⟨w.heap.size, 11, none⟩ = some (.slice an nn1 nc1) := (B30.out.cell 11).trans rfl
      have z12_30 : G30.cell? ⟨w.heap.size, 12, none⟩ = some (.slice au nn2 nc2) := (B30.out.cell 12).trans rfl
      have z13_30 : G30.cell? ⟨w.heap.size, 13, none⟩ = some (.slice ad nn3 nc3) := (B30.out.cell 13).trans rfl
      clear hw m30
      refine ⟨_, rfl, ?_⟩
      refine hK.out _ _ trivial (fun hHeld => ?_)
      clear hK K
      try simp only [pz0, pz2, pz3, pz4]
      refine wpAnyH_ready (rs := [13]) (by kernel_rfl) (by simp) ?_
      refine arz (qCpM7 _) rfl (fun K hK => ?_) AllReadyH.nil
      unfold qCpM7
      have fz : G30.frozen? ⟨w.heap.size, 11, none⟩ = false := by rw [B30.out.frozen]; try simp
      go_simp
      obtain ⟨G31, hV⟩ : ∃ V, G30.setCell ⟨w.heap.size, 11, none⟩ (.slice a1 Q1.length c1) = V := ⟨_, rfl⟩
      try rw [hV]
      have hgV : G30.grownBy G31 (some w.heap.size) := by rw [← hV]; exact grown_set _ _ _ _
      have B31 : Hid (Blk G31 w.heap.size 60 (0, 0) [m0, m1, m2, m3, m4, m5, m6, m7, m8, m9, .slice av aq cv, .slice a1 Q1.length c1, .slice au nn2 nc2, .slice ad nn3 nc3]) := Lib.hid (by rw [← hV]; exact B30.out.set 11 _)
      have b31 : Hid (Below w.heap.size w G31) := Lib.hid ((hb.out.trans (k30.out.mono hb.out.size)).grown hgV (Nat.le_trans hb.out.size k30.out.size) (fun j hj => by cases hj; exact Nat.le_refl _))
      have Q31 := Lib.hid (ownQs_store (hv.out.ext k30.out) B30.out (by decide) (by decide) hgV)
      have Z31 := Lib.hid ((hZ.out.below k30.out hZ.out.lt).grownV2 hgV (fun e => by have e2 := Option.some.inj e; have := hl1.out; omega))
      have V1_31 := Lib.hid (ownRs_store V1_30.out B30.out hgV)
      have V2_31 := Lib.hid (ownRs_store V2_30.out B30.out hgV)
      have V3_31 := Lib.hid (ownRs_store V3_30.out B30.out hgV)
      clear hV hgV fz
      refine hK.out _ _ trivial (fun hHeld => ?_)
      clear hK K
      try simp only [pz0, pz2, pz3, pz4]
      refine tkz 14 (qCpM8 _) ?_ rfl ?_ ?_
      rotate_left
      ·intro w hSw
       unfold qCpM8
       go_simp
       first | done | with_reducible rfl
      try simp only [qCpM8, pz0, pz2, pz3, pz4]
      refine wpAnyH_ready (rs := [15]) (by kernel_rfl) (by simp) ?_
      refine arz (qCpM9 _) rfl (fun K hK => ?_) AllReadyH.nil
      unfold qCpM9
      have fz : G31.frozen? ⟨w.heap.size, 12, none⟩ = false := by rw [B31.out.frozen]; try simp
      have zz : G31.cell? ⟨w.heap.size, 12, none⟩ = some (.slice au nn2 nc2) := (B31.out.cell 12).trans rfl
      go_simp
      obtain ⟨G32, hV⟩ : ∃ V, G31.setCell ⟨w.heap.size, 12, none⟩ (.slice a2 Q2.length c2) = V := ⟨_, rfl⟩
      try rw [hV]
      have hgV : G31.grownBy G32 (some w.heap.size) := by rw [← hV]; exact grown_set _ _ _ _
      have B32 : Hid (Blk G32 w.heap.size 60 (0, 0) [m0, m1, m2, m3, m4, m5, m6, m7, m8, m9, .slice av aq cv, .slice a1 Q1.length c1, .slice a2 Q2.length c2, .slice ad nn3 nc3]) := Lib.hid (by rw [← hV]; exact B31.out.set 12 _)
      have b32 : Hid (Below w.heap.size w G32) := Lib.hid (b31.out.grown hgV b31.out.size (fun j hj => by cases hj; exact Nat.le_refl _))
      have Q32 := Lib.hid (ownQs_store Q31.out B31.out (by decide) (by decide) hgV)
      have Z32 := Lib.hid (Z31.out.grownV2 hgV (fun e => by have e2 := Option.some.inj e; have := hl1.out; omega))
      have V1_32 := Lib.hid (ownRs_store V1_31.out B31.out hgV)
      have V2_32 := Lib.hid (ownRs_store V2_31.out B31.out hgV)
      have V3_32 := Lib.hid (ownRs_store V3_31.out B31.out hgV)
      clear hV hgV fz zz
      refine hK.out _ _ trivial (fun hHeld => ?_)
      clear hK K
      try simp only [pz0, pz2, pz3, pz4]
      refine tkz 16 (qCpM10 _) ?_ rfl ?_ ?_
      rotate_left
      ·intro w hSw
       unfold qCpM10
       go_simp
       first | done | with_reducible rfl
      try simp only [qCpM10, pz0, pz2, pz3, pz4]
      refine wpAnyH_ready (rs := [17]) (by kernel_rfl) (by simp) ?_
      refine arz (qCpM11 _) rfl (fun K hK => ?_) AllReadyH.nil
      unfold qCpM11
      have fz : G32.frozen? ⟨w.heap.size, 13, none⟩ = false := by rw [B32.out.frozen]; try simp
      have zz : G32.cell? ⟨w.heap.size, 13, none⟩ = some (.slice ad nn3 nc3) := (B32.out.cell 13).trans rfl
      go_simp
      obtain ⟨G33, hV⟩ : ∃ V, G32.setCell ⟨w.heap.size, 13, none⟩ (.slice a3 Q3.length c3) = V := ⟨_, rfl⟩
      try rw [hV]
      have hgV : G32.grownBy G33 (some w.heap.size) := by rw [← hV]; exact grown_set _ _ _ _
      have B33 : Hid (Blk G33 w.heap.size 60 (0, 0) [m0, m1, m2, m3, m4, m5, m6, m7, m8, m9, .slice av aq cv, .slice a1 Q1.length c1, .slice a2 Q2.length c2, .slice a3 Q3.length c3]) := Lib.hid (by rw [← hV]; exact B32.out.set 13 _)
      have b33 : Hid (Below w.heap.size w G33) := Lib.hid (b32.out.grown hgV b32.out.size (fun j hj => by cases hj; exact Nat.le_refl _))
      have Q33 := Lib.hid (ownQs_store Q32.out B32.out (by decide) (by decide) hgV)
      have Z33 := Lib.hid (Z32.out.grownV2 hgV (fun e => by have e2 := Option.some.inj e; have := hl1.out; omega))
      have V1_33 := Lib.hid (ownRs_store V1_32.out B32.out hgV)
      have V2_33 := Lib.hid (ownRs_store V2_32.out B32.out hgV)
      have V3_33 := Lib.hid (ownRs_store V3_32.out B32.out hgV)
      clear hV hgV fz zz
      refine hK.out _ _ trivial (fun hHeld => ?_)
      clear hK K
      refine wpAnyH_done (by kernel_rfl) ?_ _
      refine NoPanic.normal ?_
      go_wp2_with fail
      go_meet
      exact ⟨_, _, _, rfl, rfl, rfl, rfl, B33, Z33, Q33, V1_33, V2_33, V3_33, Lib.hid ⟨A12.out, A13.out, A23.out⟩, b33⟩
     refine arz (qCpM4 _) rfl (fun K hK => ?_) AllReadyH.nil
     unfold qCpM4
     go_simp
     refine hK.out _ _ trivial (fun hHeld => ?_)
     clear hK K
     try simp only [pz0, pz2, pz3, pz4]
     refine wpAnyH_ready (rs := [3, 6]) (by kernel_rfl) (by simp) ?_
     refine arz (qCpM1 _) rfl (fun K hK => ?_) ?_
     ·unfold qCpM1
      refine step_callv (by rfl) (.tmp 27) (.tmp 29) 55 (by rfl) (by rfl) (by rfl) enter66 ?_
      refine (recs_copy ((hR1.out.ext hb.out).ext k0.out)).mono ?_
      rintro e G34 ⟨⟨v1, rfl, hw⟩, m34⟩
      have k34 := Lib.hid (k0.out.trans (m34.mono k0.out.size))
      have B34 := Lib.hid (B0.out.below m34 B0.out.lt)
      have V1_34 := Lib.hid (hw.mono (Nat.le_trans hb.out.size k0.out.size))
      obtain ⟨a1, c1, rfl⟩ := hw.shape
      have z11_34 : G34.cell? ⟨w.heap.size, 11, none⟩ = some (.slice an nn1 nc1) := (B34.out.cell 11).trans rfl
      have z12_34 : G34.cell? ⟨w.heap.size, 12, none⟩ = some (.slice au nn2 nc2) := (B34.out.cell 12).trans rfl
      have z13_34 : G34.cell? ⟨w.heap.size, 13, none⟩ = some (.slice ad nn3 nc3) := (B34.out.cell 13).trans rfl
      clear hw m34
      refine ⟨_, rfl, ?_⟩
      refine hK.out _ _ trivial (fun hHeld => ?_)
      clear hK K
      try simp only [pz0, pz2, pz3, pz4]
      refine wpAnyH_ready (rs := [6]) (by kernel_rfl) (by simp) ?_
      refine arz (qCpM2 _) rfl (fun K hK => ?_) AllReadyH.nil
      unfold qCpM2
      go_simp
      refine hK.out _ _ trivial (fun hHeld => ?_)
      clear hK K
      try simp only [pz0, pz2, pz3, pz4]
      refine tkz 12 (qCpM5 _) ?_ rfl ?_ ?_
      rotate_left
      ·intro w hSw
       unfold qCpM5
       go_simp
       first | done | with_reducible rfl
      try simp only [qCpM5, pz0, pz2, pz3, pz4]
      refine wpAnyH_ready (rs := [7]) (by kernel_rfl) (by simp) ?_
      refine arz (qCpM3 _) rfl (fun K hK => ?_) AllReadyH.nil
      unfold qCpM3
      refine step_callv (by rfl) (.tmp 31) (.tmp 33) 55 (by rfl) (by rfl) (by rfl) enter66 ?_
      refine (recs_copy ((hR2.out.ext hb.out).ext k34.out)).mono ?_
      rintro e G35 ⟨⟨v2, rfl, hw⟩, m35⟩
      have k35 := Lib.hid (k34.out.trans (m35.mono k34.out.size))
      have B35 := Lib.hid (B34.out.below m35 B34.out.lt)
      have V2_35 := Lib.hid (hw.mono (Nat.le_trans hb.out.size k34.out.size))
      obtain ⟨a2, c2, rfl⟩ := hw.shape
      have V1_35 := Lib.hid (V1_34.out.ext m35)
      have A12 : Hid (Apt (.slice a1 Q1.length c1) (.slice a2 Q2.length c2)) := Lib.hid (apt_new V1_34.out hw)
      have z11_35 : G35.cell? ⟨w.heap.size, 11, none⟩ = some (.slice an nn1 nc1) := (B35.out.cell 11).trans rfl
      have z12_35 : G35.cell? ⟨w.heap.size, 12, none⟩ = some (.slice au nn2 nc2) := (B35.out.cell 12).trans rfl
      have z13_35 : G35.cell? ⟨w.heap.size, 13, none⟩ = some (.slice ad nn3 nc3) := (B35.out.cell 13).trans rfl
      clear hw m35
      refine ⟨_, rfl, ?_⟩
      refine hK.out _ _ trivial (fun hHeld => ?_)
      clear hK K
      try simp only [pz0, pz2, pz3, pz4]
      refine wpAnyH_ready (rs := [11]) (by kernel_rfl) (by simp) ?_
      refine arz (qCpM6 _) rfl (fun K hK => ?_) AllReadyH.nil
      unfold qCpM6
      refine step_callv (by rfl) (.tmp 35) (.tmp 37) 55 (by rfl) (by rfl) (by rfl) enter66 ?_
      refine (recs_copy ((hR3.out.ext hb.out).ext k35.out)).mono ?_
      rintro e G36 ⟨⟨v3, rfl, hw⟩, m36⟩
      have k36 := Lib.hid (k35.out.trans (m36.mono k35.out.size))
      have B36 := Lib.hid (B35.out.below m36 B35.out.lt)
      have V3_36 := Lib.hid (hw.mono (Nat.le_trans hb.out.size k35.out.size))
      obtain ⟨a3, c3, rfl⟩ := hw.shape
      have V1_36 := Lib.hid (V1_35.out.ext m36)
      have V2_36 := Lib.hid (V2_35.out.ext m36)
      have A13 : Hid (Apt (.slice a1 Q1.length c1) (.slice a3 Q3.length c3)) := Lib.hid (apt_new V1_35.out hw)
      have A23 : Hid (Apt (.slice a2 Q2.length c2) (.slice a3 Q3.length c3)) := Lib.hid (apt_new V2_35.out hw)
      have z11_36 : G36.cell? ⟨w.heap.size, 11, none⟩ = some (.slice an nn1 nc1) := (B36.out.cell 11).trans rfl
      have z12_36 : G36.cell? ⟨w.heap.size, 12, none⟩ = some (.slice au nn2 nc2) := (B36.out.cell 12).trans rfl
      have z13_36 : G36.cell? ⟨w.heap.size, 13, none⟩ = some (.slice ad nn3 nc3) := (B36.out.cell 13).trans rfl
      clear hw m36
      refine ⟨_, rfl, ?_⟩
      refine hK.out _ _ trivial (fun hHeld => ?_)
      clear hK K
      try simp only [pz0, pz2, pz3, pz4]
      refine wpAnyH_ready (rs := [13]) (by kernel_rfl) (by simp) ?_
      refine arz (qCpM7 _) rfl (fun K hK => ?_) AllReadyH.nil
      unfold qCpM7
      have fz : G36.frozen? ⟨w.heap.size, 11, none⟩ = false := by rw [B36.out.frozen]; try simp
      go_simp
      obtain ⟨G37, hV⟩ : ∃ V, G36.setCell ⟨w.heap.size, 11, none⟩ (.slice a1 Q1.length c1) = V := ⟨_, rfl⟩
      try rw [hV]
      have hgV : G36.grownBy G37 (some w.heap.size) := by rw [← hV]; exact grown_set _ _ _ _
      have B37 : Hid (Blk G37 w.heap.size 60 (0, 0) [m0, m1, m2, m3, m4, m5, m6, m7, m8, m9, .slice av aq cv, .slice a1 Q1.length c1, .slice au nn2 nc2, .slice ad nn3 nc3]) := Lib.hid (by rw [← hV]; exact B36.out.set 11 _)
      have b37 : Hid (Below w.heap.size w G37) := Lib.hid ((hb.out.trans (k36.out.mono hb.out.size)).grown hgV (Nat.le_trans hb.out.size k36.out.size) (fun j hj => by cases hj; exact Nat.le_refl _))
      have Q37 := Lib.hid (ownQs_store (hv.out.ext k36.out) B36.out (by decide) (by decide) hgV)
      have Z37 := Lib.hid ((hZ.out.below k36.out hZ.out.lt).grownV2 hgV (fun e => by have e2 := Option.some.inj e; have := hl1.out; omega))
      have V1_37 := Lib.hid (ownRs_store V1_36.out B36.out hgV)
      have V2_37 := Lib.hid (ownRs_store V2_36.out B36.out hgV)
      have V3_37 := Lib.hid (ownRs_store V3_36.out B36.out hgV)
      clear hV hgV fz
      refine hK.out _ _ trivial (fun hHeld => ?_)
      clear hK K
      try simp only [pz0, pz2, pz3, pz4]
      refine tkz 14 (qCpM8 _) ?_ rfl ?_ ?_
      rotate_left
      ·intro w hSw
       unfold qCpM8
       go_simp
       first | done | with_reducible rfl
      try simp only [qCpM8, pz0, pz2, pz3, pz4]
      refine wpAnyH_ready (rs := [15]) (by kernel_rfl) (by simp) ?_
      refine arz (qCpM9 _) rfl (fun K hK => ?_) AllReadyH.nil
      unfold qCpM9
      have fz : G37.frozen? ⟨w.heap.size, 12, none⟩ = false := by rw [B37.out.frozen]; try simp
      have zz : G37.cell? ⟨w.heap.size, 12, none⟩ = some (.slice au nn2 nc2) := (B37.out.cell 12).trans rfl
      go_simp
      obtain ⟨G38, hV⟩ : ∃ V, G37.setCell ⟨w.heap.size, 12, none⟩ (.slice a2 Q2.length c2) = V := ⟨_, rfl⟩
      try rw [hV]
      have hgV : G37.grownBy G38 (some w.heap.size) := by rw [← hV]; exact grown_set _ _ _ _
      have B38 : Hid (Blk G38 w.heap.size 60 (0, 0) [m0, m1, m2, m3, m4, m5, m6, m7, m8, m9, .slice av aq cv, .slice a1 Q1.length c1, .slice a2 Q2.length c2, .slice ad nn3 nc3]) := Lib.hid (by rw [← hV]; exact B37.out.set 12 _)
      have b38 : Hid (Below w.heap.size w G38) := Lib.hid (b37.out.grown hgV b37.out.size (fun j hj => by cases hj; exact Nat.le_refl _))
      have Q38 := Lib.hid (ownQs_store Q37.out B37.out (by decide) (by decide) hgV)
      have Z38 := Lib.hid (Z37.out.grownV2 hgV (fun e => by have e2 := Option.some.inj e; have := hl1.out; omega))
      have V1_38 := Lib.hid (ownRs_store V1_37.out B37.out hgV)
      have V2_38 := Lib.hid (ownRs_store V2_37.out B37.out hgV)
      have V3_38 := Lib.hid (ownRs_store V3_37.out B37.out hgV)
      clear hV hgV fz zz
      refine hK.out _ _ trivial (fun hHeld => ?_)
      clear hK K
      try simp only [pz0, pz2, pz3, pz4]
      refine tkz 16 (qCpM10 _) ?_ rfl ?_ ?_
      rotate_left
      ·intro w hSw
       unfold qCpM10
       go_simp
       first | done | with_reducible rfl
      try simp only [qCpM10, pz0, pz2, pz3, pz4]
      refine wpAnyH_ready (rs := [17]) (by kernel_rfl) (by simp) ?_
      refine arz (qCpM11 _) rfl (fun K hK => ?_) AllReadyH.nil
      unfold qCpM11
      have fz : G38.frozen? ⟨w.heap.size, 13, none⟩ = false := by rw [B38.out.frozen]; try simp
      have zz : G38.cell? ⟨w.heap.size, 13, none⟩ = some (.slice ad nn3 nc3) := (B38.out.cell 13).trans rfl
      go_simp
      obtain ⟨G39, hV⟩ : ∃ V, G38.setCell ⟨w.heap.size, 13, none⟩ (.slice a3 Q3.length c3) = V := ⟨_, rfl⟩
      try rw [hV]
      have hgV : G38.grownBy G39 (some w.heap.size) := by rw [← hV]; exact grown_set _ _ _ _
      have B39 : Hid (Blk G39 w.heap.size 60 (0, 0) [m0, m1, m2, m3, m4, m5, m6, m7, m8, m9, .slice av aq cv, .slice a1 Q1.length c1, .slice a2 Q2.length c2, .slice a3 Q3.length c3]) := Lib.hid (by rw [← hV]; exact B38.out.set 13 _)
      have b39 : Hid (Below w.heap.size w G39) := Lib.hid (b38.out.grown hgV b38.out.size (fun j hj => by cases hj; exact Nat.le_refl _))
      have Q39 := Lib.hid (ownQs_store Q38.out B38.out (by decide) (by decide) hgV)
      have Z39 := Lib.hid (Z38.out.grownV2 hgV (fun e => by have e2 := Option.some.inj e; have := hl1.out; omega))
      have V1_39 := Lib.hid (ownRs_store V1_38.out B38.out hgV)
      have V2_39 := Lib.hid (ownRs_store V2_38.out B38.out hgV)
      have V3_39 := Lib.hid (ownRs_store V3_38.out B38.out hgV)
      clear hV hgV fz zz
      refine hK.out _ _ trivial (fun hHeld => ?_)
      clear hK K
      refine wpAnyH_done (by kernel_rfl) ?_ _
      refine NoPanic.normal ?_
      go_wp2_with fail
      go_meet
      exact ⟨_, _, _, rfl, rfl, rfl, rfl, B39, Z39, Q39, V1_39, V2_39, V3_39, Lib.hid ⟨A12.out, A13.out, A23.out⟩, b39⟩
     refine arz (qCpM2 _) rfl (fun K hK => ?_) AllReadyH.nil
     unfold qCpM2
     go_simp
     refine hK.out _ _ trivial (fun hHeld => ?_)
     clear hK K
     try simp only [pz0, pz2, pz3, pz4]
     refine wpAnyH_ready (rs := [3]) (by kernel_rfl) (by simp) ?_
     refine arz (qCpM1 _) rfl (fun K hK => ?_) AllReadyH.nil
     unfold qCpM1
     refine step_callv (by rfl) (.tmp 27) (.tmp 29) 55 (by rfl) (by rfl) (by rfl) enter66 ?_
     refine (recs_copy ((hR1.out.ext hb.out).ext k0.out)).mono ?_
     rintro e G40 ⟨⟨v1, rfl, hw⟩, m40⟩
     have k40 := Lib.hid (k0.out.trans (m40.mono k0.out.size))
     have B40 := Lib.hid (B0.out.below m40 B0.out.lt)
     have V1_40 := Lib.hid (hw.mono (Nat.le_trans hb.out.size k0.out.size))
     obtain ⟨a1, c1, rfl⟩ := hw.shape
     have z11_40 : G40.cell? ⟨w.heap.size, 11, none⟩ = some (.slice an nn1 nc1) := (B40.out.cell 11).trans rfl
     have z12_40 : G40.cell? ⟨w.heap.size, 12, none⟩ = some (.slice au nn2 nc2) := (B40.out.cell 12).trans rfl
     have z13_40 : G40.cell? ⟨w.heap.size, 13, none⟩ = some (.slice ad nn3 nc3) := (B40.out.cell 13).trans rfl
     clear hw m40
     refine ⟨_, rfl, ?_⟩
     refine hK.out _ _ trivial (fun hHeld => ?_)
     clear hK K
     try simp only [pz0, pz2, pz3, pz4]
     refine tkz 12 (qCpM5 _) ?_ rfl ?_ ?_
     rotate_left
     ·intro w hSw
      unfold qCpM5
      go_simp
      first | done | with_reducible rfl
     try simp only [qCpM5, pz0, pz2, pz3, pz4]
     refine wpAnyH_ready (rs := [7]) (by kernel_rfl) (by simp) ?_
     refine arz (qCpM3 _) rfl (fun K hK => ?_) AllReadyH.nil
     unfold qCpM3
     refine step_callv (by rfl) (.tmp 31) (.tmp 33) 55 (by rfl) (by rfl) (by rfl) enter66 ?_
     refine (recs_copy ((hR2.out.ext hb.out).ext k40.out)).mono ?_
     rintro e G41 ⟨⟨v2, rfl, hw⟩, m41⟩
     have k41 := Lib.hid (k40.out.trans (m41.mono k40.out.size))
     have B41 := Lib.hid (B40.out.below m41 B40.out.lt)
     have V2_41 := Lib.hid (hw.mono (Nat.le_trans hb.out.size k40.out.size))
     obtain ⟨a2, c2, rfl⟩ := hw.shape
     have V1_41 := Lib.hid (V1_40.out.ext m41)
     have A12 : Hid (Apt (.slice a1 Q1.length c1) (.slice a2 Q2.length c2)) := Lib.hid (apt_new V1_40.out hw)
     have z11_41 : G41.cell? ⟨w.heap.size, 11, none⟩ = some (.slice an nn1 nc1) := (B41.out.cell 11).trans rfl
     have z12_41 : G41.cell? ⟨w.heap.size, 12, none⟩ = some (.slice au nn2 nc2) := (B41.out.cell 12).trans rfl
     have z13_41 : G41.cell? ⟨w.heap.size, 13, none⟩ = some (.slice ad nn3 nc3) := (B41.out.cell 13).trans rfl
     clear hw m41
     refine ⟨_, rfl, ?_⟩
     refine hK.out _ _ trivial (fun hHeld => ?_)
     clear hK K
     try simp only [pz0, pz2, pz3, pz4]
     refine wpAnyH_ready (rs := [11]) (by kernel_rfl) (by simp) ?_
     refine arz (qCpM6 _) rfl (fun K hK => ?_) AllReadyH.nil
     unfold qCpM6
     refine step_callv (by rfl) (.tmp 35) (.tmp 37) 55 (by rfl) (by rfl) (by rfl) enter66 ?_
     refine (recs_copy ((hR3.out.ext hb.out).ext k41.out)).mono ?_
     rintro e G42 ⟨⟨v3, rfl, hw⟩, m42⟩
     have k42 := Lib.hid (k41.out.trans (m42.mono k41.out.size))
     have B42 := Lib.hid (B41.out.below m42 B41.out.lt)
     have V3_42 := Lib.hid (hw.mono (Nat.le_trans hb.out.size k41.out.size))
     obtain ⟨a3, c3, rfl⟩ := hw.shape
     have V1_42 := Lib.hid (V1_41.out.ext m42)
     have V2_42 := Lib.hid (V2_41.out.ext m42)
     have A13 : Hid (Apt (.slice a1 Q1.length c1) (.slice a3 Q3.length c3)) := Lib.hid (apt_new V1_41.out hw)
     have A23 : Hid (Apt (.slice a2 Q2.length c2) (.slice a3 Q3.length c3)) := Lib.hid (apt_new V2_41.out hw)
     have z11_42 : G42.cell? ⟨w.heap.size, 11, none⟩ = some (.slice an nn1 nc1) := (B42.out.cell 11).trans rfl
     have z12_42 : G42.cell? ⟨w.heap.size, 12, none⟩ = some (.slice au nn2 nc2) := (B42.out.cell 12).trans rfl
     have z13_42 : G42.cell? ⟨w.heap.size, 13, none⟩ = some (.slice ad nn3 nc3) := (B42.out.cell 13).trans rfl
     clear hw m42
     refine ⟨_, rfl, ?_⟩
     refine hK.out _ _ trivial (fun hHeld => ?_)
     clear hK K
     try simp only [pz0, pz2, pz3, pz4]
     refine wpAnyH_ready (rs := [13]) (by kernel_rfl) (by simp) ?_
     refine arz (qCpM7 _) rfl (fun K hK => ?_) AllReadyH.nil
     unfold qCpM7
     have fz : G42.frozen? ⟨w.heap.size, 11, none⟩ = false := by rw [B42.out.frozen]; try simp
     go_simp
     obtain ⟨G43, hV⟩ : ∃ V, G42.setCell ⟨w.heap.size, 11, none⟩ (.slice a1 Q1.length c1) = V := ⟨_, rfl⟩
     try rw [hV]
     have hgV : G42.grownBy G43 (some w.heap.size) := by rw [← hV]; exact grown_set _ _ _ _
     have B43 : Hid (Blk G43 w.heap.size 60 (0, 0) [m0, m1, m2, m3, m4, m5, m6, m7, m8, m9, .slice av aq cv, .slice a1 Q1.length c1, .slice au nn2 nc2, .slice ad nn3 nc3]) := Lib.hid (by rw [← hV]; exact B42.out.set 11 _)
     have b43 : Hid (Below w.heap.size w G43) := Lib.hid ((hb.out.trans (k42.out.mono hb.out.size)).grown hgV (Nat.le_trans hb.out.size k42.out.size) (fun j hj => by cases hj; exact Nat.le_refl _))
     have Q43 := Lib.hid (ownQs_store (hv.out.ext k42.out) B42.out (by decide) (by decide) hgV)
     have Z43 := Lib.hid ((hZ.out.below k42.out hZ.out.lt).grownV2 hgV (fun e => by have e2 := Option.some.inj e; have := hl1.out; omega))
     have V1_43 := Lib.hid (ownRs_store V1_42.out B42.out hgV)
     have V2_43 := Lib.hid (ownRs_store V2_42.out B42.out hgV)
     have V3_43 := Lib.hid (ownRs_store V3_42.out B42.out hgV)
     clear hV hgV fz
     refine hK.out _ _ trivial (fun hHeld => ?_)
     clear hK K
     try simp only [pz0, pz2, pz3, pz4]
     refine tkz 14 (qCpM8 _) ?_ rfl ?_ ?_
     rotate_left
     ·intro w hSw
      unfold qCpM8
      go_simp
      first | done | with_reducible rfl
     try simp only [qCpM8, pz0, pz2, pz3, pz4]
     refine wpAnyH_ready (rs := [15]) (by kernel_rfl) (by simp) ?_
     refine arz (qCpM9 _) rfl (fun K hK => ?_) AllReadyH.nil
     unfold qCpM9
     have fz : G43.frozen? ⟨w.heap.size, 12, none⟩ = false := by rw [B43.out.frozen]; try simp
     have zz : G43.cell? ⟨w.heap.size, 12, none⟩ = some (.slice au nn2 nc2) := (B43.out.cell 12).trans rfl
     go_simp
     obtain ⟨G44, hV⟩ : ∃ V, G43.setCell ⟨w.heap.size, 12, none⟩ (.slice a2 Q2.length c2) = V := ⟨_, rfl⟩
     try rw [hV]
     have hgV : G43.grownBy G44 (some w.heap.size) := by rw [← hV]; exact grown_set _ _ _ _
     have B44 : Hid (Blk G44 w.heap.size 60 (0, 0) [m0, m1, m2, m3, m4, m5, m6, m7, m8, m9, .slice av aq cv, .slice a1 Q1.length c1, .slice a2 Q2.length c2, .slice ad nn3 nc3]) := Lib.hid (by rw [← hV]; exact B43.out.set 12 _)
     have b44 : Hid (Below w.heap.size w G44) := Lib.hid (b43.out.grown hgV b43.out.size (fun j hj => by cases hj; exact Nat.le_refl _))
     have Q44 := Lib.hid (ownQs_store Q43.out B43.out (by decide) (by decide) hgV)
     have Z44 := Lib.hid (Z43.out.grownV2 hgV (fun e => by have e2 := Option.some.inj e; have := hl1.out; omega))
     have V1_44 := Lib.hid (ownRs_store V1_43.out B43.out hgV)
     have V2_44 := Lib.hid (ownRs_store V2_43.out B43.out hgV)
     have V3_44 := Lib.hid (ownRs_store V3_43.out B43.out hgV)
     clear hV hgV fz zz
     refine hK.out _ _ trivial (fun hHeld => ?_)
     clear hK K
     try simp only [pz0, pz2, pz3, pz4]
     refine tkz 16 (qCpM10 _) ?_ rfl ?_ ?_
     rotate_left
     ·intro w hSw
      unfold qCpM10
      go_simp
      first | done | with_reducible rfl
     try simp only [qCpM10, pz0, pz2, pz3, pz4]
     refine wpAnyH_ready (rs := [17]) (by kernel_rfl) (by simp) ?_
     refine arz (qCpM11 _) rfl (fun K hK => ?_) AllReadyH.nil
     unfold qCpM11
     have fz : G44.frozen? ⟨w.heap.size, 13, none⟩ = false := by rw [B44.out.frozen]; try simp
     have zz : G44.cell? ⟨w.heap.size, 13, none⟩ = some (.slice ad nn3 nc3) := (B44.out.cell 13).trans rfl
     go_simp
     obtain ⟨G45, hV⟩ : ∃ V, G44.setCell ⟨w.heap.size, 13, none⟩ (.slice a3 Q3.length c3) = V := ⟨_, rfl⟩
     try rw [hV]
     have hgV : G44.grownBy G45 (some w.heap.size) := by rw [← hV]; exact grown_set _ _ _ _
     have B45 : Hid (Blk G45 w.heap.size 60 (0, 0) [m0, m1, m2, m3, m4, m5, m6, m7, m8, m9, .slice av aq cv, .slice a1 Q1.length c1, .slice a2 Q2.length c2, .slice a3 Q3.length c3]) := Lib.hid (by rw [← hV]; exact B44.out.set 13 _)
     have b45 : Hid (Below w.heap.size w G45) := Lib.hid (b44.out.grown hgV b44.out.size (fun j hj => by cases hj; exact Nat.le_refl _))
     have Q45 := Lib.hid (ownQs_store Q44.out B44.out (by decide) (by decide) hgV)
     have Z45 := Lib.hid (Z44.out.grownV2 hgV (fun e => by have e2 := Option.some.inj e; have := hl1.out; omega))
     have V1_45 := Lib.hid (ownRs_store V1_44.out B44.out hgV)
     have V2_45 := Lib.hid (ownRs_store V2_44.out B44.out hgV)
     have V3_45 := Lib.hid (ownRs_store V3_44.out B44.out hgV)
     clear hV hgV fz zz
     refine hK.out _ _ trivial (fun hHeld => ?_)
     clear hK K
     refine wpAnyH_done (by kernel_rfl) ?_ _
     refine NoPanic.normal ?_
     go_wp2_with fail
     go_meet
     exact ⟨_, _, _, rfl, rfl, rfl, rfl, B45, Z45, Q45, V1_45, V2_45, V3_45, Lib.hid ⟨A12.out, A13.out, A23.out⟩, b45⟩
    refine arz (qCpM2 _) rfl (fun K hK => ?_) ?_
    ·unfold qCpM2
     go_simp
     refine hK.out _ _ trivial (fun hHeld => ?_)
     clear hK K
     try simp only [pz0, pz2, pz3, pz4]
     refine wpAnyH_ready (rs := [2, 10]) (by kernel_rfl) (by simp) ?_
     refine arz (qCpM0 _) rfl (fun K hK => ?_) ?_
     ·unfold qCpM0
      go_simp
      refine hK.out _ _ trivial (fun hHeld => ?_)
      clear hK K
      try simp only [pz0, pz2, pz3, pz4]
      refine wpAnyH_ready (rs := [3, 10]) (by kernel_rfl) (by simp) ?_
      refine arz (qCpM1 _) rfl (fun K hK => ?_) ?_
      ·unfold qCpM1
       refine step_callv (by rfl) (.tmp 27) (.tmp 29) 55 (by rfl) (by rfl) (by rfl) enter66 ?_
       refine (recs_copy ((hR1.out.ext hb.out).ext k0.out)).mono ?_
       rintro e G46 ⟨⟨v1, rfl, hw⟩, m46⟩
       have k46 := Lib.hid (k0.out.trans (m46.mono k0.out.size))
       have B46 := Lib.hid (B0.out.below m46 B0.out.lt)
       have V1_46 := Lib.hid (hw.mono (Nat.le_trans hb.out.size k0.out.size))
       obtain ⟨a1, c1, rfl⟩ := hw.shape
       have z11_46 : G46.cell? ⟨w.heap.size, 11, none⟩ = some (.slice an nn1 nc1) := (B46.out.cell 11).trans rfl
       have z12_46 : G46.cell? ⟨w.heap.size, 12, none⟩ = some (.slice au nn2 nc2) := (B46.out.cell 12).trans rfl
       have z13_46 : G46.cell? ⟨w.heap.size, 13, none⟩ = some (.slice ad nn3 nc3) := (B46.out.cell 13).trans rfl
       clear hw m46
       refine ⟨_, rfl, ?_⟩
       refine hK.out _ _ trivial (fun hHeld => ?_)
       clear hK K
       try simp only [pz0, pz2, pz3, pz4]
       refine wpAnyH_ready (rs := [7, 10]) (by kernel_rfl) (by simp) ?_
       refine arz (qCpM3 _) rfl (fun K hK => ?_) ?_
       ·unfold qCpM3
        refine step_callv (by rfl) (.tmp 31) (.tmp 33) 55 (by rfl) (by rfl) (by rfl) enter66 ?_
        refine (recs_copy ((hR2.out.ext hb.out).ext k46.out)).mono ?_
        rintro e G47 ⟨⟨v2, rfl, hw⟩, m47⟩
        have k47 := Lib.hid (k46.out.trans (m47.mono k46.out.size))
        have B47 := Lib.hid (B46.out.below m47 B46.out.lt)
        have V2_47 := Lib.hid (hw.mono (Nat.le_trans hb.out.size k46.out.size))
        obtain ⟨a2, c2, rfl⟩ := hw.shape
        have V1_47 := Lib.hid (V1_46.out.ext m47)
        have A12 : Hid (Apt (.slice a1 Q1.length c1) (.slice a2 Q2.length c2)) := Lib.hid (apt_new V1_46.out hw)
        have z11_47 : G47.cell? ⟨w.heap.size, 11, none⟩ = some (.slice an nn1 nc1) := (B47.out.cell 11).trans rfl
        have z12_47 : G47.cell? ⟨w.heap.size, 12, none⟩ = some (.slice au nn2 nc2) := (B47.out.cell 12).trans rfl
        have z13_47 : G47.cell? ⟨w.heap.size, 13, none⟩ = some (.slice ad nn3 nc3) := (B47.out.cell 13).trans rfl
        clear hw m47
        refine ⟨_, rfl, ?_⟩
        refine hK.out _ _ trivial (fun hHeld => ?_)
        clear hK K
        try simp only [pz0, pz2, pz3, pz4]
        refine wpAnyH_ready (rs := [10]) (by kernel_rfl) (by simp) ?_
        refine arz (qCpM4 _) rfl (fun K hK => ?_) AllReadyH.nil
        unfold qCpM4
        go_simp
        refine hK.out _ _ trivial (fun hHeld => ?_)
        clear hK K
        try simp only [pz0, pz2, pz3, pz4]
        refine tkz 12 (qCpM5 _) ?_ rfl ?_ ?_
        rotate_left
        ·intro w hSw
         unfold qCpM5
         go_simp
         first | done | with_reducible rfl
        try simp only [qCpM5, pz0, pz2, pz3, pz4]
        refine wpAnyH_ready (rs := [11]) (by kernel_rfl) (by simp) ?_
        refine arz (qCpM6 _) rfl (fun K hK => ?_) AllReadyH.nil
        unfold qCpM6
        refine step_callv (by rfl) (.tmp 35) (.tmp 37) 55 (by rfl) (by rfl) (by rfl) enter66 ?_
        refine (recs_copy ((hR3.out.ext hb.out).ext k47.out)).mono ?_
        rintro e G48 ⟨⟨v3, rfl, hw⟩, m48⟩
        have k48 := Lib.hid (k47.out.trans (m48.mono k47.out.size))
        have B48 := Lib.hid (B47.out.below m48 B47.out.lt)
        have V3_48 := Lib.hid (hw.mono (Nat.le_trans hb.out.size k47.out.size))
        obtain ⟨a3, c3, rfl⟩ := hw.shape
        have V1_48 := Lib.hid (V1_47.out.ext m48)
        have V2_48 := Lib.hid (V2_47.out.ext m48)
        have A13 : Hid (Apt (.slice a1 Q1.length c1) (.slice a3 Q3.length c3)) := Lib.hid (apt_new V1_47.out hw)
        have A23 : Hid (Apt (.slice a2 Q2.length c2) (.slice a3 Q3.length c3)) := Lib.hid (apt_new V2_47.out hw)
        have z11_48 : G48.cell? ⟨w.heap.size, 11, none⟩ = some (.slice an nn1 nc1) := (B48.out.cell 11).trans rfl
        have z12_48 : G48.cell? ⟨w.heap.size, 12, none⟩ = some (.slice au nn2 nc2) := (B48.out.cell 12).trans rfl
        have z13_48 : G48.cell? ⟨w.heap.size, 13, none⟩ = some (.slice ad nn3 nc3) := (B48.out.cell 13).trans rfl
        clear hw m48
        refine ⟨_, rfl, ?_⟩
        refine hK.out _ _ trivial (fun hHeld => ?_)
        clear hK K
        try simp only [pz0, pz2, pz3, pz4]
        refine wpAnyH_ready (rs := [13]) (by kernel_rfl) (by simp) ?_
        refine arz (qCpM7 _) rfl (fun K hK => ?_) AllReadyH.nil
        unfold qCpM7
        have fz : G48.frozen? ⟨w.heap.size, 11, none⟩ = false := by rw [B48.out.frozen]; try simp
        go_simp
        obtain ⟨G49, hV⟩ : ∃ V, G48.setCell ⟨w.heap.size, 11, none⟩ (.slice a1 Q1.length c1) = V := ⟨_, rfl⟩
        try rw [hV]
        have hgV : G48.grownBy G49 (some w.heap.size) := by rw [← hV]; exact grown_set _ _ _ _
        have B49 : Hid (Blk G49 w.heap.size 60 (0, 0) [m0, m1, m2, m3, m4, m5, m6, m7, m8, m9, .slice av aq cv, .slice a1 Q1.length c1, .slice au nn2 nc2, .slice ad nn3 nc3]) := Lib.hid (by rw [← hV]; exact B48.out.set 11 _)
        have b49 : Hid (Below w.heap.size w G49) := Lib.hid ((hb.out.trans (k48.out.mono hb.out.size)).grown hgV (Nat.le_trans hb.out.size k48.out.size) (fun j hj => by cases hj; exact Nat.le_refl _))
        have Q49 := Lib.hid (ownQs_store (hv.out.ext k48.out) B48.out (by decide) (by decide) hgV)
        have Z49 := Lib.hid ((hZ.out.below k48.out hZ.out.lt).grownV2 hgV (fun e => by have e2 := Option.some.inj e; have := hl1.out; omega))
        have V1_49 := Lib.hid (ownRs_store V1_48.out B48.out hgV)
        have V2_49 := Lib.hid (ownRs_store V2_48.out B48.out hgV)
        have V3_49 := Lib.hid (ownRs_store V3_48.out B48.out hgV)
        clear hV hgV fz
        refine hK.out _ _ trivial (fun hHeld => ?_)
        clear hK K
        try simp only [pz0, pz2, pz3, pz4]
        refine tkz 14 (qCpM8 _) ?_ rfl ?_ ?_
        rotate_left
        ·intro w hSw
         unfold qCpM8
         go_simp
         first | done | with_reducible rfl
        try simp only [qCpM8, pz0, pz2, pz3, pz4]
        refine wpAnyH_ready (rs := [15]) (by kernel_rfl) (by simp) ?_
        refine arz (qCpM9 _) rfl (fun K hK => ?_) AllReadyH.nil
        unfold qCpM9
        have fz : G49.frozen? ⟨w.heap.size, 12, none⟩ = false := by rw [B49.out.frozen]; try simp
        have zz : G49.cell? ⟨w.heap.size, 12, none⟩ = some (.slice au nn2 nc2) := (B49.out.cell 12).trans rfl
        go_simp
        obtain ⟨G50, hV⟩ : ∃ V, G49.setCell ⟨w.heap.size, 12, none⟩ (.slice a2 Q2.length c2) = V := ⟨_, rfl⟩
        try rw [hV]
        have hgV : G49.grownBy G50 (some w.heap.size) := by rw [← hV]; exact grown_set _ _ _ _
        have B50 : Hid (Blk G50 w.heap.size 60 (0, 0) [m0, m1, m2, m3, m4, m5, m6, m7, m8, m9, .slice av aq cv, .slice a1 Q1.length c1, .slice a2 Q2.length c2, .slice ad nn3 nc3]) := Lib.hid (by rw [← hV]; exact B49.out.set 12 _)
        have b50 : Hid (Below w.heap.size w G50) := Lib.hid (b49.out.grown hgV b49.out.size (fun j hj => by cases hj; exact Nat.le_refl _))
        have Q50 := Lib.hid (ownQs_store Q49.out B49.out (by decide) (by decide) hgV)
        have Z50 := Lib.hid (Z49.out.grownV2 hgV (fun e => by have e2 := Option.some.inj e; have := hl1.out; omega))
        have V1_50 := Lib.hid (ownRs_store V1_49.out B49.out hgV)
        have V2_50 := Lib.hid (ownRs_store V2_49.out B49.out hgV)
        have V3_50 := Lib.hid (ownRs_store V3_49.out B49.out hgV)
        clear hV hgV fz zz
        refine hK.out _ _ trivial (fun hHeld => ?_)
        clear hK K
        try simp only [pz0, pz2, pz3, pz4]
        refine tkz 16 (qCpM10 _) ?_ rfl ?_ ?_
        rotate_left
        ·intro w hSw
         unfold qCpM10
         go_simp
         first | done | with_reducible rfl
        try simp only [qCpM10, pz0, pz2, pz3, pz4]
        refine wpAnyH_ready (rs := [17]) (by kernel_rfl) (by simp) ?_
        refine arz (qCpM11 _) rfl (fun K hK => ?_) AllReadyH.nil
        unfold qCpM11
        have fz : G50.frozen? ⟨w.heap.size, 13, none⟩ = false := by rw [B50.out.frozen]; try simp
        have zz : G50.cell? ⟨w.heap.size, 13, none⟩ = some (.slice ad nn3 nc3) := (B50.out.cell 13).trans rfl
        go_simp
        obtain ⟨G51, hV⟩ : ∃ V, G50.setCell ⟨w.heap.size, 13, none⟩ (.slice a3 Q3.length c3) = V := ⟨_, rfl⟩
        try rw [hV]
        have hgV : G50.grownBy G51 (some w.heap.size) := by rw [← hV]; exact grown_set _ _ _ _
        have B51 : Hid (Blk G51 w.heap.size 60 (0, 0) [m0, m1, m2, m3, m4, m5, m6, m7, m8, m9, .slice av aq cv, .slice a1 Q1.length c1, .slice a2 Q2.length c2, .slice a3 Q3.length c3]) := Lib.hid (by rw [← hV]; exact B50.out.set 13 _)
        have b51 : Hid (Below w.heap.size w G51) := Lib.hid (b50.out.grown hgV b50.out.size (fun j hj => by cases hj; exact Nat.le_refl _))
        have Q51 := Lib.hid (ownQs_store Q50.out B50.out (by decide) (by decide) hgV)
        have Z51 := Lib.hid (Z50.out.grownV2 hgV (fun e => by have e2 := Option.some.inj e; have := hl1.out; omega))
        have V1_51 := Lib.hid (ownRs_store V1_50.out B50.out hgV)
        have V2_51 := Lib.hid (ownRs_store V2_50.out B50.out hgV)
        have V3_51 := Lib.hid (ownRs_store V3_50.out B50.out hgV)
        clear hV hgV fz zz
        refine hK.out _ _ trivial (fun hHeld => ?_)
        clear hK K
        refine wpAnyH_done (by kernel_rfl) ?_ _
        refine NoPanic.normal ?_
        go_wp2_with fail
        go_meet
        exact ⟨_, _, _, rfl, rfl, rfl, rfl, B51, Z51, Q51, V1_51, V2_51, V3_51, Lib.hid ⟨A12.out, A13.out, A23.out⟩, b51⟩
       refine arz (qCpM4 _) rfl (fun K hK => ?_) AllReadyH.nil
       unfold qCpM4
       go_simp
       refine hK.out _ _ trivial (fun hHeld => ?_)
       clear hK K
       try simp only [pz0, pz2, pz3, pz4]
       refine tkz 12 (qCpM5 _) ?_ rfl ?_ ?_
       rotate_left
       ·intro w hSw
        unfold qCpM5
        go_simp
        first | done | with_reducible rfl
       try simp only [qCpM5, pz0, pz2, pz3, pz4]
       refine wpAnyH_ready (rs := [7]) (by kernel_rfl) (by simp) ?_
       refine arz (qCpM3 _) rfl (fun K hK => ?_) AllReadyH.nil
       unfold qCpM3
       refine step_callv (by rfl) (.tmp 31) (.tmp 33) 55 (by rfl) (by rfl) (by rfl) enter66 ?_
       refine (recs_copy ((hR2.out.ext hb.out).ext k46.out)).mono ?_
       rintro e G52 ⟨⟨v2, rfl, hw⟩, m52⟩
       have k52 := Lib.hid (k46.out.trans (m52.mono k46.out.size))
       have B52 := Lib.hid (B46.out.below m52 B46.out.lt)
       have V2_52 := Lib.hid (hw.mono (Nat.le_trans hb.out.size k46.out.size))
       obtain ⟨a2, c2, rfl⟩ := hw.shape
       have V1_52 := Lib.hid (V1_46.out.ext m52)
       have A12 : Hid (Apt (.slice a1 Q1.length c1) (.slice a2 Q2.length c2)) := Lib.hid (apt_new V1_46.out hw)
       have z11_52 : G52.cell? ⟨w.heap.size, 11, none⟩ = some (.slice an nn1 nc1) := (B52.out.cell 11).trans rfl
       have z12_52 : G52.cell? ⟨w.heap.size, 12, none⟩ = some (.slice au nn2 nc2) := (B52.out.cell 12).trans rfl
       have z13_52 : G52.cell? ⟨w.heap.size, 13, none⟩ = some (.slice ad nn3 nc3) := (B52.out.cell 13).trans rfl
       clear hw m52
       refine ⟨_, rfl, ?_⟩
       refine hK.out _ _ trivial (fun hHeld => ?_)
       clear hK K
       try simp only [pz0, pz2, pz3, pz4]
       refine wpAnyH_ready (rs := [11]) (by kernel_rfl) (by simp) ?_
       refine arz (qCpM6 _) rfl (fun K hK => ?_) AllReadyH.nil
       unfold qCpM6
       refine step_callv (by rfl) (.tmp 35) (.tmp 37) 55 (by rfl) (by rfl) (by rfl) enter66 ?_
       refine (recs_copy ((hR3.out.ext hb.out).ext k52.out)).mono ?_
       rintro e G53 ⟨⟨v3, rfl, hw⟩, m53⟩
       have k53 := Lib.hid (k52.out.trans (m53.mono k52.out.size))
       have B53 := Lib.hid (B52.out.below m53 B52.out.lt)
       have V3_53 := Lib.hid (hw.mono (Nat.le_trans hb.out.size k52.out.size))
       obtain ⟨a3, c3, rfl⟩ := hw.shape
       have V1_53 := Lib.hid (V1_52.out.ext m53)
       have V2_53 := Lib.hid (V2_52.out.ext m53)
       have A13 : Hid (Apt (.slice a1 Q1.length c1) (.slice a3 Q3.length c3)) := Lib.hid (apt_new V1_52.out hw)
       have A23 : Hid (Apt (.slice a2 Q2.length c2) (.slice a3 Q3.length c3)) := Lib.hid (apt_new V2_52.out hw)
       have z11_53 : G53.cell? ⟨w.heap.size, 11, none⟩ = some (.slice an nn1 nc1) := (B53.out.cell 11).trans rfl
       have z12_53 : G53.cell? ⟨w.heap.size, 12, none⟩ = some (.slice au nn2 nc2) := (B53.out.cell 12).trans rfl
       have z13_53 : G53.cell? ⟨w.heap.size, 13, none⟩ = some (.slice ad nn3 nc3) := (B53.out.cell 13).trans rfl
       clear hw m53
       refine ⟨_, rfl, ?_⟩
       refine hK.out _ _ trivial (fun hHeld => ?_)
       clear hK K
       try simp only [pz0, pz2, pz3, pz4]
       refine wpAnyH_ready (rs := [13]) (by kernel_rfl) (by simp) ?_
       refine arz (qCpM7 _) rfl (fun K hK => ?_) AllReadyH.nil
       unfold qCpM7
       have fz : G53.frozen? ⟨w.heap.size, 11, none⟩ = false := by rw [B53.out.frozen]; try simp
       go_simp
       obtain ⟨G54, hV⟩ : ∃ V, G53.setCell ⟨w.heap.size, 11, none⟩ (.slice a1 Q1.length c1) = V := ⟨_, rfl⟩
       try rw [hV]
       have hgV : G53.grownBy G54 (some w.heap.size) := by rw [← hV]; exact grown_set _ _ _ _
       have B54 : Hid (Blk G54 w.heap.size 60 (0, 0) [m0, m1, m2, m3, m4, m5, m6, m7, m8, m9, .slice av aq cv, .slice a1 Q1.length c1, .slice au nn2 nc2, .slice ad nn3 nc3]) := Lib.hid (by rw [← hV]; exact B53.out.set 11 _)
       have b54 : Hid (Below w.heap.size w G54) := Lib.hid ((hb.out.trans (k53.out.mono hb.out.size)).grown hgV (Nat.le_trans hb.out.size k53.out.size) (fun j hj => by cases hj; exact Nat.le_refl _))
       have Q54 := Lib.hid (ownQs_store (hv.out.ext k53.out) B53.out (by decide) (by decide) hgV)
       have Z54 := Lib.hid ((hZ.out.below k53.out hZ.out.lt).grownV2 hgV (fun e => by have e2 := Option.some.inj e; have := hl1.out; omega))
       have V1_54 := Lib.hid (ownRs_store V1_53.out B53.out hgV)
       have V2_54 := Lib.hid (ownRs_store V2_53.out B53.out hgV)
       have V3_54 := Lib.hid (ownRs_store V3_53.out B53.out hgV)
       clear hV hgV fz
       refine hK.out _ _ trivial (fun hHeld => ?_)
       clear hK K
       try simp only [pz0, pz2, pz3, pz4]
       refine tkz 14 (qCpM8 _) ?_ rfl ?_ ?_
       rotate_left
       ·intro w hSw
        unfold qCpM8
        go_simp
        first | done | with_reducible rfl
       try simp only [qCpM8, pz0, pz2, pz3, pz4]
       refine wpAnyH_ready (rs := [15]) (by kernel_rfl) (by simp) ?_
       refine arz (qCpM9 _) rfl (fun K hK => ?_) AllReadyH.nil
       unfold qCpM9
       have fz : G54.frozen? ⟨w.heap.size, 12, none⟩ = false := by rw [B54.out.frozen]; try simp
       have zz : G54.cell? ⟨w.heap.size, 12, none⟩ = some (.slice au nn2 nc2) := (B54.out.cell 12).trans rfl
       go_simp
       obtain ⟨G55, hV⟩ : ∃ V, G54.setCell ⟨w.heap.size, 12, none⟩ (.slice a2 Q2.length c2) = V := ⟨_, rfl⟩
       try rw [hV]
       have hgV : G54.grownBy G55 (some w.heap.size) := by rw [← hV]; exact grown_set _ _ _ _
       have B55 : Hid (Blk G55 w.heap.size 60 (0, 0) [m0, m1, m2, m3, m4, m5, m6, m7, m8, m9, .slice av aq cv, .slice a1 Q1.length c1, .slice a2 Q2.length c2, .slice ad nn3 nc3]) := Lib.hid (by rw [← hV]; exact B54.out.set 12 _)
       have b55 : Hid (Below w.heap.size w G55) := Lib.hid (b54.out.grown hgV b54.out.size (fun j hj => by cases hj; exact Nat.le_refl _))
       have Q55 := Lib.hid (ownQs_store Q54.out B54.out (by decide) (by decide) hgV)
       have Z55 := Lib.hid (Z54.out.grownV2 hgV (fun e => by have e2 := Option.some.inj e; have := hl1.out; omega))
       have V1_55 := Lib.hid (ownRs_store V1_54.out B54.out hgV)
       have V2_55 := Lib.hid (ownRs_store V2_54.out B54.out hgV)
       have V3_55 := Lib.hid (ownRs_store V3_54.out B54.out hgV)
       clear hV hgV fz zz
       refine hK.out _ _ trivial (fun hHeld => ?_)
       clear hK K
       try simp only [pz0, pz2, pz3, pz4]
       refine tkz 16 (qCpM10 _) ?_ rfl ?_ ?_
       rotate_left
       ·intro w hSw
        unfold qCpM10
        go_simp
        first | done | with_reducible rfl
       try simp only [qCpM10, pz0, pz2, pz3, pz4]
       refine wpAnyH_ready (rs := [17]) (by kernel_rfl) (by simp) ?_
       refine arz (qCpM11 _) rfl (fun K hK => ?_) AllReadyH.nil
       unfold qCpM11
       have fz : G55.frozen? ⟨w.heap.size, 13, none⟩ = false := by rw [B55.out.frozen]; try simp
       have zz : G55.cell? ⟨w.heap.size, 13, none⟩ = some (.slice ad nn3 nc3) := (B55.out.cell 13).trans rfl
       go_simp
       obtain ⟨G56, hV⟩ : ∃ V, G55.setCell ⟨w.heap.size, 13, none⟩ (.slice a3 Q3.length c3) = V := ⟨_, rfl⟩
       try rw [hV]
       have hgV : G55.grownBy G56 (some w.heap.size) := by rw [← hV]; exact grown_set _ _ _ _
       have B56 : Hid (Blk G56 w.heap.size 60 (0, 0) [m0, m1, m2, m3, m4, m5, m6, m7, m8, m9, .slice av aq cv, .slice a1 Q1.length c1, .slice a2 Q2.length c2, .slice a3 Q3.length c3]) := Lib.hid (by rw [← hV]; exact B55.out.set 13 _)
       have b56 : Hid (Below w.heap.size w G56) := Lib.hid (b55.out.grown hgV b55.out.size (fun j hj => by cases hj; exact Nat.le_refl _))
       have Q56 := Lib.hid (ownQs_store Q55.out B55.out (by decide) (by decide) hgV)
       have Z56 := Lib.hid (Z55.out.grownV2 hgV (fun e => by have e2 := Option.some.inj e; have := hl1.out; omega))
       have V1_56 := Lib.hid (ownRs_store V1_55.out B55.out hgV)
       have V2_56 := Lib.hid (ownRs_store V2_55.out B55.out hgV)
       have V3_56 := Lib.hid (ownRs_store V3_55.out B55.out hgV)
       clear hV hgV fz zz
       refine hK.out _ _ trivial (fun hHeld => ?_)
       clear hK K
       refine wpAnyH_done (by kernel_rfl) ?_ _
       refine NoPanic.normal ?_
       go_wp2_with fail
       go_meet
       exact ⟨_, _, _, rfl, rfl, rfl, rfl, B56, Z56, Q56, V1_56, V2_56, V3_56, Lib.hid ⟨A12.out, A13.out, A23.out⟩, b56⟩
      refine arz (qCpM4 _) rfl (fun K hK => ?_) AllReadyH.nil
      unfold qCpM4
      go_simp
      refine hK.out _ _ trivial (fun hHeld => ?_)
      clear hK K
      try simp only [pz0, pz2, pz3, pz4]
      refine wpAnyH_ready (rs := [3]) (by kernel_rfl) (by simp) ?_
      refine arz (qCpM1 _) rfl (fun K hK => ?_) AllReadyH.nil
      unfold qCpM1
      refine step_callv (by rfl) (.tmp 27) (.tmp 29) 55 (by rfl) (by rfl) (by rfl) enter66 ?_
      refine (recs_copy ((hR1.out.ext hb.out).ext k0.out)).mono ?_
      rintro e G57 ⟨⟨v1, rfl, hw⟩, m57⟩
      have k57 := Lib.hid (k0.out.trans (m57.mono k0.out.size))
      have B57 := Lib.hid (B0.out.below m57 B0.out.lt)
      have V1_57 := Lib.hid (hw.mono (Nat.le_trans hb.out.size k0.out.size))
      obtain ⟨a1, c1, rfl⟩ := hw.shape
      have z11_57 : G57.cell? ⟨w.heap.size, 11, none⟩ = some (.slice an nn1 nc1) := (B57.out.cell 11).trans rfl
      have z12_57 : G57.cell? ⟨w.heap.size, 12, none⟩ = some (.slice au nn2 nc2) := (B57.out.cell 12).trans rfl
      have z13_57 : G57.cell? ⟨w.heap.size, 13, none⟩ = some (.slice ad nn3 nc3) := (B57.out.cell 13).trans rfl
      clear hw m57
      refine ⟨_, rfl, ?_⟩
      refine hK.out _ _ trivial (fun hHeld => ?_)
      clear hK K
      try simp only [pz0, pz2, pz3, pz4]
      refine tkz 12 (qCpM5 _) ?_ rfl ?_ ?_
      rotate_left
      ·intro w hSw
       unfold qCpM5
       go_simp
       first | done | with_reducible rfl
      try simp only [qCpM5, pz0, pz2, pz3, pz4]
      refine wpAnyH_ready (rs := [7]) (by kernel_rfl) (by simp) ?_
      refine arz (qCpM3 _) rfl (fun K hK => ?_) AllReadyH.nil
      unfold qCpM3
      refine step_callv (by rfl) (.tmp 31) (.tmp 33) 55 (by rfl) (by rfl) (by rfl) enter66 ?_
      refine (recs_copy ((hR2.out.ext hb.out).ext k57.out)).mono ?_
      rintro e G58 ⟨⟨v2, rfl, hw⟩, m58⟩
      have k58 := Lib.hid (k57.out.trans (m58.mono k57.out.size))
      have B58 := Lib.hid (B57.out.below m58 B57.out.lt)
      have V2_58 := Lib.hid (hw.mono (Nat.le_trans hb.out.size k57.out.size))
      obtain ⟨a2, c2, rfl⟩ := hw.shape
      have V1_58 := Lib.hid (V1_57.out.ext m58)
      have A12 : Hid (Apt (.slice a1 Q1.length c1) (.slice a2 Q2.length c2)) := Lib.hid (apt_new V1_57.out hw)
      have z11_58 : G58.cell? ⟨w.heap.size, 11, none⟩ = some (.slice an nn1 nc1) := (B58.out.cell 11).trans rfl
      have z12_58 : G58.cell? ⟨w.heap.size, 12, none⟩ = some (.slice au nn2 nc2) := (B58.out.cell 12).trans rfl
      have z13_58 : G58.cell? ⟨w.heap.size, 13, none⟩ = some (.slice ad nn3 nc3) := (B58.out.cell 13).trans rfl
      clear hw m58
      refine ⟨_, rfl, ?_⟩
      refine hK.out _ _ trivial (fun hHeld => ?_)
      clear hK K
      try simp only [pz0, pz2, pz3, pz4]
      refine wpAnyH_ready (rs := [11]) (by kernel_rfl) (by simp) ?_
      refine arz (qCpM6 _) rfl (fun K hK => ?_) AllReadyH.nil
      unfold qCpM6
      refine step_callv (by rfl) (.tmp 35) (.tmp 37) 55 (by rfl) (by rfl) (by rfl) enter66 ?_
      refine (recs_copy ((hR3.out.ext hb.out).ext k58.out)).mono ?_
      rintro e G59 ⟨⟨v3, rfl, hw⟩, m59⟩
      have k59 := Lib.hid (k58.out.trans (m59.mono k58.out.size))
      have B59 := Lib.hid (B58.out.below m59 B58.out.lt)
      have V3_59 := Lib.hid (hw.mono (Nat.le_trans hb.out.size k58.out.size))
      obtain ⟨a3, c3, rfl⟩ := hw.shape
      have V1_59 := Lib.hid (V1_58.out.ext m59)
      have V2_59 := Lib.hid (V2_58.out.ext m59)
      have A13 : Hid (Apt (.slice a1 Q1.length c1) (.slice a3 Q3.length c3)) := Lib.hid (apt_new V1_58.out hw)
      have A23 : Hid (Apt (.slice a2 Q2.length c2) (.slice a3 Q3.length c3)) := Lib.hid (apt_new V2_58.out hw)
      have z11_59 : G59.cell? ⟨w.heap.size, 11, none⟩ = some (.slice an nn1 nc1) := (B59.out.cell 11).trans rfl
      have z12_59 : G59.cell? ⟨w.heap.size, 12, none⟩ = some (.slice au nn2 nc2) := (B59.out.cell 12).trans rfl
      have z13_59 : G59.cell? ⟨w.heap.size, 13, none⟩ = some (.slice ad nn3 nc3) := (B59.out.cell 13).trans rfl
      clear hw m59
      refine ⟨_, rfl, ?_⟩
      refine hK.out _ _ trivial (fun hHeld => ?_)
      clear hK K
      try simp only [pz0, pz2, pz3, pz4]
      refine wpAnyH_ready (rs := [13]) (by kernel_rfl) (by simp) ?_
      refine arz (qCpM7 _) rfl (fun K hK => ?_) AllReadyH.nil
      unfold qCpM7
      have fz : G59.frozen? ⟨w.heap.size, 11, none⟩ = false := by rw [B59.out.frozen]; try simp
      go_simp
      obtain ⟨G60, hV⟩ : ∃ V, G59.setCell ⟨w.heap.size, 11, none⟩ (.slice a1 Q1.length c1) = V := ⟨_, rfl⟩
      try rw [hV]
      have hgV : G59.grownBy G60 (some w.heap.size) := by rw [← hV]; exact grown_set _ _ _ _
      have B60 : Hid (Blk G60 w.heap.size 60 (0, 0) [m0, m1, m2, m3, m4, m5, m6, m7, m8, m9, .slice av aq cv, .slice a1 Q1.length c1, .slice au nn2 nc2, .slice ad nn3 nc3]) := Lib.hid (by rw [← hV]; exact B59.out.set 11 _)
      have b60 : Hid (Below w.heap.size w G60) := Lib.hid ((hb.out.trans (k59.out.mono hb.out.size)).grown hgV (Nat.le_trans hb.out.size k59.out.size) (fun j hj => by cases hj; exact Nat.le_refl _))
      have Q60 := Lib.hid (ownQs_store (hv.out.ext k59.out) B59.out (by decide) (by decide) hgV)
      have Z60 := Lib.hid ((hZ.out.below k59.out hZ.out.lt).grownV2 hgV (fun e => by have e2 := Option.some.inj e; have := hl1.out; omega))
      have V1_60 := Lib.hid (ownRs_store V1_59.out B59.out hgV)
      have V2_60 := Lib.hid (ownRs_store V2_59.out B59.out hgV)
      have V3_60 := Lib.hid (ownRs_store V3_59.out B59.out hgV)
      clear hV hgV fz
      refine hK.out _ _ trivial (fun hHeld => ?_)
      clear hK K
      try simp only [pz0, pz2, pz3, pz4]
      refine tkz 14 (qCpM8 _) ?_ rfl ?_ ?_
      rotate_left
      ·intro w hSw
       unfold qCpM8
       go_simp
       first | done | with_reducible rfl
      try simp only [qCpM8, pz0, pz2, pz3, pz4]
      refine wpAnyH_ready (rs := [15]) (by kernel_rfl) (by simp) ?_
      refine arz (qCpM9 _) rfl (fun K hK => ?_) AllReadyH.nil
      unfold qCpM9
      have fz : G60.frozen? ⟨w.heap.size, 12, none⟩ = false := by rw [B60.out.frozen]; try simp
      have zz : G60.cell? ⟨w.heap.size, 12, none⟩ = some (.slice au nn2 nc2) := (B60.out.cell 12).trans rfl
      go_simp
      obtain ⟨G61, hV⟩ : ∃ V, G60.setCell ⟨w.heap.size, 12, none⟩ (.slice a2 Q2.length c2) = V := ⟨_, rfl⟩
      try rw [hV]
      have hgV : G60.grownBy G61 (some w.heap.size) := by rw [← hV]; exact grown_set _ _ _ _
      have B61 : Hid (Blk G61 w.heap.size 60 (0, 0) [m0, m1, m2, m3, m4, m5, m6, m7, m8, m9, .slice av aq cv, .slice a1 Q1.length c1, .slice a2 Q2.length c2, .slice ad nn3 nc3]) := Lib.hid (by rw [← hV]; exact B60.out.set 12 _)
      have b61 : Hid (Below w.heap.size w G61) := Lib.hid (b60.out.grown hgV b60.out.size (fun j hj => by cases hj; exact Nat.le_refl _))
      have Q61 := Lib.hid (ownQs_store Q60.out B60.out (by decide) (by decide) hgV)
      have Z61 := Lib.hid (Z60.out.grownV2 hgV (fun e => by have e2 := Option.some.inj e; have := hl1.out; omega))
      have V1_61 := Lib.hid (ownRs_store V1_60.out B60.out hgV)
      have V2_61 := Lib.hid (ownRs_store V2_60.out B60.out hgV)
      have V3_61 := Lib.hid (ownRs_store V3_60.out B60.out hgV)
      clear hV hgV fz zz
      refine hK.out _ _ trivial (fun hHeld => ?_)
      clear hK K
      try simp only [pz0, pz2, pz3, pz4]
      refine tkz 16 (qCpM10 _) ?_ rfl ?_ ?_
      rotate_left
      ·intro w hSw
       unfold qCpM10
       go_simp
       first | done | with_reducible rfl
      try simp only [qCpM10, pz0, pz2, pz3, pz4]
      refine wpAnyH_ready (rs := [17]) (by kernel_rfl) (by simp) ?_
      refine arz (qCpM11 _) rfl (fun K hK => ?_) AllReadyH.nil
      unfold qCpM11
      have fz : G61.frozen? ⟨w.heap.size, 13, none⟩ = false := by rw [B61.out.frozen]; try simp
      have zz : G61.cell? ⟨w.heap.size, 13, none⟩ = some (.slice ad nn3 nc3) := (B61.out.cell 13).trans rfl
      go_simp
      obtain ⟨G62, hV⟩ : ∃ V, G61.setCell ⟨w.heap.size, 13, none⟩ (.slice a3 Q3.length c3) = V := ⟨_, rfl⟩
      try rw [hV]
      have hgV : G61.grownBy G62 (some w.heap.size) := by rw [← hV]; exact grown_set _ _ _ _
      have B62 : Hid (Blk G62 w.heap.size 60 (0, 0) [m0, m1, m2, m3, m4, m5, m6, m7, m8, m9, .slice av aq cv, .slice a1 Q1.length c1, .slice a2 Q2.length c2, .slice a3 Q3.length c3]) := Lib.hid (by rw [← hV]; exact B61.out.set 13 _)
      have b62 : Hid (Below w.heap.size w G62) := Lib.hid (b61.out.grown hgV b61.out.size (fun j hj => by cases hj; exact Nat.le_refl _))
      have Q62 := Lib.hid (ownQs_store Q61.out B61.out (by decide) (by decide) hgV)
      have Z62 := Lib.hid (Z61.out.grownV2 hgV (fun e => by have e2 := Option.some.inj e; have := hl1.out; omega))
      have V1_62 := Lib.hid (ownRs_store V1_61.out B61.out hgV)
      have V2_62 := Lib.hid (ownRs_store V2_61.out B61.out hgV)
      have V3_62 := Lib.hid (ownRs_store V3_61.out B61.out hgV)
      clear hV hgV fz zz
      refine hK.out _ _ trivial (fun hHeld => ?_)
      clear hK K
      refine wpAnyH_done (by kernel_rfl) ?_ _
      refine NoPanic.normal ?_
      go_wp2_with fail
      go_meet
      exact ⟨_, _, _, rfl, rfl, rfl, rfl, B62, Z62, Q62, V1_62, V2_62, V3_62, Lib.hid ⟨A12.out, A13.out, A23.out⟩, b62⟩
     refine arz (qCpM4 _) rfl (fun K hK => ?_) AllReadyH.nil
     unfold qCpM4
     go_simp
     refine hK.out _ _ trivial (fun hHeld => ?_)
     clear hK K
     try simp only [pz0, pz2, pz3, pz4]
     refine wpAnyH_ready (rs := [2]) (by kernel_rfl) (by simp) ?_
     refine arz (qCpM0 _) rfl (fun K hK => ?_) AllReadyH.nil
     unfold qCpM0
     go_simp
     refine hK.out _ _ trivial (fun hHeld => ?_)
     clear hK K
     try simp only [pz0, pz2, pz3, pz4]
     refine wpAnyH_ready (rs := [3]) (by kernel_rfl) (by simp) ?_
     refine arz (qCpM1 _) rfl (fun K hK => ?_) AllReadyH.nil
     unfold qCpM1
     refine step_callv (by rfl) (.tmp 27) (.tmp 29) 55 (by rfl) (by rfl) (by rfl) enter66 ?_
     refine (recs_copy ((hR1.out.ext hb.out).ext k0.out)).mono ?_
     rintro e G63 ⟨⟨v1, rfl, hw⟩, m63⟩
     have k63 := Lib.hid (k0.out.trans (m63.mono k0.out.size))
     have B63 := Lib.hid (B0.out.below m63 B0.out.lt)
     have V1_63 := Lib.hid (hw.mono (Nat.le_trans hb.out.size k0.out.size))
     obtain ⟨a1, c1, rfl⟩ := hw.shape
     have z11_63 : G63.cell? ⟨w.heap.size, 11, none⟩ = some (.slice an nn1 nc1) := (B63.out.cell 11).trans rfl
     have z12_63 : G63.cell? ⟨w.heap.size, 12, none⟩ = some (.slice au nn2 nc2) := (B63.out.cell 12).trans rfl
     have z13_63 : G63.cell? ⟨w.heap.size, 13, none⟩ = some (.slice ad nn3 nc3) := (B63.out.cell 13).trans rfl
     clear hw m63
     refine ⟨_, rfl, ?_⟩
     refine hK.out _ _ trivial (fun hHeld => ?_)
     clear hK K
     try simp only [pz0, pz2, pz3, pz4]
     refine tkz 12 (qCpM5 _) ?_ rfl ?_ ?_
     rotate_left
     ·intro w hSw
      unfold qCpM5
      go_simp
      first | done | with_reducible rfl
     try simp only [qCpM5, pz0, pz2, pz3, pz4]
     refine wpAnyH_ready (rs := [7]) (by kernel_rfl) (by simp) ?_
     refine arz (qCpM3 _) rfl (fun K hK => ?_) AllReadyH.nil
     unfold qCpM3
     refine step_callv (by rfl) (.tmp 31) (.tmp 33) 55 (by rfl) (by rfl) (by rfl) enter66 ?_
     refine (recs_copy ((hR2.out.ext hb.out).ext k63.out)).mono ?_
     rintro e G64 ⟨⟨v2, rfl, hw⟩, m64⟩
     have k64 := Lib.hid (k63.out.trans (m64.mono k63.out.size))
     have B64 := Lib.hid (B63.out.below m64 B63.out.lt)
     have V2_64 := Lib.hid (hw.mono (Nat.le_trans hb.out.size k63.out.size))
     obtain ⟨a2, c2, rfl⟩ := hw.shape
     have V1_64 := Lib.hid (V1_63.out.ext m64)
     have A12 : Hid (Apt (.slice a1 Q1.length c1) (.slice a2 Q2.length c2)) := Lib.hid (apt_new V1_63.out hw)
     have z11_64 : G64.cell? ⟨w.heap.size, 11, none⟩ = some (.slice an nn1 nc1) := (B64.out.cell 11).trans rfl
     have z12_64 : G64.cell? ⟨w.heap.size, 12, none⟩ = some (.slice au nn2 nc2) := (B64.out.cell 12).trans rfl
     have z13_64 : G64.cell? ⟨w.heap.size, 13, none⟩ = some (.slice ad nn3 nc3) := (B64.out.cell 13).trans rfl
     clear hw m64
     refine ⟨_, rfl, ?_⟩
     refine hK.out _ _ trivial (fun hHeld => ?_)
     clear hK K
     try simp only [pz0, pz2, pz3, pz4]
     refine wpAnyH_ready (rs := [11]) (by kernel_rfl) (by simp) ?_
     refine arz (qCpM6 _) rfl (fun K hK => ?_) AllReadyH.nil
     unfold qCpM6
     refine step_callv (by rfl) (.tmp 35) (.tmp 37) 55 (by rfl) (by rfl) (by rfl) enter66 ?_
     refine (recs_copy ((hR3.out.ext hb.out).ext k64.out)).mono ?_
     rintro e G65 ⟨⟨v3, rfl, hw⟩, m65⟩
     have k65 := Lib.hid (k64.out.trans (m65.mono k64.out.size))
     have B65 := Lib.hid (B64.out.below m65 B64.out.lt)
     have V3_65 := Lib.hid (hw.mono (Nat.le_trans hb.out.size k64.out.size))
     obtain ⟨a3, c3, rfl⟩ := hw.shape
     have V1_65 := Lib.hid (V1_64.out.ext m65)
     have V2_65 := Lib.hid (V2_64.out.ext m65)
     have A13 : Hid (Apt (.slice a1 Q1.length c1) (.slice a3 Q3.length c3)) := Lib.hid (apt_new V1_64.out hw)
     have A23 : Hid (Apt (.slice a2 Q2.length c2) (.slice a3 Q3.length c3)) := Lib.hid (apt_new V2_64.out hw)
     have z11_65 : G65.cell? ⟨w.heap.size, 11, none⟩ = some (.slice an nn1 nc1) := (B65.out.cell 11).trans rfl
     have z12_65 : G65.cell? ⟨w.heap.size, 12, none⟩ = some (.slice au nn2 nc2) := (B65.out.cell 12).trans rfl
     have z13_65 : G65.cell? ⟨w.heap.size, 13, none⟩ = some (.slice ad nn3 nc3) := (B65.out.cell 13).trans rfl
     clear hw m65
     refine ⟨_, rfl, ?_⟩
     refine hK.out _ _ trivial (fun hHeld => ?_)
     clear hK K
     try simp only [pz0, pz2, pz3, pz4]
     refine wpAnyH_ready (rs := [13]) (by kernel_rfl) (by simp) ?_
     refine arz (qCpM7 _) rfl (fun K hK => ?_) AllReadyH.nil
     unfold qCpM7
     have fz : G65.frozen? ⟨w.heap.size, 11, none⟩ = false := by rw [B65.out.frozen]; try simp
     go_simp
     obtain ⟨G66, hV⟩ : ∃ V, G65.setCell ⟨w.heap.size, 11, none⟩ (.slice a1 Q1.length c1) = V := ⟨_, rfl⟩
     try rw [hV]
     have hgV : G65.grownBy G66 (some w.heap.size) := by rw [← hV]; exact grown_set _ _ _ _
     have B66 : Hid (Blk G66 w.heap.size 60 (0, 0) [m0, m1, m2, m3, m4, m5, m6, m7, m8, m9, .slice av aq cv, .slice a1 Q1.length c1, .slice au nn2 nc2, .slice ad nn3 nc3]) := Lib.hid (by rw [← hV]; exact B65.out.set 11 _)
     have b66 : Hid (Below w.heap.size w G66) := Lib.hid ((hb.out.trans (k65.out.mono hb.out.size)).grown hgV (Nat.le_trans hb.out.size k65.out.size) (fun j hj => by cases hj; exact Nat.le_refl _))
     have Q66 := Lib.hid (ownQs_store (hv.out.ext k65.out) B65.out (by decide) (by decide) hgV)
     have Z66 := Lib.hid ((hZ.out.below k65.out hZ.out.lt).grownV2 hgV (fun e => by have e2 := Option.some.inj e; have := hl1.out; omega))
     have V1_66 := Lib.hid (ownRs_store V1_65.out B65.out hgV)
     have V2_66 := Lib.hid (ownRs_store V2_65.out B65.out hgV)
     have V3_66 := Lib.hid (ownRs_store V3_65.out B65.out hgV)
     clear hV hgV fz
     refine hK.out _ _ trivial (fun hHeld => ?_)
     clear hK K
     try simp only [pz0, pz2, pz3, pz4]
     refine tkz 14 (qCpM8 _) ?_ rfl ?_ ?_
     rotate_left
     ·intro w hSw
      unfold qCpM8
      go_simp
      first | done | with_reducible rfl
     try simp only [qCpM8, pz0, pz2, pz3, pz4]
     refine wpAnyH_ready (rs := [15]) (by kernel_rfl) (by simp) ?_
     refine arz (qCpM9 _) rfl (fun K hK => ?_) AllReadyH.nil
     unfold qCpM9
     have fz : G66.frozen? ⟨w.heap.size, 12, none⟩ = false := by rw [B66.out.frozen]; try simp
     have zz : G66.cell? ⟨w.heap.size, 12, none⟩ = some (.slice au nn2 nc2) := (B66.out.cell 12).trans rfl
     go_simp
     obtain ⟨G67, hV⟩ : ∃ V, G66.setCell ⟨w.heap.size, 12, none⟩ (.slice a2 Q2.length c2) = V := ⟨_, rfl⟩
     try rw [hV]
     have hgV : G66.grownBy G67 (some w.heap.size) := by rw [← hV]; exact grown_set _ _ _ _
     have B67 : Hid (Blk G67 w.heap.size 60 (0, 0) [m0, m1, m2, m3, m4, m5, m6, m7, m8, m9, .slice av aq cv, .slice a1 Q1.length c1, .slice a2 Q2.length c2, .slice ad nn3 nc3]) := Lib.hid (by rw [← hV]; exact B66.out.set 12 _)
     have b67 : Hid (Below w.heap.size w G67) := Lib.hid (b66.out.grown hgV b66.out.size (fun j hj => by cases hj; exact Nat.le_refl _))
     have Q67 := Lib.hid (ownQs_store Q66.out B66.out (by decide) (by decide) hgV)
     have Z67 := Lib.hid (Z66.out.grownV2 hgV (fun e => by have e2 := Option.some.inj e; have := hl1.out; omega))
     have V1_67 := Lib.hid (ownRs_store V1_66.out B66.out hgV)
     have V2_67 := Lib.hid (ownRs_store V2_66.out B66.out hgV)
     have V3_67 := Lib.hid (ownRs_store V3_66.out B66.out hgV)
     clear hV hgV fz zz
     refine hK.out _ _ trivial (fun hHeld => ?_)
     clear hK K
     try simp only [pz0, pz2, pz3, pz4]
     refine tkz 16 (qCpM10 _) ?_ rfl ?_ ?_
     rotate_left
     ·intro w hSw
      unfold qCpM10
      go_simp
      first | done | with_reducible rfl
     try simp only [qCpM10, pz0, pz2, pz3, pz4]
     refine wpAnyH_ready (rs := [17]) (by kernel_rfl) (by simp) ?_
     refine arz (qCpM11 _) rfl (fun K hK => ?_) AllReadyH.nil
     unfold qCpM11
     have fz : G67.frozen? ⟨w.heap.size, 13, none⟩ = false := by rw [B67.out.frozen]; try simp
     have zz : G67.cell? ⟨w.heap.size, 13, none⟩ = some (.slice ad nn3 nc3) := (B67.out.cell 13).trans rfl
     go_simp
     obtain ⟨G68, hV⟩ : ∃ V, G67.setCell ⟨w.heap.size, 13, none⟩ (.slice a3 Q3.length c3) = V := ⟨_, rfl⟩
     try rw [hV]
     have hgV : G67.grownBy G68 (some w.heap.size) := by rw [← hV]; exact grown_set _ _ _ _
     have B68 : Hid (Blk G68 w.heap.size 60 (0, 0) [m0, m1, m2, m3, m4, m5, m6, m7, m8, m9, .slice av aq cv, .slice a1 Q1.length c1, .slice a2 Q2.length c2, .slice a3 Q3.length c3]) := Lib.hid (by rw [← hV]; exact B67.out.set 13 _)
     have b68 : Hid (Below w.heap.size w G68) := Lib.hid (b67.out.grown hgV b67.out.size (fun j hj => by cases hj; exact Nat.le_refl _))
     have Q68 := Lib.hid (ownQs_store Q67.out B67.out (by decide) (by decide) hgV)
     have Z68 := Lib.hid (Z67.out.grownV2 hgV (fun e => by have e2 := Option.some.inj e; have := hl1.out; omega))
     have V1_68 := Lib.hid (ownRs_store V1_67.out B67.out hgV)
     have V2_68 := Lib.hid (ownRs_store V2_67.out B67.out hgV)
     have V3_68 := Lib.hid (ownRs_store V3_67.out B67.out hgV)
     clear hV hgV fz zz
     refine hK.out _ _ trivial (fun hHeld => ?_)
     clear hK K
     refine wpAnyH_done (by kernel_rfl) ?_ _
     refine NoPanic.normal ?_
     go_wp2_with fail
     go_meet
     exact ⟨_, _, _, rfl, rfl, rfl, rfl, B68, Z68, Q68, V1_68, V2_68, V3_68, Lib.hid ⟨A12.out, A13.out, A23.out⟩, b68⟩
    refine arz (qCpM4 _) rfl (fun K hK => ?_) AllReadyH.nil
    unfold qCpM4
    go_simp
    refine hK.out _ _ trivial (fun hHeld => ?_)
    clear hK K
    try simp only [pz0, pz2, pz3, pz4]
    refine wpAnyH_ready (rs := [2, 6]) (by kernel_rfl) (by simp) ?_
    refine arz (qCpM0 _) rfl (fun K hK => ?_) ?_
    ·unfold qCpM0
     go_simp
     refine hK.out _ _ trivial (fun hHeld => ?_)
     clear hK K
     try simp only [pz0, pz2, pz3, pz4]
     refine wpAnyH_ready (rs := [3, 6]) (by kernel_rfl) (by simp) ?_
     refine arz (qCpM1 _) rfl (fun K hK => ?_) ?_
     ·unfold qCpM1
      refine step_callv (by rfl) (.tmp 27) (.tmp 29) 55 (by rfl) (by rfl) (by rfl) enter66 ?_
      refine (recs_copy ((hR1.out.ext hb.out).ext k0.out)).mono ?_
      rintro e G69 ⟨⟨v1, rfl, hw⟩, m69⟩
      have k69 := Lib.hid (k0.out.trans (m69.mono k0.out.size))
      have B69 := Lib.hid (B0.out.below m69 B0.out.lt)
      have V1_69 := Lib.hid (hw.mono (Nat.le_trans hb.out.size k0.out.size))
      obtain ⟨a1, c1, rfl⟩ := hw.shape
      have z11_69 : G69.cell? ⟨w.heap.size, 11, none⟩ = some (.slice an nn1 nc1) := (B69.out.cell 11).trans rfl
      have z12_69 : G69.cell? ⟨w.heap.size, 12, none⟩ = some (.slice au nn2 nc2) := (B69.out.cell 12).trans rfl
      have z13_69 : G69.cell? ⟨w.heap.size, 13, none⟩ = some (.slice ad nn3 nc3) := (B69.out.cell 13).trans rfl
      clear hw m69
      refine ⟨_, rfl, ?_⟩
      refine hK.out _ _ trivial (fun hHeld => ?_)
      clear hK K
      try simp only [pz0, pz2, pz3, pz4]
      refine wpAnyH_ready (rs := [6]) (by kernel_rfl) (by simp) ?_
      refine arz (qCpM2 _) rfl (fun K hK => ?_) AllReadyH.nil
      unfold qCpM2
      go_simp
      refine hK.out _ _ trivial (fun hHeld => ?_)
      clear hK K
      try simp only [pz0, pz2, pz3, pz4]
      refine tkz 12 (qCpM5 _) ?_ rfl ?_ ?_
      rotate_left
      ·intro w hSw
       unfold qCpM5
       go_simp
       first | done | with_reducible rfl
      try simp only [qCpM5, pz0, pz2, pz3, pz4]
      refine wpAnyH_ready (rs := [7]) (by kernel_rfl) (by simp) ?_
      refine arz (qCpM3 _) rfl (fun K hK => ?_) AllReadyH.nil
      unfold qCpM3
      refine step_callv (by rfl) (.tmp 31) (.tmp 33) 55 (by rfl) (by rfl) (by rfl) enter66 ?_
      refine (recs_copy ((hR2.out.ext hb.out).ext k69.out)).mono ?_
      rintro e G70 ⟨⟨v2, rfl, hw⟩, m70⟩
      have k70 := Lib.hid (k69.out.trans (m70.mono k69.out.size))
      have B70 := Lib.hid (B69.out.below m70 B69.out.lt)
      have V2_70 := Lib.hid (hw.mono (Nat.le_trans hb.out.size k69.out.size))
      obtain ⟨a2, c2, rfl⟩ := hw.shape
      have V1_70 := Lib.hid (V1_69.out.ext m70)
      have A12 : Hid (Apt (.slice a1 Q1.length c1) (.slice a2 Q2.length c2)) := Lib.hid (apt_new V1_69.out hw)
      have z11_70 : G70.cell? ⟨w.heap.size, 11, none⟩ = some (.slice an nn1 nc1) := (B70.out.cell 11).trans rfl
      have z12_70 : G70.cell? ⟨w.heap.size, 12, none⟩ = some (.slice au nn2 nc2) := (B70.out.cell 12).trans rfl
      have z13_70 : G70.cell? ⟨w.heap.size, 13, none⟩ = some (.slice ad nn3 nc3) := (B70.out.cell 13).trans rfl
      clear hw m70
      refine ⟨_, rfl, ?_⟩
      refine hK.out _ _ trivial (fun hHeld => ?_)
      clear hK K
      try simp only [pz0, pz2, pz3, pz4]
      refine wpAnyH_ready (rs := [11]) (by kernel_rfl) (by simp) ?_
      refine arz (qCpM6 _) rfl (fun K hK => ?_) AllReadyH.nil
      unfold qCpM6
      refine step_callv (by rfl) (.tmp 35) (.tmp 37) 55 (by rfl) (by rfl) (by rfl) enter66 ?_
      refine (recs_copy ((hR3.out.ext hb.out).ext k70.out)).mono ?_
      rintro e G71 ⟨⟨v3, rfl, hw⟩, m71⟩
      have k71 := Lib.hid (k70.out.trans (m71.mono k70.out.size))
      have B71 := Lib.hid (B70.out.below m71 B70.out.lt)
      have V3_71 := Lib.hid (hw.mono (Nat.le_trans hb.out.size k70.out.size))
      obtain ⟨a3, c3, rfl⟩ := hw.shape
      have V1_71 := Lib.hid (V1_70.out.ext m71)
      have V2_71 := Lib.hid (V2_70.out.ext m71)
      have A13 : Hid (Apt (.slice a1 Q1.length c1) (.slice a3 Q3.length c3)) := Lib.hid (apt_new V1_70.out hw)
      have A23 : Hid (Apt (.slice a2 Q2.length c2) (.slice a3 Q3.length c3)) := Lib.hid (apt_new V2_70.out hw)
      have z11_71 : G71.cell? ⟨w.heap.size, 11, none⟩ = some (.slice an nn1 nc1) := (B71.out.cell 11).trans rfl
      have z12_71 : G71.cell? ⟨w.heap.size, 12, none⟩ = some (.slice au nn2 nc2) := (B71.out.cell 12).trans rfl
      have z13_71 : G71.cell? ⟨w.heap.size, 13, none⟩ = some (.slice ad nn3 nc3) := (B71.out.cell 13).trans rfl
      clear hw m71
      refine ⟨_, rfl, ?_⟩
      refine hK.out _ _ trivial (fun hHeld => ?_)
      clear hK K
      try simp only [pz0, pz2, pz3, pz4]
      refine wpAnyH_ready (rs := [13]) (by kernel_rfl) (by simp) ?_
      refine arz (qCpM7 _) rfl (fun K hK => ?_) AllReadyH.nil
      unfold qCpM7
      have fz : G71.frozen? ⟨w.heap.size, 11, none⟩ = false := by rw [B71.out.frozen]; try simp
      go_simp
      obtain ⟨G72, hV⟩ : ∃ V, G71.setCell ⟨w.heap.size, 11, none⟩ (.slice a1 Q1.length c1) = V := ⟨_, rfl⟩
      try rw [hV]
      have hgV : G71.grownBy G72 (some w.heap.size) := by rw [← hV]; exact grown_set _ _ _ _
      have B72 : Hid (Blk G72 w.heap.size 60 (0, 0) [m0, m1, m2, m3, m4, m5, m6, m7, m8, m9, .slice av aq cv, .slice a1 Q1.length c1, .slice au nn2 nc2, .slice ad nn3 nc3]) := Lib.hid (by rw [← hV]; exact B71.out.set 11 _)
      have b72 : Hid (Below w.heap.size w G72) := Lib.hid ((hb.out.trans (k71.out.mono hb.out.size)).grown hgV (Nat.le_trans hb.out.size k71.out.size) (fun j hj => by cases hj; exact Nat.le_refl _))
      have Q72 := Lib.hid (ownQs_store (hv.out.ext k71.out) B71.out (by decide) (by decide) hgV)
      have Z72 := Lib.hid ((hZ.out.below k71.out hZ.out.lt).grownV2 hgV (fun e => by have e2 := Option.some.inj e; have := hl1.out; omega))
      have V1_72 := Lib.hid (ownRs_store V1_71.out B71.out hgV)
      have V2_72 := Lib.hid (ownRs_store V2_71.out B71.out hgV)
      have V3_72 := Lib.hid (ownRs_store V3_71.out B71.out hgV)
      clear hV hgV fz
      refine hK.out _ _ trivial (fun hHeld => ?_)
      clear hK K
      try simp only [pz0, pz2, pz3, pz4]
      refine tkz 14 (qCpM8 _) ?_ rfl ?_ ?_
      rotate_left
      ·intro w hSw
       unfold qCpM8
       go_simp
       first | done | with_reducible rfl
      try simp only [qCpM8, pz0, pz2, pz3, pz4]
      refine wpAnyH_ready (rs := [15]) (by kernel_rfl) (by simp) ?_
      refine arz (qCpM9 _) rfl (fun K hK => ?_) AllReadyH.nil
      unfold qCpM9
      have fz : G72.frozen? ⟨w.heap.size, 12, none⟩ = false := by rw [B72.out.frozen]; try simp
      have zz : G72.cell? ⟨w.heap.size, 12, none⟩ = some (.slice au nn2 nc2) := (B72.out.cell 12).trans rfl
      go_simp
      obtain ⟨G73, hV⟩ : ∃ V, G72.setCell ⟨w.heap.size, 12, none⟩ (.slice a2 Q2.length c2) = V := ⟨_, rfl⟩
      try rw [hV]
      have hgV : G72.grownBy G73 (some w.heap.size) := by rw [← hV]; exact grown_set _ _ _ _
      have B73 : Hid (Blk G73 w.heap.size 60 (0, 0) [m0, m1, m2, m3, m4, m5, m6, m7, m8, m9, .slice av aq cv, .slice a1 Q1.length c1, .slice a2 Q2.length c2, .slice ad nn3 nc3]) := Lib.hid (by rw [← hV]; exact B72.out.set 12 _)
      have b73 : Hid (Below w.heap.size w G73) := Lib.hid (b72.out.grown hgV b72.out.size (fun j hj => by cases hj; exact Nat.le_refl _))
      have Q73 := Lib.hid (ownQs_store Q72.out B72.out (by decide) (by decide) hgV)
      have Z73 := Lib.hid (Z72.out.grownV2 hgV (fun e => by have e2 := Option.some.inj e; have := hl1.out; omega))
      have V1_73 := Lib.hid (ownRs_store V1_72.out B72.out hgV)
      have V2_73 := Lib.hid (ownRs_store V2_72.out B72.out hgV)
      have V3_73 := Lib.hid (ownRs_store V3_72.out B72.out hgV)
      clear hV hgV fz zz
      refine hK.out _ _ trivial (fun hHeld => ?_)
      clear hK K
      try simp only [pz0, pz2, pz3, pz4]
      refine tkz 16 (qCpM10 _) ?_ rfl ?_ ?_
      rotate_left
      ·intro w hSw
       unfold qCpM10
       go_simp
       first | done | with_reducible rfl
      try simp only [qCpM10, pz0, pz2, pz3, pz4]
      refine wpAnyH_ready (rs := [17]) (by kernel_rfl) (by simp) ?_
      refine arz (qCpM11 _) rfl (fun K hK => ?_) AllReadyH.nil
      unfold qCpM11
      have fz : G73.frozen? ⟨w.heap.size, 13, none⟩ = false := by rw [B73.out.frozen]; try simp
      have zz : G73.cell? ⟨w.heap.size, 13, none⟩ = some (.slice ad nn3 nc3) := (B73.out.cell 13).trans rfl
      go_simp
      obtain ⟨G74, hV⟩ : ∃ V, G73.setCell ⟨w.heap.size, 13, none⟩ (.slice a3 Q3.length c3) = V := ⟨_, rfl⟩
      try rw [hV]
      have hgV : G73.grownBy G74 (some w.heap.size) := by rw [← hV]; exact grown_set _ _ _ _
      have B74 : Hid (Blk G74 w.heap.size 60 (0, 0) [m0, m1, m2, m3, m4, m5, m6, m7, m8, m9, .slice av aq cv, .slice a1 Q1.length c1, .slice a2 Q2.length c2, .slice a3 Q3.length c3]) := Lib.hid (by rw [← hV]; exact B73.out.set 13 _)
      have b74 : Hid (Below w.heap.size w G74) := Lib.hid (b73.out.grown hgV b73.out.size (fun j hj => by cases hj; exact Nat.le_refl _))
      have Q74 := Lib.hid (ownQs_store Q73.out B73.out (by decide) (by decide) hgV)
      have Z74 := Lib.hid (Z73.out.grownV2 hgV (fun e => by have e2 := Option.some.inj e; have := hl1.out; omega))
      have V1_74 := Lib.hid (ownRs_store V1_73.out B73.out hgV)
      have V2_74 := Lib.hid (ownRs_store V2_73.out B73.out hgV)
      have V3_74 := Lib.hid (ownRs_store V3_73.out B73.out hgV)
      clear hV hgV fz zz
      refine hK.out _ _ trivial (fun hHeld => ?_)
      clear hK K
      refine wpAnyH_done (by kernel_rfl) ?_ _
      refine NoPanic.normal ?_
      go_wp2_with fail
      go_meet
      exact ⟨_, _, _, rfl, rfl, rfl, rfl, B74, Z74, Q74, V1_74, V2_74, V3_74, Lib.hid ⟨A12.out, A13.out, A23.out⟩, b74⟩
     refine arz (qCpM2 _) rfl (fun K hK => ?_) AllReadyH.nil
     unfold qCpM2
     go_simp
     refine hK.out _ _ trivial (fun hHeld => ?_)
     clear hK K
     try simp only [pz0, pz2, pz3, pz4]
     refine wpAnyH_ready (rs := [3]) (by kernel_rfl) (by simp) ?_
     refine arz (qCpM1 _) rfl (fun K hK => ?_) AllReadyH.nil
     unfold qCpM1
     refine step_callv (by rfl) (.tmp 27) (.tmp 29) 55 (by rfl) (by rfl) (by rfl) enter66 ?_
     refine (recs_copy ((hR1.out.ext hb.out).ext k0.out)).mono ?_
     rintro e G75 ⟨⟨v1, rfl, hw⟩, m75⟩
     have k75 := Lib.hid (k0.out.trans (m75.mono k0.out.size))
     have B75 := Lib.hid (B0.out.below m75 B0.out.lt)
     have V1_75 := Lib.hid (hw.mono (Nat.le_trans hb.out.size k0.out.size))
     obtain ⟨a1, c1, rfl⟩ := hw.shape
     have z11_75 : G75.cell? ⟨w.heap.size, 11, none⟩ = some (.slice an nn1 nc1) := (B75.out.cell 11).trans rfl
     have z12_75 : G75.cell? ⟨w.heap.size, 12, none⟩ = some (.slice au nn2 nc2) := (B75.out.cell 12).trans rfl
     have z13_75 : G75.cell? ⟨w.heap.size, 13, none⟩ = some (.slice ad nn3 nc3) := (B75.out.cell 13).trans rfl
     clear hw m75
     refine ⟨_, rfl, ?_⟩
     refine hK.out _ _ trivial (fun hHeld => ?_)
     clear hK K
     try simp only [pz0, pz2, pz3, pz4]
     refine tkz 12 (qCpM5 _) ?_ rfl ?_ ?_
     rotate_left
     ·intro w hSw
      unfold qCpM5
      go_simp
      first | done | with_reducible rfl
     try simp only [qCpM5, pz0, pz2, pz3, pz4]
     refine wpAnyH_ready (rs := [7]) (by kernel_rfl) (by simp) ?_
     refine arz (qCpM3 _) rfl (fun K hK => ?_) AllReadyH.nil
     unfold qCpM3
     refine step_callv (by rfl) (.tmp 31) (.tmp 33) 55 (by rfl) (by rfl) (by rfl) enter66 ?_
     refine (recs_copy ((hR2.out.ext hb.out).ext k75.out)).mono ?_
     rintro e G76 ⟨⟨v2, rfl, hw⟩, m76⟩
     have k76 := Lib.hid (k75.out.trans (m76.mono k75.out.size))
     have B76 := Lib.hid (B75.out.below m76 B75.out.lt)
     have V2_76 := Lib.hid (hw.mono (Nat.le_trans hb.out.size k75.out.size))
     obtain ⟨a2, c2, rfl⟩ := hw.shape
     have V1_76 := Lib.hid (V1_75.out.ext m76)
     have A12 : Hid (Apt (.slice a1 Q1.length c1) (.slice a2 Q2.length c2)) := Lib.hid (apt_new V1_75.out hw)
     have z11_76 : G76.cell? ⟨w.heap.size, 11, none⟩ = some (.slice an nn1 nc1) := (B76.out.cell 11).trans rfl
     have z12_76 : G76.cell? ⟨w.heap.size, 12, none⟩ = some (.slice au nn2 nc2) := (B76.out.cell 12).trans rfl
     have z13_76 : G76.cell? ⟨w.heap.size, 13, none⟩ = some (.slice ad nn3 nc3) := (B76.out.cell 13).trans rfl
     clear hw m76
     refine ⟨_, rfl, ?_⟩
     refine hK.out _ _ trivial (fun hHeld => ?_)
     clear hK K
     try simp only [pz0, pz2, pz3, pz4]
     refine wpAnyH_ready (rs := [11]) (by kernel_rfl) (by simp) ?_
     refine arz (qCpM6 _) rfl (fun K hK => ?_) AllReadyH.nil
     unfold qCpM6
     refine step_callv (by rfl) (.tmp 35) (.tmp 37) 55 (by rfl) (by rfl) (by rfl) enter66 ?_
     refine (recs_copy ((hR3.out.ext hb.out).ext k76.out)).mono ?_
     rintro e G77 ⟨⟨v3, rfl, hw⟩, m77⟩
     have k77 := Lib.hid (k76.out.trans (m77.mono k76.out.size))
     have B77 := Lib.hid (B76.out.below m77 B76.out.lt)
     have V3_77 := Lib.hid (hw.mono (Nat.le_trans hb.out.size k76.out.size))
     obtain ⟨a3, c3, rfl⟩ := hw.shape
     have V1_77 := Lib.hid (V1_76.out.ext m77)
     have V2_77 := Lib.hid (V2_76.out.ext m77)
     have A13 : Hid (Apt (.slice a1 Q1.length c1) (.slice a3 Q3.length c3)) := Lib.hid (apt_new V1_76.out hw)
     have A23 : Hid (Apt (.slice a2 Q2.length c2) (.slice a3 Q3.length c3)) := Lib.hid (apt_new V2_76.out hw)
     have z11_77 : G77.cell? ⟨w.heap.size, 11, none⟩ = some (.slice an nn1 nc1) := (B77.out.cell 11).trans rfl
     have z12_77 : G77.cell? ⟨w.heap.size, 12, none⟩ = some (.slice au nn2 nc2) := (B77.out.cell 12).trans rfl
     have z13_77 : G77.cell? ⟨w.heap.size, 13, none⟩ = some (.slice ad nn3 nc3) := (B77.out.cell 13).trans rfl
     clear hw m77
     refine ⟨_, rfl, ?_⟩
     refine hK.out _ _ trivial (fun hHeld => ?_)
     clear hK K
     try simp only [pz0, pz2, pz3, pz4]
     refine wpAnyH_ready (rs := [13]) (by kernel_rfl) (by simp) ?_
     refine arz (qCpM7 _) rfl (fun K hK => ?_) AllReadyH.nil
     unfold qCpM7
     have fz : G77.frozen? ⟨w.heap.size, 11, none⟩ = false := by rw [B77.out.frozen]; try simp
     go_simp
     obtain ⟨G78, hV⟩ : ∃ V, G77.setCell ⟨w.heap.size, 11, none⟩ (.slice a1 Q1.length c1) = V := ⟨_, rfl⟩
     try rw [hV]
     have hgV : G77.grownBy G78 (some w.heap.size) := by rw [← hV]; exact grown_set _ _ _ _
     have B78 : Hid (Blk G78 w.heap.size 60 (0, 0) [m0, m1, m2, m3, m4, m5, m6, m7, m8, m9, .slice av aq cv, .slice a1 Q1.length c1, .slice au nn2 nc2, .slice ad nn3 nc3]) := Lib.hid (by rw [← hV]; exact B77.out.set 11 _)
     have b78 : Hid (Below w.heap.size w G78) := Lib.hid ((hb.out.trans (k77.out.mono hb.out.size)).grown hgV (Nat.le_trans hb.out.size k77.out.size) (fun j hj => by cases hj; exact Nat.le_refl _))
     have Q78 := Lib.hid (ownQs_store (hv.out.ext k77.out) B77.out (by decide) (by decide) hgV)
     have Z78 := Lib.hid ((hZ.out.below k77.out hZ.out.lt).grownV2 hgV (fun e => by have e2 := Option.some.inj e; have := hl1.out; omega))
     have V1_78 := Lib.hid (ownRs_store V1_77.out B77.out hgV)
     have V2_78 := Lib.hid (ownRs_store V2_77.out B77.out hgV)
     have V3_78 := Lib.hid (ownRs_store V3_77.out B77.out hgV)
     clear hV hgV fz
     refine hK.out _ _ trivial (fun hHeld => ?_)
     clear hK K
     try simp only [pz0, pz2, pz3, pz4]
     refine tkz 14 (qCpM8 _) ?_ rfl ?_ ?_
     rotate_left
     ·intro w hSw
      unfold qCpM8
      go_simp
      first | done | with_reducible rfl
     try simp only [qCpM8, pz0, pz2, pz3, pz4]
     refine wpAnyH_ready (rs := [15]) (by kernel_rfl) (by simp) ?_
     refine arz (qCpM9 _) rfl (fun K hK => ?_) AllReadyH.nil
     unfold qCpM9
     have fz : G78.frozen? ⟨w.heap.size, 12, none⟩ = false := by rw [B78.out.frozen]; try simp
     have zz : G78.cell? ⟨w.heap.size, 12, none⟩ = some (.slice au nn2 nc2) := (B78.out.cell 12).trans rfl
     go_simp
     obtain ⟨G79, hV⟩ : ∃ V, G78.setCell ⟨w.heap.size, 12, none⟩ (.slice a2 Q2.length c2) = V := ⟨_, rfl⟩
     try rw [hV]
     have hgV : G78.grownBy G79 (some w.heap.size) := by rw [← hV]; exact grown_set _ _ _ _
     have B79 : Hid (Blk G79 w.heap.size 60 (0, 0) [m0, m1, m2, m3, m4, m5, m6, m7, m8, m9, .slice av aq cv, .slice a1 Q1.length c1, .slice a2 Q2.length c2, .slice ad nn3 nc3]) := Lib.hid (by rw [← hV]; exact B78.out.set 12 _)
     have b79 : Hid (Below w.heap.size w G79) := Lib.hid (b78.out.grown hgV b78.out.size (fun j hj => by cases hj; exact Nat.le_refl _))
     have Q79 := Lib.hid (ownQs_store Q78.out B78.out (by decide) (by decide) hgV)
     have Z79 := Lib.hid (Z78.out.grownV2 hgV (fun e => by have e2 := Option.some.inj e; have := hl1.out; omega))
     have V1_79 := Lib.hid (ownRs_store V1_78.out B78.out hgV)
     have V2_79 := Lib.hid (ownRs_store V2_78.out B78.out hgV)
     have V3_79 := Lib.hid (ownRs_store V3_78.out B78.out hgV)
     clear hV hgV fz zz
     refine hK.out _ _ trivial (fun hHeld => ?_)
     clear hK K
     try simp only [pz0, pz2, pz3, pz4]
     refine tkz 16 (qCpM10 _) ?_ rfl ?_ ?_
     rotate_left
     ·intro w hSw
      unfold qCpM10
      go_simp
      first | done | with_reducible rfl
     try simp only [qCpM10, pz0, pz2, pz3, pz4]
     refine wpAnyH_ready (rs := [17]) (by kernel_rfl) (by simp) ?_
     refine arz (qCpM11 _) rfl (fun K hK => ?_) AllReadyH.nil
     unfold qCpM11
     have fz : G79.frozen? ⟨w.heap.size, 13, none⟩ = false := by rw [B79.out.frozen]; try simp
     have zz : G79.cell? ⟨w.heap.size, 13, none⟩ = some (.slice ad nn3 nc3) := (B79.out.cell 13).trans rfl
     go_simp
     obtain ⟨G80, hV⟩ : ∃ V, G79.setCell ⟨w.heap.size, 13, none⟩ (.slice a3 Q3.length c3) = V := ⟨_, rfl⟩
     try rw [hV]
     have hgV : G79.grownBy G80 (some w.heap.size) := by rw [← hV]; exact grown_set _ _ _ _
     have B80 : Hid (Blk G80 w.heap.size 60 (0, 0) [m0, m1, m2, m3, m4, m5, m6, m7, m8, m9, .slice av aq cv, .slice a1 Q1.length c1, .slice a2 Q2.length c2, .slice a3 Q3.length c3]) := Lib.hid (by rw [← hV]; exact B79.out.set 13 _)
     have b80 : Hid (Below w.heap.size w G80) := Lib.hid (b79.out.grown hgV b79.out.size (fun j hj => by cases hj; exact Nat.le_refl _))
     have Q80 := Lib.hid (ownQs_store Q79.out B79.out (by decide) (by decide) hgV)
     have Z80 := Lib.hid (Z79.out.grownV2 hgV (fun e => by have e2 := Option.some.inj e; have := hl1.out; omega))
     have V1_80 := Lib.hid (ownRs_store V1_79.out B79.out hgV)
     have V2_80 := Lib.hid (ownRs_store V2_79.out B79.out hgV)
     have V3_80 := Lib.hid (ownRs_store V3_79.out B79.out hgV)
     clear hV hgV fz zz
     refine hK.out _ _ trivial (fun hHeld => ?_)
     clear hK K
     refine wpAnyH_done (by kernel_rfl) ?_ _
     refine NoPanic.normal ?_
     go_wp2_with fail
     go_meet
     exact ⟨_, _, _, rfl, rfl, rfl, rfl, B80, Z80, Q80, V1_80, V2_80, V3_80, Lib.hid ⟨A12.out, A13.out, A23.out⟩, b80⟩
    refine arz (qCpM2 _) rfl (fun K hK => ?_) AllReadyH.nil
    unfold qCpM2
    go_simp
    refine hK.out _ _ trivial (fun hHeld => ?_)
    clear hK K
    try simp only [pz0, pz2, pz3, pz4]
    refine wpAnyH_ready (rs := [2]) (by kernel_rfl) (by simp) ?_
    refine arz (qCpM0 _) rfl (fun K hK => ?_) AllReadyH.nil
    unfold qCpM0
    go_simp
    refine hK.out _ _ trivial (fun hHeld => ?_)
    clear hK K
    try simp only [pz0, pz2, pz3, pz4]
    refine wpAnyH_ready (rs := [3]) (by kernel_rfl) (by simp) ?_
    refine arz (qCpM1 _) rfl (fun K hK => ?_) AllReadyH.nil
    unfold qCpM1
    refine step_callv (by rfl) (.tmp 27) (.tmp 29) 55 (by rfl) (by rfl) (by rfl) enter66 ?_
    refine (recs_copy ((hR1.out.ext hb.out).ext k0.out)).mono ?_
    rintro e G81 ⟨⟨v1, rfl, hw⟩, m81⟩
    have k81 := Lib.hid (k0.out.trans (m81.mono k0.out.size))
    have B81 := Lib.hid (B0.out.below m81 B0.out.lt)
    have V1_81 := Lib.hid (hw.mono (Nat.le_trans hb.out.size k0.out.size))
    obtain ⟨a1, c1, rfl⟩ := hw.shape
    have z11_81 : G81.cell? ⟨w.heap.size, 11, none⟩ = some (.slice an nn1 nc1) := (B81.out.cell 11).trans rfl
    have z12_81 : G81.cell? ⟨w.heap.size, 12, none⟩ = some (.slice au nn2 nc2) := (B81.out.cell 12).trans rfl
    have z13_81 : G81.cell? ⟨w.heap.size, 13, none⟩ = some (.slice ad nn3 nc3) := (B81.out.cell 13).trans rfl
    clear hw m81
    refine ⟨_, rfl, ?_⟩
    refine hK.out _ _ trivial (fun hHeld => ?_)
    clear hK K
    try simp only [pz0, pz2, pz3, pz4]
    refine tkz 12 (qCpM5 _) ?_ rfl ?_ ?_
    rotate_left
    ·intro w hSw
     unfold qCpM5
     go_simp
     first | done | with_reducible rfl
    try simp only [qCpM5, pz0, pz2, pz3, pz4]
    refine wpAnyH_ready (rs := [7]) (by kernel_rfl) (by simp) ?_
    refine arz (qCpM3 _) rfl (fun K hK => ?_) AllReadyH.nil
    unfold qCpM3
    refine step_callv (by rfl) (.tmp 31) (.tmp 33) 55 (by rfl) (by rfl) (by rfl) enter66 ?_
    refine (recs_copy ((hR2.out.ext hb.out).ext k81.out)).mono ?_
    rintro e G82 ⟨⟨v2, rfl, hw⟩, m82⟩
    have k82 := Lib.hid (k81.out.trans (m82.mono k81.out.size))
    have B82 := Lib.hid (B81.out.below m82 B81.out.lt)
    have V2_82 := Lib.hid (hw.mono (Nat.le_trans hb.out.size k81.out.size))
    obtain ⟨a2, c2, rfl⟩ := hw.shape
    have V1_82 := Lib.hid (V1_81.out.ext m82)
    have A12 : Hid (Apt (.slice a1 Q1.length c1) (.slice a2 Q2.length c2)) := Lib.hid (apt_new V1_81.out hw)
    have z11_82 : G82.cell? ⟨w.heap.size, 11, none⟩ = some (.slice an nn1 nc1) := (B82.out.cell 11).trans rfl
    have z12_82 : G82.cell? ⟨w.heap.size, 12, none⟩ = some (.slice au nn2 nc2) := (B82.out.cell 12).trans rfl
    have z13_82 : G82.cell? ⟨w.heap.size, 13, none⟩ = some (.slice ad nn3 nc3) := (B82.out.cell 13).trans rfl
    clear hw m82
    refine ⟨_, rfl, ?_⟩
    refine hK.out _ _ trivial (fun hHeld => ?_)
    clear hK K
    try simp only [pz0, pz2, pz3, pz4]
    refine wpAnyH_ready (rs := [11]) (by kernel_rfl) (by simp) ?_
    refine arz (qCpM6 _) rfl (fun K hK => ?_) AllReadyH.nil
    unfold qCpM6
    refine step_callv (by rfl) (.tmp 35) (.tmp 37) 55 (by rfl) (by rfl) (by rfl) enter66 ?_
    refine (recs_copy ((hR3.out.ext hb.out).ext k82.out)).mono ?_
    rintro e G83 ⟨⟨v3, rfl, hw⟩, m83⟩
    have k83 := Lib.hid (k82.out.trans (m83.mono k82.out.size))
    have B83 := Lib.hid (B82.out.below m83 B82.out.lt)
    have V3_83 := Lib.hid (hw.mono (Nat.le_trans hb.out.size k82.out.size))
    obtain ⟨a3, c3, rfl⟩ := hw.shape
    have V1_83 := Lib.hid (V1_82.out.ext m83)
    have V2_83 := Lib.hid (V2_82.out.ext m83)
    have A13 : Hid (Apt (.slice a1 Q1.length c1) (.slice a3 Q3.length c3)) := Lib.hid (apt_new V1_82.out hw)
    have A23 : Hid (Apt (.slice a2 Q2.length c2) (.slice a3 Q3.length c3)) := Lib.hid (apt_new V2_82.out hw)
    have z11_83 : G83.cell? ⟨w.heap.size, 11, none⟩ = some (.slice an nn1 nc1) := (B83.out.cell 11).trans rfl
    have z12_83 : G83.cell? ⟨w.heap.size, 12, none⟩ = some (.slice au nn2 nc2) := (B83.out.cell 12).trans rfl
    have z13_83 : G83.cell? ⟨w.heap.size, 13, none⟩ = some (.slice ad nn3 nc3) := (B83.out.cell 13).trans rfl
    clear hw m83
    refine ⟨_, rfl, ?_⟩
    refine hK.out _ _ trivial (fun hHeld => ?_)
    clear hK K
    try simp only [pz0, pz2, pz3, pz4]
    refine wpAnyH_ready (rs := [13]) (by kernel_rfl) (by simp) ?_
    refine arz (qCpM7 _) rfl (fun K hK => ?_) AllReadyH.nil
    unfold qCpM7
    have fz : G83.frozen? ⟨w.heap.size, 11, none⟩ = false := by rw [B83.out.frozen]; try simp
    go_simp
    obtain ⟨G84, hV⟩ : ∃ V, G83.setCell ⟨w.heap.size, 11, none⟩ (.slice a1 Q1.length c1) = V := ⟨_, rfl⟩
    try rw [hV]
    have hgV : G83.grownBy G84 (some w.heap.size) := by rw [← hV]; exact grown_set _ _ _ _
    have B84 : Hid (Blk G84 w.heap.size 60 (0, 0) [m0, m1, m2, m3, m4, m5, m6, m7, m8, m9, .slice av aq cv, .slice a1 Q1.length c1, .slice au nn2 nc2, .slice ad nn3 nc3]) := Lib.hid (by rw [← hV]; exact B83.out.set 11 _)
    have b84 : Hid (Below w.heap.size w G84) := Lib.hid ((hb.out.trans (k83.out.mono hb.out.size)).grown hgV (Nat.le_trans hb.out.size k83.out.size) (fun j hj => by cases hj; exact Nat.le_refl _))
    have Q84 := Lib.hid (ownQs_store (hv.out.ext k83.out) B83.out (by decide) (by decide) hgV)
    have Z84 := Lib.hid ((hZ.out.below k83.out hZ.out.lt).grownV2 hgV (fun e => by have e2 := Option.some.inj e; have := hl1.out; omega))
    have V1_84 := Lib.hid (ownRs_store V1_83.out B83.out hgV)
    have V2_84 := Lib.hid (ownRs_store V2_83.out B83.out hgV)
    have V3_84 := Lib.hid (ownRs_store V3_83.out B83.out hgV)
    clear hV hgV fz
    refine hK.out _ _ trivial (fun hHeld => ?_)
    clear hK K
    try simp only [pz0, pz2, pz3, pz4]
    refine tkz 14 (qCpM8 _) ?_ rfl ?_ ?_
    rotate_left
    ·intro w hSw
     unfold qCpM8
     go_simp
     first | done | with_reducible rfl
    try simp only [qCpM8, pz0, pz2, pz3, pz4]
    refine wpAnyH_ready (rs := [15]) (by kernel_rfl) (by simp) ?_
    refine arz (qCpM9 _) rfl (fun K hK => ?_) AllReadyH.nil
    unfold qCpM9
    have fz : G84.frozen? ⟨w.heap.size, 12, none⟩ = false := by rw [B84.out.frozen]; try simp
    have zz : G84.cell? ⟨w.heap.size, 12, none⟩ = some (.slice au nn2 nc2) := (B84.out.cell 12).trans rfl
    go_simp
    obtain ⟨G85, hV⟩ : ∃ V, G84.setCell ⟨w.heap.size, 12, none⟩ (.slice a2 Q2.length c2) = V := ⟨_, rfl⟩
    try rw [hV]
    have hgV : G84.grownBy G85 (some w.heap.size) := by rw [← hV]; exact grown_set _ _ _ _
    have B85 : Hid (Blk G85 w.heap.size 60 (0, 0) [m0, m1, m2, m3, m4, m5, m6, m7, m8, m9, .slice av aq cv, .slice a1 Q1.length c1, .slice a2 Q2.length c2, .slice ad nn3 nc3]) := Lib.hid (by rw [← hV]; exact B84.out.set 12 _)
    have b85 : Hid (Below w.heap.size w G85) := Lib.hid (b84.out.grown hgV b84.out.size (fun j hj => by cases hj; exact Nat.le_refl _))
    have Q85 := Lib.hid (ownQs_store Q84.out B84.out (by decide) (by decide) hgV)
    have Z85 := Lib.hid (Z84.out.grownV2 hgV (fun e => by have e2 := Option.some.inj e; have := hl1.out; omega))
    have V1_85 := Lib.hid (ownRs_store V1_84.out B84.out hgV)
    have V2_85 := Lib.hid (ownRs_store V2_84.out B84.out hgV)
    have V3_85 := Lib.hid (ownRs_store V3_84.out B84.out hgV)
    clear hV hgV fz zz
    refine hK.out _ _ trivial (fun hHeld => ?_)
    clear hK K
    try simp only [pz0, pz2, pz3, pz4]
    refine tkz 16 (qCpM10 _) ?_ rfl ?_ ?_
    rotate_left
    ·intro w hSw
     unfold qCpM10
     go_simp
     first | done | with_reducible rfl
    try simp only [qCpM10, pz0, pz2, pz3, pz4]
    refine wpAnyH_ready (rs := [17]) (by kernel_rfl) (by simp) ?_
    refine arz (qCpM11 _) rfl (fun K hK => ?_) AllReadyH.nil
    unfold qCpM11
    have fz : G85.frozen? ⟨w.heap.size, 13, none⟩ = false := by rw [B85.out.frozen]; try simp
    have zz : G85.cell? ⟨w.heap.size, 13, none⟩ = some (.slice ad nn3 nc3) := (B85.out.cell 13).trans rfl
    go_simp
    obtain ⟨G86, hV⟩ : ∃ V, G85.setCell ⟨w.heap.size, 13, none⟩ (.slice a3 Q3.length c3) = V := ⟨_, rfl⟩
    try rw [hV]
    have hgV : G85.grownBy G86 (some w.heap.size) := by rw [← hV]; exact grown_set _ _ _ _
    have B86 : Hid (Blk G86 w.heap.size 60 (0, 0) [m0, m1, m2, m3, m4, m5, m6, m7, m8, m9, .slice av aq cv, .slice a1 Q1.length c1, .slice a2 Q2.length c2, .slice a3 Q3.length c3]) := Lib.hid (by rw [← hV]; exact B85.out.set 13 _)
    have b86 : Hid (Below w.heap.size w G86) := Lib.hid (b85.out.grown hgV b85.out.size (fun j hj => by cases hj; exact Nat.le_refl _))
    have Q86 := Lib.hid (ownQs_store Q85.out B85.out (by decide) (by decide) hgV)
    have Z86 := Lib.hid (Z85.out.grownV2 hgV (fun e => by have e2 := Option.some.inj e; have := hl1.out; omega))
    have V1_86 := Lib.hid (ownRs_store V1_85.out B85.out hgV)
    have V2_86 := Lib.hid (ownRs_store V2_85.out B85.out hgV)
    have V3_86 := Lib.hid (ownRs_store V3_85.out B85.out hgV)
    clear hV hgV fz zz
    refine hK.out _ _ trivial (fun hHeld => ?_)
    clear hK K
    refine wpAnyH_done (by kernel_rfl) ?_ _
    refine NoPanic.normal ?_
    go_wp2_with fail
    go_meet
    exact ⟨_, _, _, rfl, rfl, rfl, rfl, B86, Z86, Q86, V1_86, V2_86, V3_86, Lib.hid ⟨A12.out, A13.out, A23.out⟩, b86⟩
   case rest =>
    obtain ⟨v1, v2, v3, rfl, oc1, oc2, oc3, yM, yZ, yQ, y1, y2, y3, yA, yb⟩ := hcut
    clear hM hZ hv hb
    have hs0 : (Value.slice av aq cv).oneCell' = true := rfl
    have hoC : #[m0, m1, m2, m3, m4, m5, m6, m7, m8, m9, .slice av aq cv, v1, v2, v3].all (·.oneCell') = true := by simpa [List.all_cons, List.all_nil, oc1, oc2, oc3, hs0] using ho
    have hoC' := Lib.hid hoC
    clear hR1 hR2 hR3 hoC ho hs0
    go_upto_region 11 with (fail)
    have g0 : wc.cell? ⟨w.heap.size, 0, none⟩ = some (m0) := (yM.out.cell 0).trans rfl
    have g1 : wc.cell? ⟨w.heap.size, 1, none⟩ = some (m1) := (yM.out.cell 1).trans rfl
    have g2 : wc.cell? ⟨w.heap.size, 2, none⟩ = some (m2) := (yM.out.cell 2).trans rfl
    have g3 : wc.cell? ⟨w.heap.size, 3, none⟩ = some (m3) := (yM.out.cell 3).trans rfl
    have g4 : wc.cell? ⟨w.heap.size, 4, none⟩ = some (m4) := (yM.out.cell 4).trans rfl
    have g5 : wc.cell? ⟨w.heap.size, 5, none⟩ = some (m5) := (yM.out.cell 5).trans rfl
    have g6 : wc.cell? ⟨w.heap.size, 6, none⟩ = some (m6) := (yM.out.cell 6).trans rfl
    have g7 : wc.cell? ⟨w.heap.size, 7, none⟩ = some (m7) := (yM.out.cell 7).trans rfl
    have g8 : wc.cell? ⟨w.heap.size, 8, none⟩ = some (m8) := (yM.out.cell 8).trans rfl
    have g9 : wc.cell? ⟨w.heap.size, 9, none⟩ = some (m9) := (yM.out.cell 9).trans rfl
    have g10 : wc.cell? ⟨w.heap.size, 10, none⟩ = some (.slice av aq cv) := (yM.out.cell 10).trans rfl
    have g11 : wc.cell? ⟨w.heap.size, 11, none⟩ = some (v1) := (yM.out.cell 11).trans rfl
    have g12 : wc.cell? ⟨w.heap.size, 12, none⟩ = some (v2) := (yM.out.cell 12).trans rfl
    have g13 : wc.cell? ⟨w.heap.size, 13, none⟩ = some (v3) := (yM.out.cell 13).trans rfl
    go_wp2_with (refine store_whole rfl 60 (.tmp 2) (.tmp 42) rfl rfl rfl yZ.out (by rfl) (by kernel_rfl) hoC'.out ?_; intro w9 hB9 hg9 hz9; have hR9 := Lib.hid hB9; have hg9' := Lib.hid hg9; clear hB9 hg9 hz9)
    refine bodyPost_ret (results_c rfl _ rfl hR9.out Try.underlying60 rfl (by kernel_rfl)) rfl ?_
    refine ⟨⟨_, _, _, _, rfl, ownQs_store yQ.out yZ.out (by decide) (by decide) hg9'.out, ownRs_store y1.out yZ.out hg9'.out, ownRs_store y2.out yZ.out hg9'.out, ownRs_store y3.out yZ.out hg9'.out, yA.out⟩, ?_⟩
    exact yb.out.grown hg9'.out yb.out.size (fun j hj => by have e2 := Option.some.inj hj; have := hl1.out; omega)
end Go.Proofs.Ythgnlbdolilklaa
