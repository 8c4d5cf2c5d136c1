/- awake 19; what Read answers to a record that Record made. Small lemmas of walks: two blocks that are kept; allocations. Steps of a region that draws its order: an append onto a literal, a call of one argument. Nothing of the program but its functions. -/
import Derived.Test.YthgnlbdolilklaaSaR
import Derived.Deep.RegionLaw
import Derived.Conc.MuLone
import Derived.Deep.AppendLies
namespace Go.Proofs.Ythgnlbdolilklaa
open Go Go.RowKit
theorem RdO.none (w : World) : RdO w none 0 0 [] := ⟨[], Rd.nil _ _, rfl, fun j p o h => by simp at h⟩
theorem mayB_iff {sz hi ver : Int} (h : mayB sz hi ver = true) : 0 ≤ sz ∧ sz ≤ 65535 ∧ 0 ≤ hi ∧ hi ≤ 255 ∧ 0 ≤ ver ∧ ver ≤ 255 := by unfold mayB at h; exact of_decide_eq_true h
end Go.Proofs.Ythgnlbdolilklaa
namespace Go.Proofs.Ythgnlbdolilklaa
open Go Go.RowKit
/-- the walk's state: the two parameters in their blocks -/
structure StB (w : World) (b : Nat) (E C : List Value) (wx : World) : Prop where
  bel : Below w.heap.size w wx
  e : Blk wx w.heap.size 24 (0, 0) E
  q : Blk wx b 37 (0, 0) C
  lt : w.heap.size < b
theorem StB.below {w wx wy : World} {b : Nat} {E C : List Value} (h : StB w b E C wx) (hb : Below wx.heap.size wx wy) : StB w b E C wy :=
  ⟨h.bel.trans (hb.mono h.bel.size), h.e.below hb h.e.lt, h.q.below hb h.q.lt, h.lt⟩
theorem StB.grown {w wx wp wy : World} {b : Nat} {E C : List Value} (h : StB w b E C wx) (hp : StB w b E C wp) (hg : wx.grownBy wy (some wp.heap.size)) : StB w b E C wy := by
  have h1 := hp.e.lt
  have h2 := hp.q.lt
  exact ⟨h.bel.grown hg h.bel.size (fun k hk => by have := Option.some.inj hk; omega), (hg.block _ h.e.lt (fun e => by have := Option.some.inj e; omega)).trans h.e, (hg.block _ h.q.lt (fun e => by have := Option.some.inj e; omega)).trans h.q, h.lt⟩
theorem alloc_bel (w : World) (o : Obj) : Below w.heap.size w (w.alloc o) := (Below.refl _ _).alloc (Nat.le_refl _) _
theorem RdO.grown {w wp wx wy : World} {a : Option Addr} {n c : Nat} {O : List Opt} (h : RdO w a n c O) (h1 : Below w.heap.size w wp) (h2 : Below wp.heap.size wp wx) (hg : wx.grownBy wy (some wp.heap.size)) : RdO wy a n c O := by
  have h3 : Below wp.heap.size wp wy := h2.grown hg h2.size (fun k hk => by cases hk; exact Nat.le_refl _)
  exact (h.ext h1).ext h3
end Go.Proofs.Ythgnlbdolilklaa
namespace Go.Proofs.Ythgnlbdolilklaa
open Go Go.RowKit
/-- a call of a function with one argument, as a step of a region that draws -/
theorem step_call {P : Program} {ops : Array Oper} {o : Oper} {a : Act} {w : World} {K : Act → World → Prop} {Q : Exit → Act → World → Prop} {Ep : Prop} (hgd : o.guard = none) {f : FuncId} (x : Operand) (t : TypeId)
    (ho : o.op = .call { callee := .value (.func f), args := #[x], argTypes := #[t] }) {v : Value} (hx : a.eval x = v) (hcf : ∀ (args : Array Value) (w : World), (callFunc f args).run P w = .ok (.enter f args) w)
    (h : Calls P f #[v] w fun e w' => ∃ r, e = .returned r ∧ K (a.put o.dst r) w') : if Region.wanted o (yielded ops a.tmps) = true then Oper.wp P o a w K Q else Ep := by
  have hw : Region.wanted o (yielded ops a.tmps) = true := by simp [Region.wanted, hgd]
  rw [if_pos hw]
  unfold Oper.wp execOp
  have hv : a.eval (.func f) = .func (.func f) #[] #[] := rfl
  have e : (Deferred.ofValue (Value.func (Fn.func f) #[] #[]) #[v]).run P w = .ok { target := .fn (.func f) #[], args := #[v] } w := by simp [Deferred.ofValue]
  simp only [ho, resolve, invoke, Sem.run_bind, List.map_toArray, List.map_cons, List.map_nil, hx, hv, e, Result.andThen_ok, Array.append_empty, hcf, Oper.upon_enter]
  refine h.mono ?_
  rintro e w' ⟨r, rfl, hk⟩
  exact hk
theorem enter34 (args : Array Value) (w : World) : (callFunc 34 args).run Try.prog w = .ok (.enter 34 args) w := Go.MuLone.run_callFunc_enter Try.func34 (by kernel_rfl) (by rfl) args w
theorem enter35 (args : Array Value) (w : World) : (callFunc 35 args).run Try.prog w = .ok (.enter 35 args) w := Go.MuLone.run_callFunc_enter Try.func35 (by kernel_rfl) (by rfl) args w
theorem enter60 (args : Array Value) (w : World) : (callFunc 60 args).run Try.prog w = .ok (.enter 60 args) w := Go.MuLone.run_callFunc_enter Try.func60 (by kernel_rfl) (by rfl) args w
theorem enter33 (args : Array Value) (w : World) : (callFunc 33 args).run Try.prog w = .ok (.enter 33 args) w := Go.MuLone.run_callFunc_enter Try.func33 (by kernel_rfl) (by rfl) args w
/-- a pure operation of a region is taken first -/
theorem tkz {P : Program} {md : Region.Mode} {ops : Array Oper} {Q : Exit → Act → World → Prop} {S : World → Prop} {fuel : Nat} {listed : Array Bool} {a : Act} {w : World} (i : Nat) (oi : Oper) (v : Value) (hi : ops[i]? = some oi)
    (hy : ∀ w, S w → (execOp a.eval oi).run P w = .ok (.value v) w) (h : wpAnyH P md ops Q S fuel (listed.setIfInBounds i true) (a.put oi.dst v) w)
    (hs : Region.noSelect ops = true := by kernel_rfl) (hf : Region.free md ops listed i = true := by kernel_rfl) (hr : (Region.ready md ops listed).contains i = true := by kernel_rfl)
    (hQ : ∀ c a w, Q (.panic c) (a.put oi.dst v) w → Q (.panic c) a w := by exact fun _ _ _ h => h) (hw : Region.wanted oi (yielded ops a.tmps) = true := by rfl) (hS : S w := by first | assumption | trivial) : wpAnyH P md ops Q S (fuel + 1) listed a w :=
  wpAnyH_take hi hs hf hr hQ (Or.inl ⟨hw, hy⟩) hS h
theorem pz0 (a : Act) (v : Value) (d : Tmp) : a.put (some d) v = { tmps := a.tmps.setIfInBounds d v, defers := a.defers } := rfl
theorem arz {P : Program} {md : Region.Mode} {ops : Array Oper} {Q : Exit → Act → World → Prop} {S : World → Prop} {fuel : Nat} {listed : Array Bool} {a : Act} {w : World} {i : Nat} (o : Oper) {rs : List Nat} (ho : ops[i]? = some o)
    (h : ∀ K' : Act → World → Prop, Shut (∀ a w, S w → (S w → wpAnyH P md ops Q S fuel (listed.setIfInBounds i true) a w) → K' a w) → if Region.wanted o (yielded ops a.tmps) = true then Oper.wp P o a w K' Q else K' (a.put o.dst undef) w)
    (hs : AllReadyH P md ops Q S fuel listed a w rs) : AllReadyH P md ops Q S fuel listed a w (i :: rs) := AllReadyH.cons ho h hs
theorem pz2 {α : Type} (l : List α) (i : Nat) (a : α) : l.toArray.setIfInBounds i a = (l.set i a).toArray := List.setIfInBounds_toArray l i a
theorem pz3 {α : Type} {x : α} {xs : List α} {a : α} : (x :: xs).set 0 a = a :: xs := List.set_cons_zero
theorem pz4 {α : Type} {x : α} {xs : List α} {i : Nat} {a : α} : (x :: xs).set (i + 1) a = x :: xs.set i a := List.set_cons_succ
end Go.Proofs.Ythgnlbdolilklaa
