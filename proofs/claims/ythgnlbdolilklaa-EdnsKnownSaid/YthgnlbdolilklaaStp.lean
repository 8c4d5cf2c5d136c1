/- Steps of a region that draws its order: an append onto a literal, a call of one argument. Nothing of the program but its functions. -/
import Derived.Test.YthgnlbdolilklaaEbL
import Derived.Deep.RegionLaw
import Derived.Conc.MuLone
import Derived.Deep.AppendLies
namespace Go.Proofs.Ythgnlbdolilklaa
open Go Go.RowKit
/-- a call of a function with one argument, as a step of a region that draws -/
theorem step_call {P : Program} {ops : Array Oper} {o : Oper} {a : Act} {w : World} {K : Act → World → Prop} {Q : Exit → Act → World → Prop} {Ep : Prop} (hgd : o.guard = none) {f : FuncId} (x : Operand) (t : TypeId)
    (ho : o.op = .call { callee := .value (.func f), args := #[x], argTypes := #[t] }) {v : Value} (hx : a.eval x = v) (hcf : ∀ (args : Array Value) (w : World), (callFunc f args).run P w = .ok (.enter f args) w)
    (h : Calls P f #[v] w fun e w' => ∃ r, e = .returned r ∧ K (a.put o.dst r) w') : if Region.wanted o (yielded ops a.tmps) = true then Oper.wp P o a w K Q else Ep := by
  have hw : Region.wanted o (yielded ops a.tmps) = true := by simp [Region.wanted, hgd]
  rw [if_pos hw]
  unfold Oper.wp execOp
  have hv : a.eval (.func f) = .func (.func f) #[] #[] := rfl
  have e : (Deferred.ofValue (Value.func (Fn.func f) #[] #[]) #[v]).run P w = .ok { target := .fn (.func f) #[], args := #[v] } w := by simp [Deferred.ofValue]
  simp only [ho, resolve, invoke, Sem.run_bind, List.map_toArray, List.map_cons, List.map_nil, hx, hv, e, Result.andThen_ok, Array.append_empty, hcf, Oper.upon_enter]
  refine h.mono ?_
  rintro e w' ⟨r, rfl, hk⟩
  exact hk
theorem enter34 (args : Array Value) (w : World) : (callFunc 34 args).run Try.prog w = .ok (.enter 34 args) w := Go.MuLone.run_callFunc_enter Try.func34 (by kernel_rfl) (by rfl) args w
theorem enter35 (args : Array Value) (w : World) : (callFunc 35 args).run Try.prog w = .ok (.enter 35 args) w := Go.MuLone.run_callFunc_enter Try.func35 (by kernel_rfl) (by rfl) args w
theorem enter60 (args : Array Value) (w : World) : (callFunc 60 args).run Try.prog w = .ok (.enter 60 args) w := Go.MuLone.run_callFunc_enter Try.func60 (by kernel_rfl) (by rfl) args w
theorem enter33 (args : Array Value) (w : World) : (callFunc 33 args).run Try.prog w = .ok (.enter 33 args) w := Go.MuLone.run_callFunc_enter Try.func33 (by kernel_rfl) (by rfl) args w
end Go.Proofs.Ythgnlbdolilklaa
