/- One cell of a block is stored; an array is itself. Nothing of the program. -/
import Derived.Test.YtbpkhnnfdjihdaaHdSt
import Derived.Test.YtbpkhnnfdjihdaaHdBy
namespace Go.Proofs.Ytbpkhnnfdjihdaa
open Go Go.RowKit
section
variable {P : Program} {ops : Array Oper} {rest : List Oper} {o : Oper} {a : Act} {w : World} {Q : Exit → Act → World → Prop}
theorem run_storeVar_1 (w : World) (b j : Nat) (ty : TypeId) {t : TypeId} {C : List Value} {v : Value} (hB : Blk w b t (0, 0) C) (hj : j < C.length) (hi : (P.info? ty).map (·.size) = some 1) (h1 : v.oneCell' = true) :
    (storeVar ty ⟨b, j, none⟩ v).run P w = .ok () (w.setCell ⟨b, j, none⟩ v) := by
  have ht : w.there b j (#[v] : Array Value).size := by
    intro i hi
    have hi0 : i = 0 := by simp at hi; exact hi
    subst hi0
    refine ⟨?_, ?_⟩
    · rw [hB.cell, Nat.add_zero, List.getElem?_eq_getElem hj]; rfl
    · rw [hB.frozen]; simp
  have h := run_storeVar_mid (P := P) w b j ty #[v] ht hi (by simpa using h1)
  have hc : v.cells = #[v] := by cases v <;> first | rfl | cases h1
  have e : storeVar ty ⟨b, j, none⟩ v = storeVar ty ⟨b, j, none⟩ (.agg #[v]) := by
    unfold storeVar
    rw [hc]
    rfl
  rw [e, h]
  rfl
theorem store_one (hg : o.guard = none) (ty : TypeId) (x y : Operand) (ho : o.op = .store ty x y) {b j : Nat} {t : TypeId} {C : List Value} {v : Value} (hx : a.eval x = .pointer (some ⟨b, j, none⟩)) (hy : a.eval y = v)
    (hB : Blk w b t (0, 0) C) (hj : j < C.length) (hi : (P.info? ty).map (·.size) = some 1) (h1 : v.oneCell' = true)
    (h : ∀ w', Blk w' b t (0, 0) (C.set j v) → w.grownBy w' (some b) → w'.heap.size = w.heap.size → wpList P ops Q rest (a.put o.dst undef) w') : wpList P ops Q (o :: rest) a w :=
  wpList_plain hg fun _ hK => by
    unfold Oper.wp execOp
    simp only [ho, hx, hy, Instr.storeAt, Instr.sureAddr, Sem.run_bind, Sem.run_pure, Result.andThen_ok, run_storeVar_1 w b j ty hB hj hi h1]
    exact hK _ _ (h _ (hB.set j v) ⟨rfl, rfl, rfl, by simp [World.setCell], fun k _ hk => Below.heap_setCell _ _ _ _ (fun e => hk (by rw [e]))⟩ (by simp [World.setCell]))
end
theorem eq_arrD {u : World} (d : Nat) (c0 c1 c2 c3 : Int) : (Op.equalIn (d + 2) 29 (.agg #[.int .i64 c0, .int .i64 c1, .int .i64 c2, .int .i64 c3]) (.agg #[.int .i64 c0, .int .i64 c1, .int .i64 c2, .int .i64 c3])).run Try.prog u = .ok true u := by
  have ht : Try.prog.underlying 29 = some (.array 4 3) := by kernel_rfl
  have h3 : Try.prog.underlying 3 = some (.int .i64) := by kernel_rfl
  have hs : (sizeOf 3).run Try.prog u = .ok 1 u := by kernel_rfl
  have e : ∀ c : Int, (Op.equalIn (d + 1) 3 (.int .i64 c) (.int .i64 c)).run Try.prog u = .ok true u := fun c => by simp [Op.equalIn, run_underlying h3]
  have p0 : (part 3 #[.int .i64 c0, .int .i64 c1, .int .i64 c2, .int .i64 c3] 0).run Try.prog u = .ok (.int .i64 c0) u := by kernel_rfl
  have p1 : (part 3 #[.int .i64 c0, .int .i64 c1, .int .i64 c2, .int .i64 c3] 1).run Try.prog u = .ok (.int .i64 c1) u := by kernel_rfl
  have p2 : (part 3 #[.int .i64 c0, .int .i64 c1, .int .i64 c2, .int .i64 c3] 2).run Try.prog u = .ok (.int .i64 c2) u := by kernel_rfl
  have p3 : (part 3 #[.int .i64 c0, .int .i64 c1, .int .i64 c2, .int .i64 c3] 3).run Try.prog u = .ok (.int .i64 c3) u := by kernel_rfl
  unfold Op.equalIn
  simp [run_underlying ht, hs, Std.Legacy.Range.forIn_eq_forIn_range', List.range', p0, p1, p2, p3, e]
theorem eq_arr {u : World} (c0 c1 c2 c3 : Int) : (Op.equalIn 10000 29 (.agg #[.int .i64 c0, .int .i64 c1, .int .i64 c2, .int .i64 c3]) (.agg #[.int .i64 c0, .int .i64 c1, .int .i64 c2, .int .i64 c3])).run Try.prog u = .ok true u := eq_arrD 9998 c0 c1 c2 c3
end Go.Proofs.Ytbpkhnnfdjihdaa

