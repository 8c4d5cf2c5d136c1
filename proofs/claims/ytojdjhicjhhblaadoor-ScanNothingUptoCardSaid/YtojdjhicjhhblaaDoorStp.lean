/- Small laws of blocks and slices, taken over from another seat. -/
import Derived.Test.YtojdjhicjhhblaaDoorScP
import Derived.Test.YtojdjhicjhhblaaDoorHdSt
import Derived.Test.YtojdjhicjhhblaaDoorCut
import Derived.Test.YtojdjhicjhhblaaDoorStH
import Derived.Deep.QuietTactic
import Derived.BigQuiet
import Derived.WalkSmall
import Derived.Deep.RegionLaw
import Derived.Conc.MuLone
import Derived.Deep.AppendLies
import Derived.Deep.CutRange
import Derived.StillTailTactics
namespace Go.Proofs.YtojdjhicjhhblaaDoor
open Go Go.RowKit
theorem rd_blk {α : Type} {E : Enc α} {w : World} {g : Nat} {fz : Nat × Nat} {X : List α} (h : Blk w g E.e fz (rowOf E X)) (n : Nat) (hn : n = X.length) (hm : n ≤ maxLen) : Rd E w (some ⟨g, 0, none⟩) n n X := by
  subst hn
  refine ⟨rfl, Nat.le_refl _, hm, fun j hj i hi => ⟨g, 0, rfl, ?_⟩⟩
  rw [h.cell, Nat.zero_add, rowOf_get E X j i hj hi]
theorem cell_old {w w' : World} {x : Addr} {v : Value} (h : w.cell? x = some v) (hb : Below w.heap.size w w') : w'.cell? x = some v := (hb.cell (World.block_lt_of_cell? w _ h)).trans h
theorem Rd.drewN {α : Type} {E : Enc α} {w : World} {a : Option Addr} {n c : Nat} {l : List α} (h : Rd E w a n c l) (q : Nat) : Rd E (w.drewN q) a n c l := h.keep fun _ _ _ _ _ => rfl
theorem alloc_bel (w : World) (o : Obj) : Below w.heap.size w (w.alloc o) := (Below.refl _ _).alloc (Nat.le_refl _) _
theorem Blk.grown_ {w wy : World} {b g : Nat} {t : TypeId} {fz : Nat × Nat} {C : List Value} (h : Blk w b t fz C) (hg : w.grownBy wy (some g)) (hne : b ≠ g) : Blk wy b t fz C := (hg.block _ h.lt (fun e => hne (Option.some.inj e))).trans h
theorem own_blkE {α : Type} {E : Enc α} {w : World} {B : Nat} {v : Value} {l : List α} (h : Own E w B v l) : ∀ k, v.ownBlock = some k → ∃ C, Blk w k E.e (0, 0) C := by
  rintro k hk
  rcases h with ⟨rfl, _⟩ | ⟨g, cap, X, rfl, _, hB, _⟩
  · simp [Value.ownBlock] at hk
  · simp [Value.ownBlock] at hk
    subst hk
    exact ⟨_, hB⟩
theorem blk_type {w : World} {k : Nat} {e e' : TypeId} {fz fz' : Nat × Nat} {C C' : List Value} (h : Blk w k e fz C) (h' : Blk w k e' fz' C') : e = e' := by
  unfold Blk at h h'
  have h3 := h.symm.trans h'
  simp at h3
  exact h3.2.1
theorem own_apart {α β : Type} {E : Enc α} {F : Enc β} {w : World} {base base' : Nat} {v v' : Value} {l : List α} {l' : List β} (h : Own E w base v l) (h' : Own F w base' v' l') (hE : E.e ≠ F.e) : ∀ k, v.ownBlock = some k → v'.ownBlock ≠ some k := by
  intro k hk hk'
  obtain ⟨C, hC⟩ := own_blkE h k hk
  obtain ⟨C', hC'⟩ := own_blkE h' k hk'
  exact hE (blk_type hC hC')
theorem grown_set (w : World) (g j : Nat) (v : Value) : w.grownBy (w.setCell ⟨g, j, none⟩ v) (some g) := ⟨rfl, rfl, rfl, by simp, fun k _ hk => Below.heap_setCell _ _ _ _ (fun e => hk (by rw [e]))⟩
theorem grown_trans {u v w : World} {r : Option Nat} (h : u.grownBy v r) (k : v.grownBy w r) : u.grownBy w r :=
  ⟨k.os.trans h.os, k.tape.trans h.tape, k.output.trans h.output, Nat.le_trans h.size k.size, fun i hi hne => (k.block i (Nat.lt_of_lt_of_le hi h.size) hne).trans (h.block i hi hne)⟩
theorem grown_of_below {u v : World} {r : Option Nat} (h : Below u.heap.size u v) : u.grownBy v r := ⟨h.os, h.tape, h.output, h.size, fun i hi _ => h.block i hi⟩
theorem grown_drewN {u v : World} {r : Option Nat} (n : Nat) (h : (u.drewN n).grownBy v r) : u.grownBy v r := ⟨h.os, h.tape, h.output, h.size, h.block⟩
theorem own_rd_at {α : Type} {E : Enc α} {w : World} {base : Nat} {a : Option Addr} {n c : Nat} {l : List α} (h : Own E w base (.slice a n c) l) : Rd E w a n c l ∧ l.length = n := by
  obtain ⟨a', c', e, r⟩ := h.rd
  simp only [Value.slice.injEq] at e
  obtain ⟨x1, x2, x3⟩ := e
  rw [x1, x2, x3]
  exact ⟨r, rfl⟩
theorem Blk.grownV2 {w wy : World} {b : Nat} {r : Option Nat} {t : TypeId} {fz : Nat × Nat} {C : List Value} (h : Blk w b t fz C) (hg : w.grownBy wy r) (hne : some b ≠ r) : Blk wy b t fz C := (hg.block _ h.lt hne).trans h
theorem fresh_store {wp wn wy : World} (h : Below wp.heap.size wp wn) (hg : wn.grownBy wy (some wp.heap.size)) : Below wp.heap.size wp wy := h.grown hg h.size (fun k hk => by cases hk; exact Nat.le_refl _)
theorem blk_store {w w' : World} {b k : Nat} {t t' : TypeId} {fz fz' : Nat × Nat} {C C' : List Value} (hB : Blk w b t fz C) (hZ : Blk w k t' fz' C') (hne : t ≠ t') (hg : w.grownBy w' (some k)) : Blk w' b t fz C :=
  hB.grownV2 hg fun e => by
    have e2 := Option.some.inj e
    subst e2
    exact hne (blk_type hB hZ)
theorem step_own {α : Type} {P : Program} {E : Enc α} {ops : Array Oper} {o : Oper} {a : Act} {W : World} {K : Act → World → Prop} {Q : Exit → Act → World → Prop} {Ep : Prop} (hgd : o.guard = none) (s x : Operand) (t tx : TypeId)
    (ho : o.op = .call { callee := .builtin .append, args := #[s, x], argTypes := #[t, tx] }) {i : TypeInfo} {z : Value} {bytes : Nat} (ht : P.underlying t = some (.slice E.e)) (hi : P.info? E.e = some i) (hz : i.zero = some z)
    (hsize : i.size = E.k) (hby : i.bytes = bytes) (hzc : z.cells.toList = E.f E.z) {base : Nat} {v xv : Value} {l news : List α} (hs : a.eval s = v) (hown : Own E W base v l) (hx : a.eval x = xv) (hsrc : Src P E.k tx xv news.length (rowOf E news) W)
    (h63 : l.length + news.length ≤ maxLen) (hbytes : (l.length + news.length) * bytes ≤ 140737488355328) (hbase : base ≤ W.heap.size)
    (h : ∀ v' w', Own E w' base v' (l ++ news) → W.grownBy w' v.ownBlock → (v'.ownBlock = v.ownBlock ∨ v'.ownBlock = some W.heap.size) → K (a.put o.dst v') w') :
    if Region.wanted o (yielded ops a.tmps) = true then Oper.wp P o a W K Q else Ep := by
  have hw : Region.wanted o (yielded ops a.tmps) = true := by simp [Region.wanted, hgd]
  rw [if_pos hw]
  obtain ⟨v', w', hr, h2, h3, h4⟩ := run_append_Own (P := P) E W base t tx o.type i z bytes ht hi hz hsize hby hzc v l hown xv news hsrc h63 hbytes hbase
  unfold Oper.wp execOp
  simp only [ho, resolve, invoke, builtin, Sem.run_bind, Sem.run_pure, Result.andThen_ok, List.map_toArray, List.map_cons, List.map_nil, hs, hx, hr]
  exact h v' w' h2 h3 h4
theorem cell_alloc {w w0 : World} {o : Obj} {g j : Nat} {v : Value} (h : w0.cell? ⟨g, j, none⟩ = some v) (e : w.heap = w0.heap) : (w.alloc o).cell? ⟨g, j, none⟩ = some v := by
  have h2 : w.cell? ⟨g, j, none⟩ = some v := by rw [← h]; unfold World.cell?; rw [e]
  exact (((Below.refl w.heap.size w).alloc (Nat.le_refl _) o).cell (p := ⟨g, j, none⟩) (World.block_lt_of_cell? w _ h2)).trans h2
/-- a call of a function with one argument, as a step of a region that draws -/
theorem step_call {P : Program} {ops : Array Oper} {o : Oper} {a : Act} {w : World} {K : Act → World → Prop} {Q : Exit → Act → World → Prop} {Ep : Prop} (hgd : o.guard = none) {f : FuncId} (x : Operand) (t : TypeId)
    (ho : o.op = .call { callee := .value (.func f), args := #[x], argTypes := #[t] }) {v : Value} (hx : a.eval x = v) (hcf : ∀ (args : Array Value) (w : World), (callFunc f args).run P w = .ok (.enter f args) w)
    (h : Calls P f #[v] w fun e w' => ∃ r, e = .returned r ∧ K (a.put o.dst r) w') : if Region.wanted o (yielded ops a.tmps) = true then Oper.wp P o a w K Q else Ep := by
  have hw : Region.wanted o (yielded ops a.tmps) = true := by simp [Region.wanted, hgd]
  rw [if_pos hw]
  unfold Oper.wp execOp
  have hv : a.eval (.func f) = .func (.func f) #[] #[] := rfl
  have e : (Deferred.ofValue (Value.func (Fn.func f) #[] #[]) #[v]).run P w = .ok { target := .fn (.func f) #[], args := #[v] } w := by simp [Deferred.ofValue]
  simp only [ho, resolve, invoke, Sem.run_bind, List.map_toArray, List.map_cons, List.map_nil, hx, hv, e, Result.andThen_ok, Array.append_empty, hcf, Oper.upon_enter]
  refine h.mono ?_
  rintro e w' ⟨r, rfl, hk⟩
  exact hk
/-- a whole struct is stored, as a step of a region that draws -/
theorem step_store {P : Program} {ops : Array Oper} {o : Oper} {a : Act} {w : World} {K : Act → World → Prop} {Q : Exit → Act → World → Prop} {Ep : Prop} (hgd : o.guard = none) (ty : TypeId) (x y : Operand) (ho : o.op = .store ty x y) {b : Nat} {t : TypeId} {C : List Value} {cells : Array Value}
    (hx : a.eval x = .pointer (some ⟨b, 0, none⟩)) (hy : a.eval y = .agg cells) (hB : Blk w b t (0, 0) C) (hsz : cells.size = C.length) (hi : (P.info? ty).map (·.size) = some cells.size) (h1 : cells.all (·.oneCell') = true)
    (h : ∀ w', Blk w' b t (0, 0) cells.toList → w.grownBy w' (some b) → w'.heap.size = w.heap.size → K (a.put o.dst undef) w') :
    if Region.wanted o (yielded ops a.tmps) = true then Oper.wp P o a w K Q else Ep := by
  have hw : Region.wanted o (yielded ops a.tmps) = true := by simp [Region.wanted, hgd]
  rw [if_pos hw]
  exact store_whole_op ty x y ho hx hy hB hsz hi h1 h
/-- a store into a block of another type -/
theorem own_store {α : Type} {E : Enc α} {w w' : World} {b k : Nat} {v : Value} {l : List α} {t : TypeId} {fz : Nat × Nat} {C : List Value} (ho : Own E w b v l) (hB : Blk w k t fz C) (hne : E.e ≠ t) (hg : w.grownBy w' (some k)) : Own E w' b v l :=
  ho.keep fun j hj => hg.block j (ho.lt j hj).2 (fun e => by
    obtain ⟨C', hC'⟩ := own_blkE ho j hj
    have e2 := Option.some.inj e
    subst e2
    exact hne (blk_type hC' hB))
/-- a block of another type than a slice's is as it was when the slice grows -/
theorem blk_own {α : Type} {E : Enc α} {w w' : World} {base k : Nat} {v : Value} {l : List α} {t : TypeId} {fz : Nat × Nat} {C : List Value} (hB : Blk w k t fz C) (ho : Own E w base v l) (hne : E.e ≠ t) (hg : w.grownBy w' v.ownBlock) : Blk w' k t fz C :=
  hB.grownV2 hg fun e => by
    obtain ⟨C', hC'⟩ := own_blkE ho k e.symm
    exact hne (blk_type hC' hB)
theorem own_grown {α β : Type} {E : Enc α} {F : Enc β} {w w' : World} {base base' : Nat} {v v' : Value} {l : List α} {l' : List β} (h : Own F w base' v' l') (ho : Own E w base v l) (hne : E.e ≠ F.e) (hg : w.grownBy w' v.ownBlock) : Own F w' base' v' l' :=
  h.keep fun k hk => hg.block k (h.lt k hk).2 fun e => own_apart ho h hne k e.symm hk
/-- a call of a function with two arguments, as a step of a region that draws -/
theorem step_call2 {P : Program} {ops : Array Oper} {o : Oper} {a : Act} {w : World} {K : Act → World → Prop} {Q : Exit → Act → World → Prop} {Ep : Prop} (hw : Region.wanted o (yielded ops a.tmps) = true) {f : FuncId} (x y : Operand) (t t2 : TypeId)
    (ho : o.op = .call { callee := .value (.func f), args := #[x, y], argTypes := #[t, t2] }) {v v2 : Value} (hx : a.eval x = v) (hy : a.eval y = v2) (hcf : ∀ (args : Array Value) (w : World), (callFunc f args).run P w = .ok (.enter f args) w)
    (h : Calls P f #[v, v2] w fun e w' => ∃ r, e = .returned r ∧ K (a.put o.dst r) w') : if Region.wanted o (yielded ops a.tmps) = true then Oper.wp P o a w K Q else Ep := by
  rw [if_pos hw]
  unfold Oper.wp execOp
  have hv : a.eval (.func f) = .func (.func f) #[] #[] := rfl
  have e : (Deferred.ofValue (Value.func (Fn.func f) #[] #[]) #[v, v2]).run P w = .ok { target := .fn (.func f) #[], args := #[v, v2] } w := by simp [Deferred.ofValue]
  simp only [ho, resolve, invoke, Sem.run_bind, List.map_toArray, List.map_cons, List.map_nil, hx, hy, hv, e, Result.andThen_ok, Array.append_empty, hcf, Oper.upon_enter]
  refine h.mono ?_
  rintro e w' ⟨r, rfl, hk⟩
  exact hk
theorem step_call1 {P : Program} {ops : Array Oper} {o : Oper} {a : Act} {w : World} {K : Act → World → Prop} {Q : Exit → Act → World → Prop} {Ep : Prop} (hw : Region.wanted o (yielded ops a.tmps) = true) {f : FuncId} (x : Operand) (t : TypeId)
    (ho : o.op = .call { callee := .value (.func f), args := #[x], argTypes := #[t] }) {v : Value} (hx : a.eval x = v) (hcf : ∀ (args : Array Value) (w : World), (callFunc f args).run P w = .ok (.enter f args) w)
    (h : Calls P f #[v] w fun e w' => ∃ r, e = .returned r ∧ K (a.put o.dst r) w') : if Region.wanted o (yielded ops a.tmps) = true then Oper.wp P o a w K Q else Ep := by
  rw [if_pos hw]
  unfold Oper.wp execOp
  have hv : a.eval (.func f) = .func (.func f) #[] #[] := rfl
  have e : (Deferred.ofValue (Value.func (Fn.func f) #[] #[]) #[v]).run P w = .ok { target := .fn (.func f) #[], args := #[v] } w := by simp [Deferred.ofValue]
  simp only [ho, resolve, invoke, Sem.run_bind, List.map_toArray, List.map_cons, List.map_nil, hx, hv, e, Result.andThen_ok, Array.append_empty, hcf, Oper.upon_enter]
  refine h.mono ?_
  rintro e w' ⟨r, rfl, hk⟩
  exact hk
theorem Tryd.info5 : (Tryd.prog.info? 5).map (fun i => (i.zero, i.size, i.bytes)) = some (some (.int .u8 0), 1, 1) := by kernel_rfl
theorem Tryd.info44 : (Tryd.prog.info? 44).map (fun i => (i.zero, i.size, i.bytes)) = some (some (.agg #[.string ⟨#[]⟩, .bool false]), 2, 24) := by kernel_rfl
theorem Tryd.info34 : (Tryd.prog.info? 34).map (fun i => (i.zero, i.size, i.bytes)) = some (some (.agg #[.int .i64 0, .bool false, .slice none 0 0]), 3, 40) := by kernel_rfl
/-- a word as it lies -/
def trE : Enc Trm := ⟨44, 2, fun t => [.string (mk t.1), .bool t.2], ([], false), fun _ => rfl, fun x v hv => by simp at hv; rcases hv with rfl | rfl <;> rfl, by decide⟩
/-- an entry as it lies -/
structure ED where
  line : Int
  blank : Bool
  wa : Option Addr
  wn : Nat
  wc : Nat
def enE : Enc ED := ⟨34, 3, fun q => [.int .i64 q.line, .bool q.blank, .slice q.wa q.wn q.wc], ⟨0, false, none, 0, 0⟩, fun _ => rfl, fun x v hv => by simp at hv; rcases hv with rfl | rfl | rfl <;> rfl, by decide⟩
end Go.Proofs.YtojdjhicjhhblaaDoor
