/- Layer 22: container/heap over the timers: Push, Pop. -/
import Derived.Test.YtckimjmidbdalaaHp
import Derived.Deep.AppendLies
import Derived.Deep.RegionLaw
namespace Go.Proofs.Ytckimjmidbdalaa
open Go.RowKit
/-- append onto a slice of the call's own, as a step of a region that draws -/
theorem step_own {α : Type} {P : Program} {E : Enc α} {ops : Array Oper} {o : Oper} {a : Act} {W : World} {K : Act → World → Prop} {Q : Exit → Act → World → Prop} {Ep : Prop} (hgd : o.guard = none) (s x : Operand) (t tx : TypeId)
    (ho : o.op = .call { callee := .builtin .append, args := #[s, x], argTypes := #[t, tx] }) {i : TypeInfo} {z : Value} {bytes : Nat} (ht : P.underlying t = some (.slice E.e)) (hi : P.info? E.e = some i) (hz : i.zero = some z)
    (hsize : i.size = E.k) (hby : i.bytes = bytes) (hzc : z.cells.toList = E.f E.z) {base : Nat} {v xv : Value} {l news : List α} (hs : a.eval s = v) (hown : Own E W base v l) (hx : a.eval x = xv) (hsrc : Src P E.k tx xv news.length (rowOf E news) W)
    (h63 : l.length + news.length ≤ maxLen) (hbytes : (l.length + news.length) * bytes ≤ 140737488355328) (hbase : base ≤ W.heap.size)
    (h : ∀ v' w', Own E w' base v' (l ++ news) → W.grownBy w' v.ownBlock → (v'.ownBlock = v.ownBlock ∨ v'.ownBlock = some W.heap.size) → K (a.put o.dst v') w') :
    if Region.wanted o (yielded ops a.tmps) = true then Oper.wp P o a W K Q else Ep := by
  have hw : Region.wanted o (yielded ops a.tmps) = true := by simp [Region.wanted, hgd]
  rw [if_pos hw]
  obtain ⟨v', w', hr, h2, h3, h4⟩ := run_append_Own (P := P) E W base t tx o.type i z bytes ht hi hz hsize hby hzc v l hown xv news hsrc h63 hbytes hbase
  unfold Oper.wp execOp
  simp only [ho, resolve, invoke, builtin, Sem.run_bind, Sem.run_pure, Result.andThen_ok, List.map_toArray, List.map_cons, List.map_nil, hs, hx, hr]
  exact h v' w' h2 h3 h4
theorem Try.info71 : (Try.prog.info? 71).map (fun i => (i.zero, i.size, i.bytes)) = some (some (.agg #[.int .i64 0, .int .i64 0, .int .i64 0]), 3, 24) := by kernel_rfl
/-- a timer as a value -/
def tmV (t : Tm) : Value := .iface 71 (.agg #[.int .i64 t.at_, .int .i64 t.turn, .int .i64 t.key])
theorem m_push (a : Addr) (w : World) : (method 199 69 (.pointer (some a)) "Push").run Try.prog w = .ok (60, .pointer (some a)) w := by kernel_rfl
theorem m_pop (a : Addr) (w : World) : (method 199 69 (.pointer (some a)) "Pop").run Try.prog w = .ok (59, .pointer (some a)) w := by kernel_rfl
theorem cell_grown {w w' : World} {r : Option Nat} {p : Addr} {v : Value} (hg : w.grownBy w' r) (h : w.cell? p = some v) (hne : r ≠ some p.block) : w'.cell? p = some v :=
  (World.cell?_of_block (hg.block _ (World.block_lt_of_cell? w _ h) (fun e => hne e.symm))).trans h
theorem frozen_of_block {w w' : World} {p : Addr} (h : w'.heap[p.block]? = w.heap[p.block]?) : w'.frozen? p = w.frozen? p := by
  unfold World.frozen?; rw [h]
theorem frozen_grown {w w' : World} {r : Option Nat} {p : Addr} (hg : w.grownBy w' r) (hlt : p.block < w.heap.size) (h : w.frozen? p = false) (hne : r ≠ some p.block) : w'.frozen? p = false :=
  (frozen_of_block (hg.block _ hlt (fun e => hne e.symm))).trans h
theorem m_assert (v : Value) (w : World) : (Instr.typeAssert (.iface 71 v) 20 71 false).run Try.prog w = .ok v w := by
  have h : Try.prog.underlying 71 = some (.struct _) := Try.underlying71
  simp [Instr.typeAssert, run_underlying h]
set_option maxHeartbeats 2000000 in
set_option maxRecDepth 100000 in
theorem tpush_any {w : World} {c base : Nat} {v : Value} {l : List Tm} (hc : w.cell? ⟨c, 2, none⟩ = some v) (hf : w.frozen? ⟨c, 2, none⟩ = false) (h : Own timerE w base v l) (hb : base ≤ w.heap.size) (hcv : v.ownBlock ≠ some c) (t : Tm) (hm : l.length ≤ 1073741824) :
    Calls Try.prog 60 #[.pointer (some ⟨c, 2, none⟩), tmV t] w fun e w' => e = .returned (.tuple #[]) ∧ ∃ v' w2, w' = w2.setCell ⟨c, 2, none⟩ v' ∧ Own timerE w2 base v' (l ++ [t]) ∧ (w.alloc (.cells #[.int .i64 t.at_, .int .i64 t.turn, .int .i64 t.key] 71)).grownBy w2 v.ownBlock ∧ (v'.ownBlock = v.ownBlock ∨ v'.ownBlock = some (w.heap.size + 1)) := by
  unfold tmV
  obtain ⟨i0, hi, hz0, hz1, hz2⟩ := info_parts Try.info71
  generalize hW1 : w.drew.alloc (.cells #[.int .i64 t.at_, .int .i64 t.turn, .int .i64 t.key] 71) = W1
  have hown1 : Hid (Own timerE W1 base v l) := Lib.hid (by rw [← hW1]; exact h.ext (((Below.refl _ w).drew).alloc (Nat.le_refl _) _))
  have hsrc : Src Try.prog timerE.k 56 (.slice (some ⟨w.heap.size, 0, none⟩) 1 1) [t].length (rowOf timerE [t]) W1 := by
    rw [← hW1]; exact src_lit (E := timerE) (w := w.drew) (e' := 71) Try.underlying56 _ [t] 1 rfl rfl
  have hS := Lib.hid hsrc
  have hb1 : base ≤ W1.heap.size := by rw [← hW1]; simp; omega
  have hlt := World.block_lt_of_cell? w _ hc
  have hblk : W1.heap[c]? = w.heap[c]? := by rw [← hW1]; exact Below.heap_alloc w.drew _ c hlt
  have hc1 : W1.cell? ⟨c, 2, none⟩ = some v := (World.cell?_of_block (w := w) hblk).trans hc
  have hf1 : W1.frozen? ⟨c, 2, none⟩ = false := (frozen_of_block (w := w) hblk).trans hf
  have hlt1 : (⟨c, 2, none⟩ : Addr).block < W1.heap.size := by rw [← hW1]; simp; exact Nat.lt_succ_of_lt hlt
  clear h hsrc
  have hta := m_assert (.agg #[.int .i64 t.at_, .int .i64 t.turn, .int .i64 t.key])
  go_enter Try.func60, Try.ntmps60
  go_wp2_with fail
  go_region_law (first | (refine step_own (E := timerE) (by rfl) (.tmp 7) (.tmp 10) 56 56 (by rfl) Try.underlying56 hi hz0 hz1 hz2 rfl (by rfl) hown1.out (by rfl) hS.out (by simp [maxLen]; omega) (by simp; omega) hb1 ?_; intro v' w2 ho2 hg2 hv2; have hc2 := cell_grown hg2 hc1 hcv; have hf2 := frozen_grown hg2 hlt1 hf1 hcv; obtain ⟨a2, c2, rfl⟩ := ho2.shape; have ho3 := Lib.hid ho2))
  all_goals
    go_end0
    refine ⟨rfl, _, w2, rfl, by simpa using ho3.out, ⟨?_, ?_, ?_, ?_, ?_⟩, ?_⟩
    · rw [hg2.os, ← hW1]; rfl
    · rw [hg2.tape, ← hW1]; rfl
    · rw [hg2.output, ← hW1]; rfl
    · have := hg2.size; rw [← hW1] at this; simpa using this
    · intro k hk hne; rw [hg2.block k (by rw [← hW1]; simpa using hk) hne, ← hW1]; rfl
    · rw [← hW1] at hv2; simpa [Value.ownBlock] using hv2
end Go.Proofs.Ytckimjmidbdalaa
