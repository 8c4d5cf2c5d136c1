/- Whole structs and arrays, out of and into blocks of their own; results in cells. Nothing of the program. -/
import Derived.Test.YtojdjhicjhhblaaDoorRd
import Derived.Deep.MidRow
import Derived.OwnWalk
namespace Go.Proofs.YtojdjhicjhhblaaDoor
open Go Go.RowKit
theorem there_of {w : World} {b : Nat} {t : TypeId} {C : List Value} (h : Blk w b t (0, 0) C) (n : Nat) (hn : n = C.length) : w.there b 0 n := by
  subst hn
  intro j hj
  refine ⟨?_, ?_⟩
  · rw [h.cell, Nat.zero_add, List.getElem?_eq_getElem hj]; rfl
  · rw [h.frozen]; simp
theorem range_of {w : World} {b : Nat} {t : TypeId} {fz : Nat × Nat} {C : List Value} (h : Blk w b t fz C) : w.rangeAt b 0 C := by
  intro j v hv
  rw [h.cell, Nat.zero_add, hv]
theorem whole_blk {w : World} {b : Nat} {t : TypeId} {C vs : List Value} (h : Blk w b t (0, 0) C) (hl : vs.length = C.length) : Blk (w.setCells b 0 vs) b t (0, 0) vs := by
  have := setCells_blk vs 0 w h (by omega)
  have e : splice C 0 vs = vs := by unfold splice; simp [hl]
  rwa [e] at this
theorem setCells_grown (w : World) (b : Nat) (vs : List Value) : w.grownBy (w.setCells b 0 vs) (some b) :=
  ⟨setCells_os _ _ _ _, setCells_tape _ _ _ _, setCells_output _ _ _ _, Nat.le_of_eq (setCells_size _ _ _ _).symm, fun k _ hk => setCells_other b (fun e => hk (by rw [e])) _ _ _⟩
section
variable {P : Program} {ops : Array Oper} {rest : List Oper} {o : Oper} {a : Act} {w : World} {Q : Exit → Act → World → Prop}
/-- a whole struct is stored -/
theorem store_whole (hg : o.guard = none) (ty : TypeId) (x y : Operand) (ho : o.op = .store ty x y) {b : Nat} {t : TypeId} {C : List Value} {cells : Array Value} (hx : a.eval x = .pointer (some ⟨b, 0, none⟩)) (hy : a.eval y = .agg cells)
    (hB : Blk w b t (0, 0) C) (hsz : cells.size = C.length) (hi : (P.info? ty).map (·.size) = some cells.size) (h1 : cells.all (·.oneCell') = true)
    (h : ∀ w', Blk w' b t (0, 0) cells.toList → w.grownBy w' (some b) → w'.heap.size = w.heap.size → wpList P ops Q rest (a.put o.dst undef) w') : wpList P ops Q (o :: rest) a w :=
  wpList_store_mid hg ty x y ho b 0 cells hx hy (there_of hB _ hsz) hi h1 (h _ (whole_blk hB (by simpa using hsz)) (setCells_grown _ _ _) (setCells_size _ _ _ _))
theorem store_whole_op {K : Act → World → Prop} (ty : TypeId) (x y : Operand) (ho : o.op = .store ty x y) {b : Nat} {t : TypeId} {C : List Value} {cells : Array Value} (hx : a.eval x = .pointer (some ⟨b, 0, none⟩)) (hy : a.eval y = .agg cells)
    (hB : Blk w b t (0, 0) C) (hsz : cells.size = C.length) (hi : (P.info? ty).map (·.size) = some cells.size) (h1 : cells.all (·.oneCell') = true)
    (h : ∀ w', Blk w' b t (0, 0) cells.toList → w.grownBy w' (some b) → w'.heap.size = w.heap.size → K (a.put o.dst undef) w') : o.wp P a w K Q :=
  wp_store_mid ty x y ho b 0 cells hx hy (there_of hB _ hsz) hi h1 (h _ (whole_blk hB (by simpa using hsz)) (setCells_grown _ _ _) (setCells_size _ _ _ _))
/-- a whole struct is loaded -/
theorem load_whole (hg : o.guard = none) (ty : TypeId) (x : Operand) (ho : o.op = .load ty x) {b : Nat} {t : TypeId} {fz : Nat × Nat} {C : List Value} {d : TypeDesc} (hx : a.eval x = .pointer (some ⟨b, 0, none⟩))
    (hB : Blk w b t fz C) (hu : P.underlying ty = some d) (hd : d.isRow = true) (hi : (P.info? ty).map (·.size) = some C.length)
    (h : wpList P ops Q rest (a.put o.dst (.agg C.toArray)) w) : wpList P ops Q (o :: rest) a w :=
  wpList_load_mid hg ty x ho b 0 hx C d (range_of hB) hu hd hi h
theorem results_cct {fn : Func} {t1 t2 t3 : Tmp} {ty1 ty2 : TypeId} (h : fn.results = #[.cell t1 ty1, .cell t2 ty2, .tmp t3]) (tmps : Array Value) {b1 b2 : Nat} {e1 e2 : TypeId} {f1 f2 : Nat × Nat} {C1 C2 : List Value} {d1 d2 : TypeDesc}
    (hp1 : tmps.getD t1 undef = .pointer (some ⟨b1, 0, none⟩)) (hp2 : tmps.getD t2 undef = .pointer (some ⟨b2, 0, none⟩)) (hB1 : Blk w b1 e1 f1 C1) (hB2 : Blk w b2 e2 f2 C2) (hu1 : P.underlying ty1 = some d1) (hd1 : d1.isRow = true) (hi1 : (P.info? ty1).map (·.size) = some C1.length)
    (hu2 : P.underlying ty2 = some d2) (hd2 : d2.isRow = true) (hi2 : (P.info? ty2).map (·.size) = some C2.length) :
    (results fn tmps).run P w = .ok (.tuple #[.agg C1.toArray, .agg C2.toArray, tmps.getD t3 undef]) w := by
  have r1 := run_loadVar_mid (P := P) w b1 0 ty1 C1 d1 (range_of hB1) hu1 hd1 hi1
  have r2 := run_loadVar_mid (P := P) w b2 0 ty2 C2 d2 (range_of hB2) hu2 hd2 hi2
  have a1 : (asAddr (.pointer (some ⟨b1, 0, none⟩))).run P w = .ok ⟨b1, 0, none⟩ w := by simp [asAddr]
  have a2 : (asAddr (.pointer (some ⟨b2, 0, none⟩))).run P w = .ok ⟨b2, 0, none⟩ w := by simp [asAddr]
  have hp1' : tmps[t1]?.getD undef = .pointer (some ⟨b1, 0, none⟩) := by simpa using hp1
  have hp2' : tmps[t2]?.getD undef = .pointer (some ⟨b2, 0, none⟩) := by simpa using hp2
  simp [results, h, hp1', hp2', a1, a2, r1, r2, Result.andThen, Sem.run_bind]
theorem results_ct {fn : Func} {t1 t3 : Tmp} {ty1 : TypeId} (h : fn.results = #[.cell t1 ty1, .tmp t3]) (tmps : Array Value) {b1 : Nat} {e1 : TypeId} {f1 : Nat × Nat} {C1 : List Value} {d1 : TypeDesc}
    (hp1 : tmps.getD t1 undef = .pointer (some ⟨b1, 0, none⟩)) (hB1 : Blk w b1 e1 f1 C1) (hu1 : P.underlying ty1 = some d1) (hd1 : d1.isRow = true) (hi1 : (P.info? ty1).map (·.size) = some C1.length) :
    (results fn tmps).run P w = .ok (.tuple #[.agg C1.toArray, tmps.getD t3 undef]) w := by
  have r1 := run_loadVar_mid (P := P) w b1 0 ty1 C1 d1 (range_of hB1) hu1 hd1 hi1
  have a1 : (asAddr (.pointer (some ⟨b1, 0, none⟩))).run P w = .ok ⟨b1, 0, none⟩ w := by simp [asAddr]
  have hp1' : tmps[t1]?.getD undef = .pointer (some ⟨b1, 0, none⟩) := by simpa using hp1
  simp [results, h, hp1', a1, r1, Result.andThen, Sem.run_bind]
theorem results_c {fn : Func} {t1 : Tmp} {ty1 : TypeId} (h : fn.results = #[.cell t1 ty1]) (tmps : Array Value) {b1 : Nat} {e1 : TypeId} {f1 : Nat × Nat} {C1 : List Value} {d1 : TypeDesc}
    (hp1 : tmps.getD t1 undef = .pointer (some ⟨b1, 0, none⟩)) (hB1 : Blk w b1 e1 f1 C1) (hu1 : P.underlying ty1 = some d1) (hd1 : d1.isRow = true) (hi1 : (P.info? ty1).map (·.size) = some C1.length) :
    (results fn tmps).run P w = .ok (.agg C1.toArray) w := by
  have r1 := run_loadVar_mid (P := P) w b1 0 ty1 C1 d1 (range_of hB1) hu1 hd1 hi1
  have a1 : (asAddr (.pointer (some ⟨b1, 0, none⟩))).run P w = .ok ⟨b1, 0, none⟩ w := by simp [asAddr]
  have hp1' : tmps[t1]?.getD undef = .pointer (some ⟨b1, 0, none⟩) := by simpa using hp1
  simp [results, h, hp1', a1, r1, Result.andThen, Sem.run_bind]
/-- a struct is loaded out of the middle of a row -/
theorem load_mid (hg : o.guard = none) (ty : TypeId) (x : Operand) (ho : o.op = .load ty x) {b off : Nat} {C : List Value} {d : TypeDesc} (hx : a.eval x = .pointer (some ⟨b, off, none⟩))
    (hB : w.rangeAt b off C) (hu : P.underlying ty = some d) (hd : d.isRow = true) (hi : (P.info? ty).map (·.size) = some C.length)
    (h : wpList P ops Q rest (a.put o.dst (.agg C.toArray)) w) : wpList P ops Q (o :: rest) a w :=
  wpList_load_mid hg ty x ho b off hx C d hB hu hd hi h
end
end Go.Proofs.YtojdjhicjhhblaaDoor
