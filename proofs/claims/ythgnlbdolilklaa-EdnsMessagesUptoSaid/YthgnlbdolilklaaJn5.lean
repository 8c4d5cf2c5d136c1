/- Layer 1: the reader, the program's: Take, Jump; and none, which is bad. Layer 1: New, and a call beside the document's. Whole structs and arrays, out of and into blocks of their own; results in cells. Nothing of the program. -/
import Derived.Test.YthgnlbdolilklaaRdrB
import Derived.Test.YthgnlbdolilklaaJn1
import Derived.Deep.MidRow
import Derived.OwnWalk
namespace Go.Proofs.Ythgnlbdolilklaa
open Go.RowKit

theorem tkL_le (l : List UInt8) (at_ : Nat) (bad : Bool) (n : Int) : (tkL l at_ bad n).length ≤ l.length := by
  unfold tkL; split
  · simp; omega
  · simp
set_option maxHeartbeats 2000000 in
set_option maxRecDepth 100000 in
theorem rdr_Take {w : World} {lo g : Nat} {l : List UInt8} {at_ : Nat} {bad : Bool} (h : Rdr w lo g l at_ bad) (hl : l.length ≤ 140737488355328) (n : Int) :
    Calls Try.prog 43 #[.pointer (some ⟨g, 0, none⟩), .int .i64 n] w fun e w' => (∃ v, e = .returned v ∧ Own byteE w' w.heap.size v (tkL l at_ bad n)) ∧ Rdr w' lo g l (tkAt l at_ bad n) (!tk l at_ bad n) ∧ w.grownBy w' (some g) := by
  obtain ⟨i0, hi, hz0, hz1, hz2⟩ := info_parts Try.info5
  have hH := Lib.hid h; clear h
  have hle := tkL_le l at_ bad n
  go_enter Try.func43, Try.ntmps43
  go_wp2_with (go_at_call 64; refine (rdr_take hH.out hl _).mono ?_)
  rintro e w1 ⟨⟨a', m, c', rfl, hr, h1, h2⟩, hR, hg⟩
  have hRR := Lib.hid hR
  have hsrc := hr.src (P := Try.prog) Try.underlying33
  clear hr h1 h2 hR
  have hown := Own.nil byteE w1 w.heap.size
  go_wp2_with (at_builtin; refine app_own (E := byteE) rfl _ _ 33 33 rfl Try.underlying33 hi hz0 hz1 hz2 rfl rfl hown rfl hsrc ?c1 ?c2 ?c3 ?_)
  case c1 => simp [maxLen]; omega
  case c2 => simp; omega
  case c3 => exact hg.size
  intro v' w2 ho hg2 _
  obtain ⟨a2, c2, rfl⟩ := ho.shape
  go_wp2
  go_ret
  have hb2 : Below w1.heap.size w1 w2 := ⟨hg2.os, hg2.tape, hg2.output, hg2.size, fun k hk => hg2.block k hk (by simp [Value.ownBlock])⟩
  refine ⟨⟨_, rfl, by simpa using ho⟩, ?_, grown_trans hg ⟨hb2.os, hb2.tape, hb2.output, hb2.size, fun k hk _ => hb2.block k hk⟩⟩
  obtain ⟨a, c, r1, r2, r⟩ := hRR.out
  exact ⟨a, c, r1.below hb2 r1.lt, r2.ext hb2, r⟩

end Go.Proofs.Ythgnlbdolilklaa
namespace Go.Proofs.Ythgnlbdolilklaa
open Go.RowKit
theorem own_addr {α : Type} {E : Enc α} {w : World} {base : Nat} {a : Option Addr} {n c : Nat} {l : List α} (h : Own E w base (.slice a n c) l) : ∀ b o s, a = some ⟨b, o, s⟩ → base ≤ b ∧ b < w.heap.size := by
  rintro b o s rfl
  exact h.lt b rfl
set_option maxHeartbeats 2000000 in
set_option maxRecDepth 100000 in
theorem new_any {w : World} {a : Option Addr} {n c : Nat} {l : List UInt8} (h : Rd byteE w a n c l) (hn : n ≤ 140737488355328) :
    Calls Try.prog 39 #[.slice a n c] w fun e w' => ∃ g, e = .returned (.pointer (some ⟨g, 0, none⟩)) ∧ w.heap.size ≤ g ∧ Rdr w' w.heap.size g l 0 false ∧ Below w.heap.size w w' := by
  obtain ⟨i0, hi, hz0, hz1, hz2⟩ := info_parts Try.info5
  have hl := h.len
  have hown := Own.made byteE w #[] [] 0 rfl rfl (by simp [maxLen])
  have hsrc := (h.ext ((Below.refl _ w).alloc (Nat.le_refl _) (.cells #[] 5))).src (P := Try.prog) Try.underlying33
  have hH := Lib.hid h; clear h
  go_enter Try.func39, Try.ntmps39
  go_wp2_with (at_builtin; refine app_own (E := byteE) rfl (.tmp 3) (.tmp 4) 33 33 rfl Try.underlying33 hi hz0 hz1 hz2 rfl rfl hown rfl hsrc ?c1 ?c2 ?c3 ?_)
  case c1 => simp [maxLen]; omega
  case c2 => simp; omega
  case c3 => simp
  intro v' w2 ho hg _
  obtain ⟨a', c', rfl⟩ := ho.shape
  have hb2 := own_below ((Below.refl w.heap.size w).alloc (Nat.le_refl _) _) hg hown (by simp) (Nat.le_refl _)
  have hO := Lib.hid ho
  clear ho hg hsrc hown
  go_wp2
  go_ret
  have ho : Own byteE w2 w.heap.size (.slice a' l.length c') l := hO.out
  refine ⟨_, rfl, hb2.size, ?_, hb2.alloc hb2.size _⟩
  obtain ⟨a2, c2, e, hr⟩ := ho.rd
  cases e
  have hlt := own_addr ho
  refine ⟨_, _, ?_, hr.ext ((Below.refl _ _).alloc (Nat.le_refl _) _), hlt, Nat.zero_le _, fun e => by cases e⟩
  subst hl
  simpa using Blk.new w2 102 (0, 0) #[.slice a' l.length c', .int .i64 0, .bool false, .bool true]

end Go.Proofs.Ythgnlbdolilklaa
namespace Go.Proofs.Ythgnlbdolilklaa
open Go Go.RowKit
theorem there_of {w : World} {b : Nat} {t : TypeId} {C : List Value} (h : Blk w b t (0, 0) C) (n : Nat) (hn : n = C.length) : w.there b 0 n := by
  subst hn
  intro j hj
  refine ⟨?_, ?_⟩
  · rw [h.cell, Nat.zero_add, List.getElem?_eq_getElem hj]; rfl
  · rw [h.frozen]; simp
theorem range_of {w : World} {b : Nat} {t : TypeId} {fz : Nat × Nat} {C : List Value} (h : Blk w b t fz C) : w.rangeAt b 0 C := by
  intro j v hv
  rw [h.cell, Nat.zero_add, hv]
theorem whole_blk {w : World} {b : Nat} {t : TypeId} {C vs : List Value} (h : Blk w b t (0, 0) C) (hl : vs.length = C.length) : Blk (w.setCells b 0 vs) b t (0, 0) vs := by
  have := setCells_blk vs 0 w h (by omega)
  have e : splice C 0 vs = vs := by unfold splice; simp [hl]
  rwa [e] at this
theorem setCells_grown (w : World) (b : Nat) (vs : List Value) : w.grownBy (w.setCells b 0 vs) (some b) :=
  ⟨setCells_os _ _ _ _, setCells_tape _ _ _ _, setCells_output _ _ _ _, Nat.le_of_eq (setCells_size _ _ _ _).symm, fun k _ hk => setCells_other b (fun e => hk (by rw [e])) _ _ _⟩
section
variable {P : Program} {ops : Array Oper} {rest : List Oper} {o : Oper} {a : Act} {w : World} {Q : Exit → Act → World → Prop}
/-- a whole struct is stored -/
theorem store_whole (hg : o.guard = none) (ty : TypeId) (x y : Operand) (ho : o.op = .store ty x y) {b : Nat} {t : TypeId} {C : List Value} {cells : Array Value} (hx : a.eval x = .pointer (some ⟨b, 0, none⟩)) (hy : a.eval y = .agg cells)
    (hB : Blk w b t (0, 0) C) (hsz : cells.size = C.length) (hi : (P.info? ty).map (·.size) = some cells.size) (h1 : cells.all (·.oneCell') = true)
    (h : ∀ w', Blk w' b t (0, 0) cells.toList → w.grownBy w' (some b) → w'.heap.size = w.heap.size → wpList P ops Q rest (a.put o.dst undef) w') : wpList P ops Q (o :: rest) a w :=
  wpList_store_mid hg ty x y ho b 0 cells hx hy (there_of hB _ hsz) hi h1 (h _ (whole_blk hB (by simpa using hsz)) (setCells_grown _ _ _) (setCells_size _ _ _ _))
theorem store_whole_op {K : Act → World → Prop} (ty : TypeId) (x y : Operand) (ho : o.op = .store ty x y) {b : Nat} {t : TypeId} {C : List Value} {cells : Array Value} (hx : a.eval x = .pointer (some ⟨b, 0, none⟩)) (hy : a.eval y = .agg cells)
    (hB : Blk w b t (0, 0) C) (hsz : cells.size = C.length) (hi : (P.info? ty).map (·.size) = some cells.size) (h1 : cells.all (·.oneCell') = true)
    (h : ∀ w', Blk w' b t (0, 0) cells.toList → w.grownBy w' (some b) → w'.heap.size = w.heap.size → K (a.put o.dst undef) w') : o.wp P a w K Q :=
  wp_store_mid ty x y ho b 0 cells hx hy (there_of hB _ hsz) hi h1 (h _ (whole_blk hB (by simpa using hsz)) (setCells_grown _ _ _) (setCells_size _ _ _ _))
/-- a whole struct is loaded -/
theorem load_whole (hg : o.guard = none) (ty : TypeId) (x : Operand) (ho : o.op = .load ty x) {b : Nat} {t : TypeId} {fz : Nat × Nat} {C : List Value} {d : TypeDesc} (hx : a.eval x = .pointer (some ⟨b, 0, none⟩))
    (hB : Blk w b t fz C) (hu : P.underlying ty = some d) (hd : d.isRow = true) (hi : (P.info? ty).map (·.size) = some C.length)
    (h : wpList P ops Q rest (a.put o.dst (.agg C.toArray)) w) : wpList P ops Q (o :: rest) a w :=
  wpList_load_mid hg ty x ho b 0 hx C d (range_of hB) hu hd hi h
theorem results_ct {fn : Func} {t1 t3 : Tmp} {ty1 : TypeId} (h : fn.results = #[.cell t1 ty1, .tmp t3]) (tmps : Array Value) {b1 : Nat} {e1 : TypeId} {f1 : Nat × Nat} {C1 : List Value} {d1 : TypeDesc}
    (hp1 : tmps.getD t1 undef = .pointer (some ⟨b1, 0, none⟩)) (hB1 : Blk w b1 e1 f1 C1) (hu1 : P.underlying ty1 = some d1) (hd1 : d1.isRow = true) (hi1 : (P.info? ty1).map (·.size) = some C1.length) :
    (results fn tmps).run P w = .ok (.tuple #[.agg C1.toArray, tmps.getD t3 undef]) w := by
  have r1 := run_loadVar_mid (P := P) w b1 0 ty1 C1 d1 (range_of hB1) hu1 hd1 hi1
  have a1 : (asAddr (.pointer (some ⟨b1, 0, none⟩))).run P w = .ok ⟨b1, 0, none⟩ w := by simp [asAddr]
  have hp1' : tmps[t1]?.getD undef = .pointer (some ⟨b1, 0, none⟩) := by simpa using hp1
  simp [results, h, hp1', a1, r1, Result.andThen, Sem.run_bind]
theorem results_c {fn : Func} {t1 : Tmp} {ty1 : TypeId} (h : fn.results = #[.cell t1 ty1]) (tmps : Array Value) {b1 : Nat} {e1 : TypeId} {f1 : Nat × Nat} {C1 : List Value} {d1 : TypeDesc}
    (hp1 : tmps.getD t1 undef = .pointer (some ⟨b1, 0, none⟩)) (hB1 : Blk w b1 e1 f1 C1) (hu1 : P.underlying ty1 = some d1) (hd1 : d1.isRow = true) (hi1 : (P.info? ty1).map (·.size) = some C1.length) :
    (results fn tmps).run P w = .ok (.agg C1.toArray) w := by
  have r1 := run_loadVar_mid (P := P) w b1 0 ty1 C1 d1 (range_of hB1) hu1 hd1 hi1
  have a1 : (asAddr (.pointer (some ⟨b1, 0, none⟩))).run P w = .ok ⟨b1, 0, none⟩ w := by simp [asAddr]
  have hp1' : tmps[t1]?.getD undef = .pointer (some ⟨b1, 0, none⟩) := by simpa using hp1
  simp [results, h, hp1', a1, r1, Result.andThen, Sem.run_bind]
end
end Go.Proofs.Ythgnlbdolilklaa
