/- slices.DeleteFunc 44 with the closure 45. -/
import Derived.Test.YtjkeijjfjbcaiaaPkA
namespace Go.Proofs.Ytjkeijjfjbcaiaa
open Go.RowKit
/-- what stands in the row once j places are gone through and i are kept -/
structure DelS (L C : List Kn) (y : Int) (cap i j : Nat) : Prop where
  len : C.length = cap
  lt : i < j
  le : j ≤ L.length
  kept : C.take i = wo (L.take j) y
  rest : ∀ t (h : t < L.length) , j ≤ t → C[t]? = some L[t]
theorem wo_snoc (L : List Kn) (x : Kn) (y : Int) : wo (L ++ [x]) y = if x.a = y then wo L y else wo L y ++ [x] := by
  unfold wo
  rw [List.filter_append]
  by_cases h : x.a = y <;> simp [h]
theorem DelS.start {L X : List Kn} {y : Int} {cap k : Nat} (hX : X.length = cap) (hk : k < L.length) (ht : X.take L.length = L) (hy : L[k].a = y) (hn : ∀ j, (hj : j < k) → L[j].a ≠ y) : DelS L X y cap k (k + 1) := by
  have hg : ∀ t (h : t < L.length), X[t]? = some L[t] := fun t h => by
    have e : X[t]? = (X.take L.length)[t]? := by rw [List.getElem?_take, if_pos h]
    rw [e, ht, List.getElem?_eq_getElem h]
  refine ⟨hX, Nat.lt_succ_self _, hk, ?_, fun t h _ => hg t h⟩
  have e1 : X.take k = L.take k := by
    have := congrArg (List.take k) ht
    rwa [List.take_take, Nat.min_eq_left (by omega)] at this
  rw [e1, List.take_succ_eq_append_getElem hk, wo_snoc, if_pos hy]
  unfold wo
  symm
  rw [List.filter_eq_self]
  intro x hx
  obtain ⟨j, hj, rfl⟩ := List.getElem_of_mem hx
  have hj' : j < k := by simp at hj; omega
  simpa using hn j hj'
theorem DelS.skip {L C : List Kn} {y : Int} {cap i j : Nat} (h : DelS L C y cap i j) (hj : j < L.length) (hy : L[j].a = y) : DelS L C y cap i (j + 1) := by
  refine ⟨h.len, by have := h.lt; omega, hj, ?_, fun t ht hl => h.rest t ht (by omega)⟩
  rw [h.kept, List.take_succ_eq_append_getElem hj, wo_snoc, if_pos hy]
theorem DelS.keep {L C : List Kn} {y : Int} {cap i j : Nat} (h : DelS L C y cap i j) (hj : j < L.length) (hc : L.length ≤ cap) (hy : L[j].a ≠ y) : DelS L (C.set i L[j]) y cap (i + 1) (j + 1) := by
  have h1 := h.lt
  have h2 := h.len
  refine ⟨by simpa using h2, by omega, hj, ?_, fun t ht hl => ?_⟩
  · rw [List.take_succ_eq_append_getElem (by simp; omega), List.take_set_of_le (Nat.le_refl _), h.kept, List.take_succ_eq_append_getElem hj, wo_snoc, if_neg hy]
    simp
  · rw [List.getElem?_set_ne (by omega)]
    exact h.rest t ht (by omega)
theorem run_from {P : Program} (u : World) (t e k : Nat) (ht : P.underlying t = some (.slice e)) (he : (P.info? e).map (·.size) = some k) (g n cap i : Nat) (hi : i < cap) (hn : i ≤ n) (_hc : n ≤ cap) :
    (Instr.slice t (.slice (some ⟨g, 0, none⟩) n cap) (some (.int .i64 i)) none none).run P u = .ok (.slice (some ⟨g, i * k, none⟩) (n - i) (cap - i)) u := by
  have ee := elem_of ht
  rw [run_slice_l u t (some ⟨g, 0, none⟩) n cap (by rw [ee]; exact ht) .i64 i (by omega) (by omega), ee, run_sizeOf_info he]
  have : ¬ cap - i = 0 := by omega
  simp [Result.andThen, sliced, Addr.add]
  by_cases h0 : i = 0
  · subst h0; simp
  · rw [if_neg (by omega)]
    by_cases hk : k = 0
    · subst hk; simp
    · rw [if_neg (fun e => (Nat.mul_eq_zero.1 e).elim h0 hk)]
theorem run_upto {P : Program} (u : World) (t e k : Nat) (ht : P.underlying t = some (.slice e)) (he : (P.info? e).map (·.size) = some k) (g n cap i : Nat) (hi : 0 < cap) (hn : i ≤ n) (hc : n ≤ cap) :
    (Instr.slice t (.slice (some ⟨g, 0, none⟩) n cap) none (some (.int .i64 i)) none).run P u = .ok (.slice (some ⟨g, 0, none⟩) i cap) u := by
  have ee := elem_of ht
  rw [run_slice_h u t (some ⟨g, 0, none⟩) n cap (by rw [ee]; exact ht) .i64 i (by omega) (by omega), ee, run_sizeOf_info he]
  have : ¬ cap = 0 := by omega
  simp [Result.andThen, sliced, Addr.add]
theorem run_clear_rows {α : Type} {P : Program} {E : Enc α} (w : World) (t ty : TypeId) (z : Value) (ht : P.underlying t = some (.slice E.e)) (hv : ∀ w, (zeroValue E.e).run P w = .ok z w) (hz : z.cells.toList = E.f E.z) (b o n c : Nat) (hn : 0 < n)
    (hc : ∀ j, j < n * E.k → (w.cell? ⟨b, o + j, none⟩).isSome = true) (hf : ∀ j, j < n * E.k → w.frozen? ⟨b, o + j, none⟩ = false) :
    (Builtin.clear_ #[t] ty #[.slice (some ⟨b, o, none⟩) n c]).run P w = .ok (.tuple #[]) (w.setCells b o (rowOf E (List.replicate n E.z))) := by
  have hzc := rowOf_replicate E n z.cells hz
  have hst := run_storeCells_cells (P := P) b o (rowOf E (List.replicate n E.z)) 0 w (by rw [rowOf_length]; simpa using hc) (by rw [rowOf_length]; simpa using hf) (rowOf_one E _)
  simp only [Nat.add_zero] at hst
  obtain ⟨m, rfl⟩ : ∃ m, n = m + 1 := ⟨n - 1, by omega⟩
  simp [Builtin.clear_, run_underlying ht, hv, hzc, hst]
theorem splice_rows {α : Type} (E : Enc α) (C D : List α) (i : Nat) : splice (rowOf E C) (i * E.k) (rowOf E D) = rowOf E (splice C i D) := by
  unfold splice
  rw [rowOf_take, rowOf_length, ← Nat.add_mul, rowOf_drop, rowOf_append, rowOf_append]
theorem setCells_rows {α : Type} {E : Enc α} {w : World} {g : Nat} {C : List α} (h : Blk w g E.e (0, 0) (rowOf E C)) (i : Nat) (D : List α) (hi : i + D.length ≤ C.length) : Blk (w.setCells g (i * E.k) (rowOf E D)) g E.e (0, 0) (rowOf E (splice C i D)) := by
  have := setCells_blk (rowOf E D) (i * E.k) w h (by rw [rowOf_length, rowOf_length, ← Nat.add_mul]; exact Nat.mul_le_mul_right _ hi)
  rwa [splice_rows] at this
theorem grown_sets (w : World) (g i : Nat) (vs : List Value) : w.grownBy (w.setCells g i vs) (some g) :=
  ⟨setCells_os _ _ _ _, setCells_tape _ _ _ _, setCells_output _ _ _ _, Nat.le_of_eq (setCells_size _ _ _ _).symm, fun k _ hk => setCells_other g (fun e => hk (by rw [e])) _ _ _⟩
theorem size_al (w : World) (o : Obj) : (w.alloc o).heap.size = w.heap.size + 1 := Array.size_push _
theorem kn_zero {w : World} : (zeroValue 34).run Try.prog w = .ok (.agg #[.int .u32 0, .int .i64 0, .int .i64 0, .int .i64 0]) w := by kernel_rfl
set_option maxHeartbeats 8000000 in
set_option maxRecDepth 100000 in
theorem del_any {w : World} {base : Nat} {v : Value} {L : List Kn} (hO : Own knE w base v L) {q : Nat} {y : Int} (hq : w.cell? ⟨q, 0, none⟩ = some (.int .u32 y)) (hv : v.ownBlock ≠ some q) (hl : L.length ≤ 1000000) :
    Calls Try.prog 44 #[v, .func (.func 45) #[] #[.pointer (some ⟨q, 0, none⟩)]] w fun e w' => (∃ v', e = .returned v' ∧ Own knE w' base v' (wo L y) ∧ v'.ownBlock = v.ownBlock) ∧ w.grownBy w' v.ownBlock := by
  obtain ⟨a0, c0, e0, hR⟩ := hO.rd
  subst e0
  have hql := World.block_lt_of_cell? w _ hq
  have hR' := Lib.hid hR
  have hO' := Lib.hid hO
  clear hR hO
  go_enter Try.func44, Try.ntmps44
  go_wp2_with fail
  refine (idx_45 hR'.out hl hq).mono ?_
  rintro e w1 ⟨⟨i0, rfl, hi0⟩, hb1⟩
  rcases hi0 with ⟨rfl, hno⟩ | ⟨k0, hk0, rfl, hy, -, hn⟩
  · have hf : wo L y = L := by
      unfold wo
      rw [List.filter_eq_self]
      intro x hx
      have := List.find?_eq_none.1 hno x hx
      simpa using this
    have hf' := Lib.hid hf
    clear hf hno
    go_wp2_with fail
    go_ret
    refine ⟨⟨_, rfl, ?_, rfl⟩, grown_below hb1⟩
    rw [hf'.out]
    exact hO'.out.ext hb1
  · rcases hO'.out.ext hb1 with ⟨_, rfl⟩ | ⟨g, cap, X, e1, hbg, hB, hX, hle, hcm, htk⟩
    · exact absurd hk0 (Nat.not_lt_zero _)
    simp only [Value.slice.injEq, true_and] at e1
    obtain ⟨rfl, rfl⟩ := e1
    have hgq : g ≠ q := fun e => hv (by simp [Value.ownBlock, e])
    have hqw : w1.cell? ⟨q, 0, none⟩ = some (.int .u32 y) := (World.cell?_of_block (w := w) (hb1.block q hql)).trans hq
    have hg1 := Lib.hid (grown_below (row := some g) hb1)
    have hS := Lib.hid (DelS.start hX hk0 htk hy hn)
    have hB' := Lib.hid hB
    have hqw' := Lib.hid hqw
    clear hn hy hB htk hX hqw hq hb1 hR'
    have hkI : ((k0 : Int) == -1) = false := by rw [beq_eq_false_iff_ne]; omega
    go_wp2_with fail
    go_loopw [5, 6, 7] (fun i j y' wr => ∃ (i' j' : Nat) (C : List Kn), i = .int .i64 i' ∧ j = .int .i64 j' ∧ DelS L C y c0 i' j' ∧ Hid (Blk wr g 34 (0, 0) (rowOf knE C)) ∧ w1.grownBy wr (some g))
      (fun _ j _ _ => L.length - (intOf j).toNat)
    case atStart => exact ⟨k0, k0 + 1, X, rfl, by go_num, hS.out, hB', grown_refl _ _⟩
    case round =>
      clear hS hB'
      obtain ⟨i, j, C, rfl, rfl, hD, hB, hg⟩ := hrel
      have h1 := hD.lt
      have h2 := hD.le
      have h3 := hD.len
      have hqr : wr.cell? ⟨q, 0, none⟩ = some (.int .u32 y) := (World.cell?_of_block (w := w1) (hg.block q (World.block_lt_of_cell? w1 _ hqw'.out) (fun e => hgq (by cases e; rfl)))).trans hqw'.out
      have hD' := Lib.hid hD
      have hqr' := Lib.hid hqr
      clear hD hqr
      by_cases hlt : j < L.length
      · have hjI : (j : Int) < L.length := by omega
        have hjc : j < C.length := by omega
        have hCj : C[j] = L[j] := by
          have := hD'.out.rest j hlt (Nat.le_refl _)
          rw [List.getElem?_eq_getElem hjc] at this
          exact Option.some.inj this
        obtain ⟨hc0, hc1, hc2, hc3⟩ := blk_kn hB.out j hjc
        obtain ⟨x, hx⟩ : ∃ x, Hid (L[j] = x) := ⟨_, Lib.hid rfl⟩
        rw [hCj, hx.out] at hc0 hc1 hc2 hc3
        have hgs := Lib.hid hB.out.lt
        go_wp2_with fail
        refine (same_45 x (Lib.cell?_alloc_some _ hqr'.out)).mono ?_
        rintro e w2 ⟨rfl, hb2⟩
        have hb3 : Below wr.heap.size wr w2 := ((Below.refl _ _).alloc (Nat.le_refl _) _).trans (hb2.mono (size_al _ _ ▸ Nat.le_succ _))
        have hn2 : w2.heap[wr.heap.size]? = (wr.alloc (Obj.cells #[Value.int IntKind.u32 x.a, Value.int IntKind.i64 x.t, Value.int IntKind.i64 x.f, Value.int IntKind.i64 x.g] 34)).heap[wr.heap.size]? := hb2.block _ (size_al _ _ ▸ Nat.lt_succ_self _)
        have hN : Blk w2 wr.heap.size 34 (0, 0) [Value.int IntKind.u32 x.a, Value.int IntKind.i64 x.t, Value.int IntKind.i64 x.f, Value.int IntKind.i64 x.g] := hn2.trans (Blk.new wr 34 (0, 0) _)
        have hd0 : w2.cell? ⟨wr.heap.size, 0, none⟩ = some (.int .u32 x.a) := hN.cell 0
        have hd1 : w2.cell? ⟨wr.heap.size, 1, none⟩ = some (.int .i64 x.t) := hN.cell 1
        have hd2 : w2.cell? ⟨wr.heap.size, 2, none⟩ = some (.int .i64 x.f) := hN.cell 2
        have hd3 : w2.cell? ⟨wr.heap.size, 3, none⟩ = some (.int .i64 x.g) := hN.cell 3
        have hB2 : Hid (Blk w2 g 34 (0, 0) (rowOf knE C)) := Lib.hid (hB.out.below hb3 hgs.out)
        have hg2 : Hid (w1.grownBy w2 (some g)) := Lib.hid (grown_tr hg (grown_below hb3))
        clear hb3 hn2 hN hb2 hc0 hc1 hc2 hc3
        by_cases hxy : x.a = y
        · rw [decide_eq_true hxy]
          have hD2 := Lib.hid (hD'.out.skip hlt (by rw [hx.out]; exact hxy))
          clear hxy
          go_wp2_with fail
          go_roundw
          case rel => exact ⟨i, j + 1, C, rfl, by go_num, hD2.out, hB2, hg2.out⟩
          case measure => simp [intOf]; omega
        · rw [decide_eq_false hxy]
          have hD2 := Lib.hid (hD'.out.keep hlt hle (by rw [hx.out]; exact hxy))
          rw [hx.out] at hD2
          clear hxy
          have hic : i < C.length := by omega
          obtain ⟨hs0, hs1, hs2, hs3⟩ := blk_kn hB2.out i hic
          have hf0 : ∀ j, w2.frozen? ⟨g, j, none⟩ = false := fun j => by rw [hB2.out.frozen]; simp
          have hf1 := hf0 (i * 4)
          have hf2 := hf0 (i * 4 + 1)
          have hf3 := hf0 (i * 4 + 2)
          have hf4 := hf0 (i * 4 + 3)
          clear hf0
          have hB3 := Lib.hid (blk_set4 hB2.out i hic x)
          have hg3 := Lib.hid (grown_tr hg2.out (grown_set4 w2 g (i * 4) (.int .u32 x.a) (.int .i64 x.t) (.int .i64 x.f) (.int .i64 x.g)))
          have hiI : (i : Int) < L.length := by omega
          go_wp2_with fail
          go_roundw
          case rel => exact ⟨i + 1, j + 1, C.set i x, by go_num, by go_num, hD2.out, hB3, hg3.out⟩
          case measure => simp [intOf]; omega
      · have hjl : j = L.length := by omega
        subst hjl
        have r1 := fun u => run_from (P := Try.prog) u 31 34 4 Try.underlying31 (by kernel_rfl) g L.length c0 i (by omega) (by omega) hle
        have r2 := fun u => run_upto (P := Try.prog) u 31 34 4 Try.underlying31 (by kernel_rfl) g L.length c0 i (by omega) (by omega) hle
        have r3 := fun ty => run_clear_rows (P := Try.prog) (E := knE) wr 31 ty _ Try.underlying31 (fun w => kn_zero) rfl g (i * 4) (L.length - i) (c0 - i) (by omega)
          (fun k hk => by rw [hB.out.cell, List.getElem?_eq_getElem (by rw [rowOf_length]; simp only [knE] at hk ⊢; omega)]; rfl) (fun k _ => by rw [hB.out.frozen]; simp)
        have hB2 : Hid (Blk (wr.setCells g (i * 4) (rowOf knE (List.replicate (L.length - i) knE.z))) g 34 (0, 0) (rowOf knE (splice C i (List.replicate (L.length - i) knE.z)))) := Lib.hid (setCells_rows hB.out i _ (by simp; omega))
        have hg2 := Lib.hid (grown_sets wr g (i * 4) (rowOf knE (List.replicate (L.length - i) knE.z)))
        generalize wr.setCells g (i * 4) (rowOf knE (List.replicate (L.length - i) knE.z)) = w2 at *
        go_wp2_with fail
        go_ret
        have hkp := hD'.out.kept
        rw [List.take_of_length_le (Nat.le_refl _)] at hkp
        have hil : (wo L y).length = i := by rw [← hkp, List.length_take]; omega
        refine ⟨⟨_, rfl, .inr ⟨g, c0, splice C i (List.replicate (L.length - i) knE.z), by rw [hil]; rfl, hbg, hB2.out, ?_, by omega, hcm, ?_⟩, rfl⟩, grown_tr hg1.out (grown_tr hg hg2.out)⟩
        · unfold splice; simp; omega
        · rw [hil, ← hkp]
          unfold splice
          rw [List.take_left' (by rw [List.length_take]; omega)]
end Go.Proofs.Ytjkeijjfjbcaiaa
