/- slices.DeleteFunc 56 with opt 49 on records of the call's own. -/
import Derived.Test.YthgnlbdolilklaaCpM
import Derived.Lib.SliceRun
namespace Go.Proofs.Ythgnlbdolilklaa
open Go Go.RowKit
section
variable {α : Type} {p : α → Bool}
theorem first_of (L : List α) : (∀ x ∈ L, p x = false) ∨ ∃ k, ∃ h : k < L.length, p L[k] = true ∧ ∀ j, (hj : j < k) → p L[j] = false := by
  induction L with
  | nil => exact .inl fun x hx => by cases hx
  | cons y r ih =>
    cases hy : p y with
    | true => exact .inr ⟨0, by simp, by simpa using hy, fun j hj => by omega⟩
    | false =>
      rcases ih with ih | ⟨k, h, h1, h2⟩
      · refine .inl fun x hx => ?_
        rcases List.mem_cons.1 hx with rfl | hx
        · exact hy
        · exact ih x hx
      · refine .inr ⟨k + 1, by simp; omega, by simpa using h1, fun j hj => ?_⟩
        cases j with
        | zero => simpa using hy
        | succ j => simpa using h2 j (by omega)
/-- what stands in the row once j places are gone through and i are kept -/
structure DelS (p : α → Bool) (L C : List α) (cap i j : Nat) : Prop where
  len : C.length = cap
  lt : i < j
  le : j ≤ L.length
  kept : C.take i = (L.take j).filter fun x => !p x
  rest : ∀ t (h : t < L.length) , j ≤ t → C[t]? = some L[t]
theorem DelS.start {L X : List α} {cap k : Nat} (hX : X.length = cap) (hk : k < L.length) (ht : X.take L.length = L) (hy : p L[k] = true) (hn : ∀ j, (hj : j < k) → p L[j] = false) : DelS p L X cap k (k + 1) := by
  have hg : ∀ t (h : t < L.length), X[t]? = some L[t] := fun t h => by
    have e : X[t]? = (X.take L.length)[t]? := by rw [List.getElem?_take, if_pos h]
    rw [e, ht, List.getElem?_eq_getElem h]
  refine ⟨hX, Nat.lt_succ_self _, hk, ?_, fun t h _ => hg t h⟩
  have e1 : X.take k = L.take k := by
    have := congrArg (List.take k) ht
    rwa [List.take_take, Nat.min_eq_left (by omega)] at this
  rw [e1, List.take_succ_eq_append_getElem hk, List.filter_append]
  have e2 : (L.take k).filter (fun x => !p x) = L.take k := by
    rw [List.filter_eq_self]
    intro x hx
    obtain ⟨j, hj, rfl⟩ := List.getElem_of_mem hx
    have hj' : j < k := by simp at hj; omega
    simpa using hn j hj'
  rw [e2]
  simp [hy]
theorem DelS.skip {L C : List α} {cap i j : Nat} (h : DelS p L C cap i j) (hj : j < L.length) (hy : p L[j] = true) : DelS p L C cap i (j + 1) := by
  refine ⟨h.len, by have := h.lt; omega, hj, ?_, fun t ht hl => h.rest t ht (by omega)⟩
  rw [h.kept, List.take_succ_eq_append_getElem hj, List.filter_append]
  simp [hy]
theorem DelS.keep {L C : List α} {cap i j : Nat} (h : DelS p L C cap i j) (hj : j < L.length) (hc : L.length ≤ cap) (hy : p L[j] = false) : DelS p L (C.set i L[j]) cap (i + 1) (j + 1) := by
  have h1 := h.lt
  have h2 := h.len
  refine ⟨by simpa using h2, by omega, hj, ?_, fun t ht hl => ?_⟩
  · rw [List.take_succ_eq_append_getElem (by simp; omega), List.take_set_of_le (Nat.le_refl _), h.kept, List.take_succ_eq_append_getElem hj, List.filter_append]
    simp [hy]
  · rw [List.getElem?_set_ne (by omega)]
    exact h.rest t ht (by omega)
end
theorem rowOf_splice {α : Type} (E : Enc α) (C R : List α) (i : Nat) : splice (rowOf E C) (i * E.k) (rowOf E R) = rowOf E (splice C i R) := by
  unfold splice
  rw [rowOf_append, rowOf_append, rowOf_take, rowOf_length, ← Nat.add_mul, rowOf_drop]
theorem rowOf_set {α : Type} (E : Enc α) (C : List α) (i : Nat) (x : α) (h : i < C.length) : splice (rowOf E C) (i * E.k) (E.f x) = rowOf E (C.set i x) := by
  have e : E.f x = rowOf E [x] := by simp [rowOf]
  rw [e, rowOf_splice]
  congr 1
  rw [← splice_cons C i x [] h]
  simp [splice]
theorem run_from_k {P : Program} (u : World) (t e : TypeId) (ht : P.underlying t = some (.slice e)) {s : Nat} (he : (P.info? e).map (·.size) = some s) (g n cap i : Nat) (hi : i < cap) (hn : i ≤ n) (_hc : n ≤ cap) :
    (Instr.slice t (.slice (some ⟨g, 0, none⟩) n cap) (some (.int .i64 i)) none none).run P u = .ok (.slice (some ⟨g, i * s, none⟩) (n - i) (cap - i)) u := by
  have ee := elem_of ht
  rw [run_slice_l u t (some ⟨g, 0, none⟩) n cap (by rw [ee]; exact ht) .i64 i (by omega) (by omega), ee, run_sizeOf_info he]
  have : ¬ cap - i = 0 := by omega
  simp [Result.andThen, sliced, Addr.add]
  by_cases h0 : i * s = 0
  · rw [if_neg (by omega), if_pos h0, h0]
  · rw [if_neg (by omega), if_neg h0]
theorem run_upto_k {P : Program} (u : World) (t e : TypeId) (ht : P.underlying t = some (.slice e)) {s : Nat} (he : (P.info? e).map (·.size) = some s) (g n cap i : Nat) (hi : 0 < cap) (hn : i ≤ n) (hc : n ≤ cap) :
    (Instr.slice t (.slice (some ⟨g, 0, none⟩) n cap) none (some (.int .i64 i)) none).run P u = .ok (.slice (some ⟨g, 0, none⟩) i cap) u := by
  have ee := elem_of ht
  rw [run_slice_h u t (some ⟨g, 0, none⟩) n cap (by rw [ee]; exact ht) .i64 i (by omega) (by omega), ee, run_sizeOf_info he]
  have : ¬ cap = 0 := by omega
  simp [Result.andThen, sliced, Addr.add]
/-- clear(s), whatever the elements are -/
theorem run_clear_any {α : Type} {P : Program} (E : Enc α) (w : World) (t ty : TypeId) (z : Value) (ht : P.underlying t = some (.slice E.e)) (hv : ∀ w, (zeroValue E.e).run P w = .ok z w) (hz : z.cells.toList = E.f E.z) (b o n c : Nat) (hn : 0 < n)
    (hc : ∀ j, j < n * E.k → (w.cell? ⟨b, o + j, none⟩).isSome = true) (hf : ∀ j, j < n * E.k → w.frozen? ⟨b, o + j, none⟩ = false) :
    (Builtin.clear_ #[t] ty #[.slice (some ⟨b, o, none⟩) n c]).run P w = .ok (.tuple #[]) (w.setCells b o (rowOf E (List.replicate n E.z))) := by
  have hzc := rowOf_replicate E n z.cells hz
  have hst := run_storeCells_cells (P := P) b o (rowOf E (List.replicate n E.z)) 0 w (by rw [rowOf_length, List.length_replicate]; simpa using hc) (by rw [rowOf_length, List.length_replicate]; simpa using hf) (rowOf_one E _)
  simp only [Nat.add_zero] at hst
  obtain ⟨m, rfl⟩ : ∃ m, n = m + 1 := ⟨n - 1, by omega⟩
  simp [Builtin.clear_, run_underlying ht, hv, hzc, hst]
def isOpt (q : RD) : Bool := q.ty == 41
theorem idxF_cases (L : List RD) : ((∀ x ∈ L, isOpt x = false) ∧ idxF L 0 = -1) ∨ ∃ k, ∃ h : k < L.length, isOpt L[k] = true ∧ (∀ j, (hj : j < k) → isOpt L[j] = false) ∧ idxF L 0 = k := by
  rcases first_of (p := isOpt) L with h | ⟨k, hk, h1, h2⟩
  · exact .inl ⟨h, idxF_none fun j hj => h _ (List.getElem_mem hj)⟩
  · exact .inr ⟨k, hk, h1, h2, idxF_at hk (fun j hj hjk => h2 j hjk) h1⟩
theorem rec_cells {wr : World} {g : Nat} {C : List RD} {fz : Nat × Nat} (hB : Blk wr g 37 fz (rowOf recE C)) {j : Nat} {x : RD} (hx : C[j]? = some x) {i : Nat} {v : Value} (hv : x.cells[i]? = some v) : wr.cell? ⟨g, j * 8 + i, none⟩ = some v := by
  obtain ⟨hj, e⟩ := List.getElem?_eq_some_iff.1 hx
  have hi : i < 8 := (List.getElem?_eq_some_iff.1 hv).1
  rw [hB.cell, show j * 8 + i = j * recE.k + i from rfl, rowOf_get recE C j i hj hi, e]
  exact hv
theorem there_row {w : World} {g : Nat} {C : List RD} (h : Blk w g 37 (0, 0) (rowOf recE C)) {o n : Nat} (hn : o + n ≤ C.length * 8) : w.there g o n := by
  intro j hj
  refine ⟨?_, by rw [h.frozen]; simp⟩
  rw [h.cell, List.getElem?_eq_getElem (by rw [rowOf_length]; show o + j < C.length * 8; omega)]
  rfl
set_option maxHeartbeats 8000000 in
set_option maxRecDepth 100000 in
theorem del_recs {w : World} {base : Nat} {v : Value} {L : List RD} (hO : Own recE w base v L) (hl : L.length ≤ 1000000000) :
    Calls Try.prog 56 #[v, .func (.func 49) #[] #[]] w fun e w' => (∃ v', e = .returned v' ∧ Own recE w' base v' (L.filter fun x => !isOpt x) ∧ v'.ownBlock = v.ownBlock) ∧ w.grownBy w' v.ownBlock := by
  obtain ⟨a0, c0, e0, hR⟩ := hO.rd
  subst e0
  have hidx := Lib.hid (idx_any hR (by omega))
  rcases idxF_cases L with ⟨hno, hi⟩ | ⟨k0, hk0, hy, hn, hi⟩
  · have hf : (L.filter fun x => !isOpt x) = L := by
      rw [List.filter_eq_self]
      intro x hx
      simpa using hno x hx
    have hO' := Lib.hid hO
    have hf' := Lib.hid hf
    rw [hi] at hidx
    clear hO hno hR hf hi
    go_enter Try.func56, Try.ntmps56
    go_wp2_with fail
    refine hidx.out.mono ?_
    rintro e w1 ⟨rfl, hb⟩
    have hb' := Lib.hid hb
    clear hb
    go_wp2_with fail
    go_ret
    refine ⟨⟨_, rfl, ?_, rfl⟩, grown_of_below hb'.out⟩
    rw [hf'.out]
    exact hO'.out.ext hb'.out
  · rcases hO with ⟨_, rfl⟩ | ⟨g, cap, X, e1, hbg, hB, hX, hle, hcm, htk, -⟩
    · exact absurd hk0 (Nat.not_lt_zero _)
    simp only [Value.slice.injEq, true_and] at e1
    obtain ⟨rfl, rfl⟩ := e1
    have hS := Lib.hid (DelS.start hX hk0 htk hy hn)
    have hB' := Lib.hid hB
    rw [hi] at hidx
    clear hR hn hy hB htk hX hi
    go_enter Try.func56, Try.ntmps56
    go_wp2_with fail
    refine hidx.out.mono ?_
    rintro e w1 ⟨rfl, hb1⟩
    have hB1 : Hid (Blk w1 g 37 (0, 0) (rowOf recE X)) := Lib.hid (hB'.out.below hb1 hB'.out.lt)
    have hg1 := Lib.hid (grown_of_below (r := some g) hb1)
    have hkI : ((k0 : Int) == -1) = false := by rw [beq_eq_false_iff_ne]; omega
    clear hidx hb1 hB'
    go_wp2_with fail
    go_loopw [5, 6] (fun i j wr => ∃ (i' j' : Nat) (C : List RD), i = .int .i64 i' ∧ j = .int .i64 j' ∧ DelS isOpt L C c0 i' j' ∧ Hid (Blk wr g 37 (0, 0) (rowOf recE C)) ∧ Hid (w.grownBy wr (some g)))
      (fun _ j _ => L.length - (intOf j).toNat)
    case atStart => exact ⟨k0, k0 + 1, X, rfl, by go_num, hS.out, hB1, hg1⟩
    case round =>
      clear hS hB1 hg1
      obtain ⟨i, j, C, rfl, rfl, hD, hB, hg⟩ := hrel
      have h1 := hD.lt
      have h2 := hD.le
      have h3 := hD.len
      have hD' := Lib.hid hD
      clear hD
      by_cases hlt : j < L.length
      · have hjI : (j : Int) < L.length := by omega
        have hCj := hD'.out.rest j hlt (Nat.le_refl _)
        obtain ⟨x, hx⟩ : ∃ x, Hid (L[j] = x) := ⟨_, Lib.hid rfl⟩
        rw [hx.out] at hCj
        have hck := fun i' v' (h : x.cells[i']? = some v') => rec_cells hB.out hCj h
        obtain ⟨oa, on, oc, ty, cl, ttl, ma, mn, mc, ua, un, uc, xa, xn, xc, ra, rn, rc⟩ := x
        have c0' : wr.cell? ⟨g, j * 8, none⟩ = some (.slice oa on oc) := hck 0 _ rfl
        have c1 : wr.cell? ⟨g, j * 8 + 1, none⟩ = some (.int .u16 ty) := hck 1 _ rfl
        have c2 : wr.cell? ⟨g, j * 8 + 2, none⟩ = some (.int .u16 cl) := hck 2 _ rfl
        have c3 : wr.cell? ⟨g, j * 8 + 3, none⟩ = some (.int .u32 ttl) := hck 3 _ rfl
        have c4 : wr.cell? ⟨g, j * 8 + 4, none⟩ = some (.slice ma mn mc) := hck 4 _ rfl
        have c5 : wr.cell? ⟨g, j * 8 + 5, none⟩ = some (.slice ua un uc) := hck 5 _ rfl
        have c6 : wr.cell? ⟨g, j * 8 + 6, none⟩ = some (.slice xa xn xc) := hck 6 _ rfl
        have c7 : wr.cell? ⟨g, j * 8 + 7, none⟩ = some (.slice ra rn rc) := hck 7 _ rfl
        clear hck hCj
        obtain ⟨W5, hW5⟩ : ∃ W, wr.alloc (.cells #[.slice none 0 0, .int .u16 0, .int .u16 0, .int .u32 0, .slice none 0 0, .slice none 0 0, .slice none 0 0, .slice none 0 0] 37) = W := ⟨_, rfl⟩
        have hN5 : Hid (Blk W5 wr.heap.size 37 (0, 0) [.slice none 0 0, .int .u16 0, .int .u16 0, .int .u32 0, .slice none 0 0, .slice none 0 0, .slice none 0 0, .slice none 0 0]) := Lib.hid (by rw [← hW5]; exact Blk.new wr 37 (0, 0) #[.slice none 0 0, .int .u16 0, .int .u16 0, .int .u32 0, .slice none 0 0, .slice none 0 0, .slice none 0 0, .slice none 0 0])
        have hk5 : Hid (Below wr.heap.size wr W5) := Lib.hid (by rw [← hW5]; exact alloc_bel _ _)
        go_upto_region 8 with (refine store_whole rfl 37 (.tmp 7) (.tmp 25) rfl rfl rfl hN5.out (by rfl) (by kernel_rfl) (by kernel_rfl) ?_; intro w5 hB6 hg6 hz6; have hR5 := Lib.hid hB6; have hkR := Lib.hid (fresh_store hk5.out hg6); clear hB6 hg6 hz6)
        clear hW5 hN5 hk5 c0' c1 c2 c3 c4 c5 c6 c7
        have d0 : w5.cell? ⟨wr.heap.size, 0, none⟩ = some (.slice oa on oc) := (hR5.out.cell 0).trans rfl
        have d1 : w5.cell? ⟨wr.heap.size, 1, none⟩ = some (.int .u16 ty) := (hR5.out.cell 1).trans rfl
        have d2 : w5.cell? ⟨wr.heap.size, 2, none⟩ = some (.int .u16 cl) := (hR5.out.cell 2).trans rfl
        have d3 : w5.cell? ⟨wr.heap.size, 3, none⟩ = some (.int .u32 ttl) := (hR5.out.cell 3).trans rfl
        have d4 : w5.cell? ⟨wr.heap.size, 4, none⟩ = some (.slice ma mn mc) := (hR5.out.cell 4).trans rfl
        have d5 : w5.cell? ⟨wr.heap.size, 5, none⟩ = some (.slice ua un uc) := (hR5.out.cell 5).trans rfl
        have d6 : w5.cell? ⟨wr.heap.size, 6, none⟩ = some (.slice xa xn xc) := (hR5.out.cell 6).trans rfl
        have d7 : w5.cell? ⟨wr.heap.size, 7, none⟩ = some (.slice ra rn rc) := (hR5.out.cell 7).trans rfl
        have ho : Hid (Calls Try.prog 49 #[.agg #[.slice oa on oc, .int .u16 ty, .int .u16 cl, .int .u32 ttl, .slice ma mn mc, .slice ua un uc, .slice xa xn xc, .slice ra rn rc]] w5 fun e w' => e = .returned (.bool (ty == 41)) ∧ Below w5.heap.size w5 w') := Lib.hid (opt_any ⟨oa, on, oc, ty, cl, ttl, ma, mn, mc, ua, un, uc, xa, xn, xc, ra, rn, rc⟩ w5)
        go_wp2_with fail
        refine ho.out.mono ?_
        rintro e w6 ⟨rfl, hb6⟩
        have hk6 := Lib.hid (hkR.out.trans (hb6.mono hkR.out.size))
        have hR6 := Lib.hid (hR5.out.below hb6 hR5.out.lt)
        have hB6 := Lib.hid (hB.out.below hk6.out hB.out.lt)
        have hg6 := Lib.hid (grown_trans hg.out (grown_of_below (r := some g) hk6.out))
        clear hb6 ho d0 d1 d2 d3 d4 d5 d6 d7 hR5 hB hg hkR hk6
        cases hy : (ty == 41) with
        | true =>
          have hD2 := Lib.hid (hD'.out.skip hlt (by rw [hx.out]; exact hy))
          clear hy
          go_wp2_with fail
          go_roundw
          case rel => exact ⟨i, j + 1, C, rfl, by go_num, hD2.out, hB6, hg6⟩
          case measure => simp [intOf]; omega
        | false =>
          have hD2 := Lib.hid (hD'.out.keep hlt hle (by rw [hx.out]; exact hy))
          rw [hx.out] at hD2
          clear hy
          have d0 : w6.cell? ⟨wr.heap.size, 0, none⟩ = some (.slice oa on oc) := (hR6.out.cell 0).trans rfl
          have d1 : w6.cell? ⟨wr.heap.size, 1, none⟩ = some (.int .u16 ty) := (hR6.out.cell 1).trans rfl
          have d2 : w6.cell? ⟨wr.heap.size, 2, none⟩ = some (.int .u16 cl) := (hR6.out.cell 2).trans rfl
          have d3 : w6.cell? ⟨wr.heap.size, 3, none⟩ = some (.int .u32 ttl) := (hR6.out.cell 3).trans rfl
          have d4 : w6.cell? ⟨wr.heap.size, 4, none⟩ = some (.slice ma mn mc) := (hR6.out.cell 4).trans rfl
          have d5 : w6.cell? ⟨wr.heap.size, 5, none⟩ = some (.slice ua un uc) := (hR6.out.cell 5).trans rfl
          have d6 : w6.cell? ⟨wr.heap.size, 6, none⟩ = some (.slice xa xn xc) := (hR6.out.cell 6).trans rfl
          have d7 : w6.cell? ⟨wr.heap.size, 7, none⟩ = some (.slice ra rn rc) := (hR6.out.cell 7).trans rfl
          have hth : Hid (w6.there g (i * 8) 8) := Lib.hid (there_row hB6.out (by omega))
          have hB8 : Hid (Blk (w6.setCells g (i * 8) [.slice oa on oc, .int .u16 ty, .int .u16 cl, .int .u32 ttl, .slice ma mn mc, .slice ua un uc, .slice xa xn xc, .slice ra rn rc]) g 37 (0, 0) (rowOf recE (C.set i ⟨oa, on, oc, ty, cl, ttl, ma, mn, mc, ua, un, uc, xa, xn, xc, ra, rn, rc⟩))) := Lib.hid (by
            have := setCells_blk (recE.f ⟨oa, on, oc, ty, cl, ttl, ma, mn, mc, ua, un, uc, xa, xn, xc, ra, rn, rc⟩) (i * 8) w6 hB6.out (by rw [rowOf_length, recE.len]; show i * 8 + 8 ≤ C.length * 8; omega)
            rw [show i * 8 = i * recE.k from rfl, rowOf_set recE C i _ (by omega)] at this
            exact this)
          have hg8 : Hid (w6.grownBy (w6.setCells g (i * 8) [.slice oa on oc, .int .u16 ty, .int .u16 cl, .int .u32 ttl, .slice ma mn mc, .slice ua un uc, .slice xa xn xc, .slice ra rn rc]) (some g)) := Lib.hid ⟨setCells_os _ _ _ _, setCells_tape _ _ _ _, setCells_output _ _ _ _, Nat.le_of_eq (setCells_size _ _ _ _).symm, fun k _ hk => setCells_other g (fun e => hk (by rw [e])) _ _ _⟩
          obtain ⟨w8, hw8⟩ : ∃ W, w6.setCells g (i * 8) [.slice oa on oc, .int .u16 ty, .int .u16 cl, .int .u32 ttl, .slice ma mn mc, .slice ua un uc, .slice xa xn xc, .slice ra rn rc] = W := ⟨_, rfl⟩
          rw [hw8] at hB8 hg8
          have hg9 := Lib.hid (grown_trans hg6.out hg8.out)
          have hw8' := Lib.hid hw8
          clear hw8 hg8
          go_upto_region 10 with (refine wpList_store_mid rfl 37 (.tmp 33) (.tmp 32) rfl g (i * 8) _ (by first | rfl | (simp; done)) rfl hth.out (by kernel_rfl) (by kernel_rfl) ?_; dsimp only; rw [hw8'.out])
          go_wp2_with fail
          go_roundw
          case rel => exact ⟨i + 1, j + 1, _, by go_num, by go_num, hD2.out, hB8, hg9⟩
          case measure => simp [intOf]; omega
      · have hjl : j = L.length := by omega
        subst hjl
        have r1 := fun u => run_from_k (P := Try.prog) u 55 37 Try.underlying55 (s := 8) (by kernel_rfl) g L.length c0 i (by omega) (by omega) hle
        have r2 := fun u => run_upto_k (P := Try.prog) u 55 37 Try.underlying55 (s := 8) (by kernel_rfl) g L.length c0 i (by omega) (by omega) hle
        have r3 := fun ty => run_clear_any (P := Try.prog) recE wr 55 ty (.agg #[.slice none 0 0, .int .u16 0, .int .u16 0, .int .u32 0, .slice none 0 0, .slice none 0 0, .slice none 0 0, .slice none 0 0]) Try.underlying55 (fun _ => by kernel_rfl) rfl g (i * 8) (L.length - i) (c0 - i) (by omega)
          (fun k hk => ((there_row hB.out (n := (L.length - i) * 8) (o := i * 8) (by omega)) k hk).1) (fun k hk => ((there_row hB.out (n := (L.length - i) * 8) (o := i * 8) (by omega)) k hk).2)
        have hB2 : Hid (Blk (wr.setCells g (i * 8) (rowOf recE (List.replicate (L.length - i) recE.z))) g 37 (0, 0) (rowOf recE (splice C i (List.replicate (L.length - i) recE.z)))) := Lib.hid (by
          have := setCells_blk (rowOf recE (List.replicate (L.length - i) recE.z)) (i * 8) wr hB.out (by rw [rowOf_length, rowOf_length, List.length_replicate]; show i * 8 + (L.length - i) * 8 ≤ C.length * 8; omega)
          rw [show i * 8 = i * recE.k from rfl, rowOf_splice] at this
          exact this)
        have hg2 : Hid (wr.grownBy (wr.setCells g (i * 8) (rowOf recE (List.replicate (L.length - i) recE.z))) (some g)) := Lib.hid ⟨setCells_os _ _ _ _, setCells_tape _ _ _ _, setCells_output _ _ _ _, Nat.le_of_eq (setCells_size _ _ _ _).symm, fun k _ hk => setCells_other g (fun e => hk (by rw [e])) _ _ _⟩
        generalize wr.setCells g (i * 8) (rowOf recE (List.replicate (L.length - i) recE.z)) = w2 at *
        go_wp2_with fail
        go_ret
        have hkp := hD'.out.kept
        rw [List.take_of_length_le (Nat.le_refl _)] at hkp
        have hil : (L.filter fun x => !isOpt x).length = i := by rw [← hkp, List.length_take]; omega
        refine ⟨⟨_, rfl, .inr ⟨g, c0, splice C i (List.replicate (L.length - i) recE.z), by rw [hil]; rfl, hbg, hB2.out, ?_, by omega, hcm, ?_, fun x _ => .inr (fun v hv b e => by simp [recE, RD.cells, rC] at hv; rcases hv with rfl | rfl | rfl | rfl | rfl | rfl | rfl | rfl <;> cases e)⟩, rfl⟩, grown_trans hg.out hg2.out⟩
        · unfold splice; simp; omega
        · rw [hil, ← hkp]
          unfold splice
          rw [List.take_left' (by rw [List.length_take]; omega)]
end Go.Proofs.Ythgnlbdolilklaa
