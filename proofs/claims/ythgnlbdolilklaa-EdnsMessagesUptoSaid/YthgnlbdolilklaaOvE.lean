/- What was told is written over: OverBytes of an own slice, OverTexts 47 and OverData 18 of nothing but bytes, over 17. -/
import Derived.Test.YthgnlbdolilklaaCpE
import Derived.Test.YthgnlbdolilklaaStH
namespace Go.Proofs.Ythgnlbdolilklaa
open Go Go.RowKit
theorem blk_cells {w : World} {k : Nat} {e e' : TypeId} {fz fz' : Nat × Nat} {C C' : List Value} (h : Blk w k e fz C) (h' : Blk w k e' fz' C') : C = C' := by
  unfold Blk at h h'
  have h3 := h.symm.trans h'
  simp at h3
  exact h3.1
theorem own_other {w w' : World} {base g : Nat} {X Y : List UInt8} (hB : Blk w g 5 (0, 0) (u8s X)) (hB' : Blk w' g 5 (0, 0) (u8s Y)) (hl : Y.length = X.length) (hg : w.grownBy w' (some g)) {u : Value} {m : List UInt8} (h : Own byteE w base u m) : ∃ m', Own byteE w' base u m' ∧ m'.length = m.length := by
  rcases h with ⟨rfl, rfl⟩ | ⟨g', cap, Z, rfl, h1, h2, h3, h4, h5, h6, h7⟩
  · exact ⟨[], Own.nil _ _ _, rfl⟩
  · by_cases e : g' = g
    · subst e
      rw [rowOf_byte] at h2
      have e2 : (u8s Z).length = (u8s X).length := by rw [blk_cells h2 hB]
      have e3 : Z.length = X.length := by simpa [u8s] using e2
      have e4 : (Y.take m.length).length = m.length := by rw [List.length_take]; omega
      refine ⟨Y.take m.length, .inr ⟨g', cap, Y, by rw [e4], h1, by rw [rowOf_byte]; exact hB', by omega, by omega, h5, by rw [e4], fun x _ => .inr (fun v hv b e => by simp [byteE] at hv; subst hv; cases e)⟩, e4⟩
    · exact ⟨m, .inr ⟨g', cap, Z, rfl, h1, (hg.block _ h2.lt (fun x => e (Option.some.inj x))).trans h2, h3, h4, h5, h6, h7⟩, rfl⟩
theorem over_own2 {w : World} {base : Nat} {v : Value} {l : List UInt8} (ho : Own byteE w base v l) :
    Calls Try.prog 46 #[v] w fun e w' => e = .returned (.tuple #[]) ∧ w.grownBy w' v.ownBlock ∧ ∀ (u : Value) (m : List UInt8), Own byteE w base u m → ∃ m', Own byteE w' base u m' := by
  rcases ho with ⟨rfl, rfl⟩ | ⟨g, cap, X, rfl, h1, h2, h3, h4, h5, h6, -⟩
  · refine (over_none none).mono ?_
    rintro e w' ⟨rfl, rfl⟩
    exact ⟨rfl, ⟨rfl, rfl, rfl, Nat.le_refl _, fun _ _ _ => rfl⟩, fun u m h => ⟨m, h⟩⟩
  · rw [rowOf_byte] at h2
    have h2' : Blk w g 5 (0, 0) (u8s X) := h2
    refine (over_bytes (C1 := []) (C2 := []) (X := X) (by simpa using h2') rfl h3 h4 (by simpa [maxLen] using h5) (fun j _ => by simp)).mono ?_
    rintro e w' ⟨rfl, hB, hg⟩
    refine ⟨rfl, hg, fun u m h => ?_⟩
    obtain ⟨m', h7, _⟩ := own_other h2 (by simpa using hB) (by simp [x5s]) hg h
    exact ⟨m', h7⟩
theorem over_texts_nil (w : World) : Calls Try.prog 47 #[.slice none 0 0] w fun e w' => e = .returned (.tuple #[]) ∧ w = w' := by
  go_enter Try.func47, Try.ntmps47
  go_wp2_with fail
  refine wp_loop_rounds 1 ?_
  rw [rounds_succ]
  go_wp2_with fail
  go_end0
  exact ⟨rfl, rfl⟩
/-- options of the call's own, whatever they hold, in the blocks from base to hi -/
def OX (w : World) (base hi : Nat) (v : Value) (n : Nat) : Prop :=
  ∃ ps : List (Nat × (Option Addr × Nat × Nat)), Own opE w base v ps ∧ (∀ k, v.ownBlock = some k → k < hi) ∧ ps.length = n ∧ ∀ p ∈ ps, (∃ l, Own byteE w base (.slice p.2.1 p.2.2.1 p.2.2.2) l) ∧ ∀ k, (Value.slice p.2.1 p.2.2.1 p.2.2.2).ownBlock = some k → k < hi
theorem OwnO.ox {w : World} {base : Nat} {v : Value} {A : List Opt} (h : OwnO w base v A) : OX w base w.heap.size v A.length := by
  obtain ⟨ps, h1, h2, h3⟩ := h
  refine ⟨ps, h1, fun k hk => (h1.lt k hk).2, h2, fun p hp => ?_⟩
  obtain ⟨j, hj, rfl⟩ := List.getElem_of_mem hp
  have h4 := (h3 j ps[j] (A[j]'(by omega)) (List.getElem?_eq_getElem hj) (List.getElem?_eq_getElem (by omega))).2
  exact ⟨⟨_, h4⟩, fun k hk => (h4.lt k hk).2⟩
theorem OX.ext {w w' : World} {base hi : Nat} {v : Value} {n : Nat} (h : OX w base hi v n) (hb : Below w.heap.size w w') : OX w' base hi v n := by
  obtain ⟨ps, h1, h0, h2, h3⟩ := h
  exact ⟨ps, h1.ext hb, h0, h2, fun p hp => ⟨by obtain ⟨l, hl⟩ := (h3 p hp).1; exact ⟨l, hl.ext hb⟩, (h3 p hp).2⟩⟩
/-- the blocks of a slice that is told -/
def Rg (lo hi : Nat) (k : Nat) : Prop := lo ≤ k ∧ k < hi
theorem OX.at_ {w : World} {base hi n c : Nat} {a : Option Addr} (h : OX w base hi (.slice a n c) n) {j : Nat} (hj : j < n) : ∃ g c1 a' n' c' l, a = some ⟨g, 0, none⟩ ∧ base ≤ g ∧ g < hi ∧ w.cell? ⟨g, j * 2, none⟩ = some (.int .u16 (c1 : Nat)) ∧ w.frozen? ⟨g, j * 2, none⟩ = false ∧
    w.cell? ⟨g, j * 2 + 1, none⟩ = some (.slice a' n' c') ∧ Own byteE w base (.slice a' n' c') l ∧ ∀ k, (Value.slice a' n' c').ownBlock = some k → k < hi := by
  obtain ⟨ps, h1, h0, h2, h3⟩ := h
  have hjl : j < ps.length := by omega
  obtain ⟨⟨l, hl⟩, hhi⟩ := h3 ps[j] (List.getElem_mem hjl)
  rcases h1 with ⟨e, rfl⟩ | ⟨g, cap, X, e, hg, hB, hX, hle, hm, ht, -⟩
  · simp at hjl
  · simp only [Value.slice.injEq] at e
    obtain ⟨e1, _, e3⟩ := e
    have hjX : j < X.length := by omega
    have hpj : ps[j] = X[j] := by
      have : (X.take ps.length)[j]'(by rw [ht]; exact hjl) = ps[j] := by congr 1
      rw [← this, List.getElem_take]
    have c0 := rowOf_get opE X j 0 hjX (by decide)
    have c1 := rowOf_get opE X j 1 hjX (by decide)
    refine ⟨g, ps[j].1, _, _, _, l, e1, hg, h0 g (by rw [e1]; rfl), ?_, ?_, ?_, hl, hhi⟩
    · rw [hB.cell]
      have : (rowOf opE X)[j * 2 + 0]? = _ := c0
      rw [Nat.add_zero] at this
      rw [this, hpj]; rfl
    · rw [hB.frozen]; simp
    · rw [hB.cell]
      have : (rowOf opE X)[j * 2 + 1]? = _ := c1
      rw [this, hpj]; rfl
theorem OX.bytes {w w' : World} {base hi : Nat} {v : Value} {n : Nat} (h : OX w base hi v n) {r : Option Nat} (hg : w.grownBy w' r) (hr : ∀ k, r = some k → ∃ C, Blk w k 5 (0, 0) C) (hk : ∀ (u : Value) (m : List UInt8), Own byteE w base u m → ∃ m', Own byteE w' base u m') : OX w' base hi v n := by
  obtain ⟨ps, h1, h0, h2, h3⟩ := h
  refine ⟨ps, h1.keep fun k hkk => hg.block k (h1.lt k hkk).2 fun e => ?_, h0, h2, fun p hp => ⟨?_, (h3 p hp).2⟩⟩
  · obtain ⟨C, hC⟩ := hr k e.symm
    obtain ⟨C', hC'⟩ := own_blkE h1 k hkk
    exact absurd (blk_type hC' hC) (by decide)
  · obtain ⟨l, hl⟩ := (h3 p hp).1
    exact hk _ _ hl
theorem OX.code {w : World} {base hi n c g : Nat} (h : OX w base hi (.slice (some ⟨g, 0, none⟩) n c) n) {j : Nat} (hj : j < n) (y : Nat) : OX (w.setCell ⟨g, j * 2, none⟩ (.int .u16 (y : Nat))) base hi (.slice (some ⟨g, 0, none⟩) n c) n := by
  obtain ⟨ps, h1, h0, h2, h3⟩ := h
  have hjl : j < ps.length := by omega
  rcases h1 with ⟨e, rfl⟩ | ⟨g', cap, X, e, hg, hB, hX, hle, hm, ht, hrs⟩
  · simp at hjl
  · simp only [Value.slice.injEq, Option.some.injEq, Addr.mk.injEq] at e
    obtain ⟨⟨rfl, _, _⟩, _, rfl⟩ := e
    have hjX : j < X.length := by omega
    have hset := hB.set (j * 2) (.int .u16 (y : Nat))
    have e9 : (rowOf opE X).set (j * 2) (.int .u16 (y : Nat)) = rowOf opE (X.set j (y, X[j].2)) := by
      rw [List.set_eq_take_append_cons_drop, if_pos (by rw [rowOf_length]; show j * 2 < X.length * 2; omega), List.set_eq_take_append_cons_drop, if_pos hjX]
      have t1 := rowOf_take opE X j
      have t2 := rowOf_drop opE X (j + 1)
      have t3 := rowOf_drop opE X j
      have hd : X.drop j = X[j] :: X.drop (j + 1) := List.drop_eq_getElem_cons hjX
      show (rowOf opE X).take (j * opE.k) ++ _ = _
      rw [t1, rowOf_append]
      congr 1
      have t4 : (rowOf opE X).drop (j * 2 + 1) = ((rowOf opE X).drop (j * opE.k)).drop 1 := by rw [List.drop_drop]; rfl
      rw [t4, t3, hd]
      rfl
    rw [e9] at hset
    have hps : Own opE (w.setCell ⟨g, j * 2, none⟩ (.int .u16 (y : Nat))) base (.slice (some ⟨g, 0, none⟩) n c) (ps.set j (y, ps[j].2)) := by
      have hpj : ps[j] = X[j] := by
        have : (X.take ps.length)[j]'(by rw [ht]; exact hjl) = ps[j] := by congr 1
        rw [← this, List.getElem_take]
      refine .inr ⟨g, c, X.set j (y, X[j].2), by simp [h2], hg, hset, by simpa using hX, by simp; omega, hm, ?_, fun x _ => .inr (fun v hv b e => by simp [opE] at hv; rcases hv with rfl | rfl <;> cases e)⟩
      rw [List.length_set, List.take_set, ht, hpj]
    refine ⟨_, hps, h0, by simpa using h2, fun p hp => ?_⟩
    have hpm : ∃ p0 ∈ ps, p0.2 = p.2 := by
      rcases List.mem_or_eq_of_mem_set hp with h | rfl
      · exact ⟨p, h, rfl⟩
      · exact ⟨ps[j], List.getElem_mem hjl, rfl⟩
    obtain ⟨p0, hp0, ep⟩ := hpm
    obtain ⟨⟨l, hl⟩, hhi⟩ := h3 p0 hp0
    rw [ep] at hl hhi
    refine ⟨⟨l, hl.keep fun k hk => Below.heap_setCell _ _ _ _ fun e => ?_⟩, hhi⟩
    obtain ⟨C', hC'⟩ := own_blkE hl k hk
    have e2 : k = g := e
    subst e2
    exact absurd (blk_type hC' hB) (by decide)
end Go.Proofs.Ythgnlbdolilklaa
