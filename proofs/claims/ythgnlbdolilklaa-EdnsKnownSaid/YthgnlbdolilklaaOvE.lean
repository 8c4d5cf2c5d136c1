/- What was told is written over: OverBytes of an own slice, OverTexts 47 and OverData 18 of nothing but bytes, over 17. -/
import Derived.Test.YthgnlbdolilklaaCpE
import Derived.Test.YthgnlbdolilklaaStH
namespace Go.Proofs.Ythgnlbdolilklaa
open Go Go.RowKit
theorem blk_cells {w : World} {k : Nat} {e e' : TypeId} {fz fz' : Nat × Nat} {C C' : List Value} (h : Blk w k e fz C) (h' : Blk w k e' fz' C') : C = C' := by
  unfold Blk at h h'
  have h3 := h.symm.trans h'
  simp at h3
  exact h3.1
theorem own_other {w w' : World} {base g : Nat} {X Y : List UInt8} (hB : Blk w g 5 (0, 0) (u8s X)) (hB' : Blk w' g 5 (0, 0) (u8s Y)) (hl : Y.length = X.length) (hg : w.grownBy w' (some g)) {u : Value} {m : List UInt8} (h : Own byteE w base u m) : ∃ m', Own byteE w' base u m' ∧ m'.length = m.length := by
  rcases h with ⟨rfl, rfl⟩ | ⟨g', cap, Z, rfl, h1, h2, h3, h4, h5, h6⟩
  · exact ⟨[], Own.nil _ _ _, rfl⟩
  · by_cases e : g' = g
    · subst e
      rw [rowOf_byte] at h2
      have e2 : (u8s Z).length = (u8s X).length := by rw [blk_cells h2 hB]
      have e3 : Z.length = X.length := by simpa [u8s] using e2
      have e4 : (Y.take m.length).length = m.length := by rw [List.length_take]; omega
      refine ⟨Y.take m.length, .inr ⟨g', cap, Y, by rw [e4], h1, by rw [rowOf_byte]; exact hB', by omega, by omega, h5, by rw [e4]⟩, e4⟩
    · exact ⟨m, .inr ⟨g', cap, Z, rfl, h1, (hg.block _ h2.lt (fun x => e (Option.some.inj x))).trans h2, h3, h4, h5, h6⟩, rfl⟩
theorem over_own2 {w : World} {base : Nat} {v : Value} {l : List UInt8} (ho : Own byteE w base v l) :
    Calls Try.prog 46 #[v] w fun e w' => e = .returned (.tuple #[]) ∧ w.grownBy w' v.ownBlock ∧ ∀ (u : Value) (m : List UInt8), Own byteE w base u m → ∃ m', Own byteE w' base u m' := by
  rcases ho with ⟨rfl, rfl⟩ | ⟨g, cap, X, rfl, h1, h2, h3, h4, h5, h6⟩
  · refine (over_none none).mono ?_
    rintro e w' ⟨rfl, rfl⟩
    exact ⟨rfl, ⟨rfl, rfl, rfl, Nat.le_refl _, fun _ _ _ => rfl⟩, fun u m h => ⟨m, h⟩⟩
  · rw [rowOf_byte] at h2
    have h2' : Blk w g 5 (0, 0) (u8s X) := h2
    refine (over_bytes (C1 := []) (C2 := []) (X := X) (by simpa using h2') rfl h3 h4 (by simpa [maxLen] using h5) (fun j _ => by simp)).mono ?_
    rintro e w' ⟨rfl, hB, hg⟩
    refine ⟨rfl, hg, fun u m h => ?_⟩
    obtain ⟨m', h7, _⟩ := own_other h2 (by simpa using hB) (by simp [x5s]) hg h
    exact ⟨m', h7⟩
theorem over_texts_nil (w : World) : Calls Try.prog 47 #[.slice none 0 0] w fun e w' => e = .returned (.tuple #[]) ∧ w = w' := by
  go_enter Try.func47, Try.ntmps47
  go_wp2_with fail
  refine wp_loop_rounds 1 ?_
  rw [rounds_succ]
  go_wp2_with fail
  go_end0
  exact ⟨rfl, rfl⟩
set_option maxHeartbeats 2000000 in
set_option maxRecDepth 100000 in
theorem over_data_raw {w : World} {base : Nat} {v : Value} {l : List UInt8} (ho : Own byteE w base v l) :
    Calls Try.prog 18 #[dV nilV nilV nilV v] w fun e w' => e = .returned (.tuple #[]) ∧ w.grownBy w' v.ownBlock := by
  unfold dV nilV
  obtain ⟨W1, hW1⟩ : ∃ W1, w.alloc (.cells #[.slice none 0 0, .slice none 0 0, .slice none 0 0, v] 35) = W1 := ⟨_, rfl⟩
  have B1 : Blk W1 w.heap.size 35 (0, 0) [.slice none 0 0, .slice none 0 0, .slice none 0 0, v] := by rw [← hW1]; exact Blk.new w 35 (0, 0) #[.slice none 0 0, .slice none 0 0, .slice none 0 0, v]
  have k1 : Hid (Below w.heap.size w W1) := Lib.hid (by rw [← hW1]; exact alloc_bel _ _)
  have p0 : W1.cell? ⟨w.heap.size, 0, none⟩ = some (.slice none 0 0) := (B1.cell 0).trans rfl
  have p1 : W1.cell? ⟨w.heap.size, 1, none⟩ = some (.slice none 0 0) := (B1.cell 1).trans rfl
  have p2 : W1.cell? ⟨w.heap.size, 2, none⟩ = some (.slice none 0 0) := (B1.cell 2).trans rfl
  have p3 : W1.cell? ⟨w.heap.size, 3, none⟩ = some v := (B1.cell 3).trans rfl
  have hlt : Hid (∀ k, v.ownBlock = some k → k < w.heap.size) := Lib.hid (fun k hk => (ho.lt k hk).2)
  have ho1 := Lib.hid (ho.ext k1.out)
  clear B1 ho
  go_enter Try.func18, Try.ntmps18
  go_wp2_with fail
  try rw [hW1]
  clear hW1
  refine wp_loop_rounds 1 ?_
  rw [rounds_succ]
  go_wp2_with fail
  refine wp_loop_rounds 1 ?_
  rw [rounds_succ]
  go_wp2_with fail
  refine (over_texts_nil _).mono ?_
  rintro e w1 ⟨rfl, rfl⟩
  go_wp2_with fail
  refine (over_own2 ho1.out).mono ?_
  rintro e w2 ⟨rfl, hg, _⟩
  have hg' : Hid (w.grownBy w2 v.ownBlock) := Lib.hid ⟨hg.os.trans k1.out.os, hg.tape.trans k1.out.tape, hg.output.trans k1.out.output, Nat.le_trans k1.out.size hg.size, fun b hb hn => (hg.block b (Nat.lt_of_lt_of_le hb k1.out.size) hn).trans (k1.out.block b hb)⟩
  go_wp2_with fail
  go_end0
  exact ⟨rfl, hg'.out⟩
/-- options of the call's own, whatever they hold, in the blocks from base to hi -/
def OX (w : World) (base hi : Nat) (v : Value) (n : Nat) : Prop :=
  ∃ ps : List (Nat × (Option Addr × Nat × Nat)), Own opE w base v ps ∧ (∀ k, v.ownBlock = some k → k < hi) ∧ ps.length = n ∧ ∀ p ∈ ps, (∃ l, Own byteE w base (.slice p.2.1 p.2.2.1 p.2.2.2) l) ∧ ∀ k, (Value.slice p.2.1 p.2.2.1 p.2.2.2).ownBlock = some k → k < hi
theorem OwnO.ox {w : World} {base : Nat} {v : Value} {A : List Opt} (h : OwnO w base v A) : OX w base w.heap.size v A.length := by
  obtain ⟨ps, h1, h2, h3⟩ := h
  refine ⟨ps, h1, fun k hk => (h1.lt k hk).2, h2, fun p hp => ?_⟩
  obtain ⟨j, hj, rfl⟩ := List.getElem_of_mem hp
  have h4 := (h3 j ps[j] (A[j]'(by omega)) (List.getElem?_eq_getElem hj) (List.getElem?_eq_getElem (by omega))).2
  exact ⟨⟨_, h4⟩, fun k hk => (h4.lt k hk).2⟩
theorem OX.ext {w w' : World} {base hi : Nat} {v : Value} {n : Nat} (h : OX w base hi v n) (hb : Below w.heap.size w w') : OX w' base hi v n := by
  obtain ⟨ps, h1, h0, h2, h3⟩ := h
  exact ⟨ps, h1.ext hb, h0, h2, fun p hp => ⟨by obtain ⟨l, hl⟩ := (h3 p hp).1; exact ⟨l, hl.ext hb⟩, (h3 p hp).2⟩⟩
/-- the blocks of a slice that is told -/
def Rg (lo hi : Nat) (k : Nat) : Prop := lo ≤ k ∧ k < hi
theorem OX.at_ {w : World} {base hi n c : Nat} {a : Option Addr} (h : OX w base hi (.slice a n c) n) {j : Nat} (hj : j < n) : ∃ g c1 a' n' c' l, a = some ⟨g, 0, none⟩ ∧ base ≤ g ∧ g < hi ∧ w.cell? ⟨g, j * 2, none⟩ = some (.int .u16 (c1 : Nat)) ∧ w.frozen? ⟨g, j * 2, none⟩ = false ∧
    w.cell? ⟨g, j * 2 + 1, none⟩ = some (.slice a' n' c') ∧ Own byteE w base (.slice a' n' c') l ∧ ∀ k, (Value.slice a' n' c').ownBlock = some k → k < hi := by
  obtain ⟨ps, h1, h0, h2, h3⟩ := h
  have hjl : j < ps.length := by omega
  obtain ⟨⟨l, hl⟩, hhi⟩ := h3 ps[j] (List.getElem_mem hjl)
  rcases h1 with ⟨e, rfl⟩ | ⟨g, cap, X, e, hg, hB, hX, hle, hm, ht⟩
  · simp at hjl
  · simp only [Value.slice.injEq] at e
    obtain ⟨e1, _, e3⟩ := e
    have hjX : j < X.length := by omega
    have hpj : ps[j] = X[j] := by
      have : (X.take ps.length)[j]'(by rw [ht]; exact hjl) = ps[j] := by congr 1
      rw [← this, List.getElem_take]
    have c0 := rowOf_get opE X j 0 hjX (by decide)
    have c1 := rowOf_get opE X j 1 hjX (by decide)
    refine ⟨g, ps[j].1, _, _, _, l, e1, hg, h0 g (by rw [e1]; rfl), ?_, ?_, ?_, hl, hhi⟩
    · rw [hB.cell]
      have : (rowOf opE X)[j * 2 + 0]? = _ := c0
      rw [Nat.add_zero] at this
      rw [this, hpj]; rfl
    · rw [hB.frozen]; simp
    · rw [hB.cell]
      have : (rowOf opE X)[j * 2 + 1]? = _ := c1
      rw [this, hpj]; rfl
theorem OX.bytes {w w' : World} {base hi : Nat} {v : Value} {n : Nat} (h : OX w base hi v n) {r : Option Nat} (hg : w.grownBy w' r) (hr : ∀ k, r = some k → ∃ C, Blk w k 5 (0, 0) C) (hk : ∀ (u : Value) (m : List UInt8), Own byteE w base u m → ∃ m', Own byteE w' base u m') : OX w' base hi v n := by
  obtain ⟨ps, h1, h0, h2, h3⟩ := h
  refine ⟨ps, h1.keep fun k hkk => hg.block k (h1.lt k hkk).2 fun e => ?_, h0, h2, fun p hp => ⟨?_, (h3 p hp).2⟩⟩
  · obtain ⟨C, hC⟩ := hr k e.symm
    obtain ⟨C', hC'⟩ := own_blkE h1 k hkk
    exact absurd (blk_type hC' hC) (by decide)
  · obtain ⟨l, hl⟩ := (h3 p hp).1
    exact hk _ _ hl
theorem OX.code {w : World} {base hi n c g : Nat} (h : OX w base hi (.slice (some ⟨g, 0, none⟩) n c) n) {j : Nat} (hj : j < n) (y : Nat) : OX (w.setCell ⟨g, j * 2, none⟩ (.int .u16 (y : Nat))) base hi (.slice (some ⟨g, 0, none⟩) n c) n := by
  obtain ⟨ps, h1, h0, h2, h3⟩ := h
  have hjl : j < ps.length := by omega
  rcases h1 with ⟨e, rfl⟩ | ⟨g', cap, X, e, hg, hB, hX, hle, hm, ht⟩
  · simp at hjl
  · simp only [Value.slice.injEq, Option.some.injEq, Addr.mk.injEq] at e
    obtain ⟨⟨rfl, _, _⟩, _, rfl⟩ := e
    have hjX : j < X.length := by omega
    have hset := hB.set (j * 2) (.int .u16 (y : Nat))
    have e9 : (rowOf opE X).set (j * 2) (.int .u16 (y : Nat)) = rowOf opE (X.set j (y, X[j].2)) := by
      rw [List.set_eq_take_append_cons_drop, if_pos (by rw [rowOf_length]; show j * 2 < X.length * 2; omega), List.set_eq_take_append_cons_drop, if_pos hjX]
      have t1 := rowOf_take opE X j
      have t2 := rowOf_drop opE X (j + 1)
      have t3 := rowOf_drop opE X j
      have hd : X.drop j = X[j] :: X.drop (j + 1) := List.drop_eq_getElem_cons hjX
      show (rowOf opE X).take (j * opE.k) ++ _ = _
      rw [t1, rowOf_append]
      congr 1
      have t4 : (rowOf opE X).drop (j * 2 + 1) = ((rowOf opE X).drop (j * opE.k)).drop 1 := by rw [List.drop_drop]; rfl
      rw [t4, t3, hd]
      rfl
    rw [e9] at hset
    have hps : Own opE (w.setCell ⟨g, j * 2, none⟩ (.int .u16 (y : Nat))) base (.slice (some ⟨g, 0, none⟩) n c) (ps.set j (y, ps[j].2)) := by
      have hpj : ps[j] = X[j] := by
        have : (X.take ps.length)[j]'(by rw [ht]; exact hjl) = ps[j] := by congr 1
        rw [← this, List.getElem_take]
      refine .inr ⟨g, c, X.set j (y, X[j].2), by simp [h2], hg, hset, by simpa using hX, by simp; omega, hm, ?_⟩
      rw [List.length_set, List.take_set, ht, hpj]
    refine ⟨_, hps, h0, by simpa using h2, fun p hp => ?_⟩
    have hpm : ∃ p0 ∈ ps, p0.2 = p.2 := by
      rcases List.mem_or_eq_of_mem_set hp with h | rfl
      · exact ⟨p, h, rfl⟩
      · exact ⟨ps[j], List.getElem_mem hjl, rfl⟩
    obtain ⟨p0, hp0, ep⟩ := hpm
    obtain ⟨⟨l, hl⟩, hhi⟩ := h3 p0 hp0
    rw [ep] at hl hhi
    refine ⟨⟨l, hl.keep fun k hk => Below.heap_setCell _ _ _ _ fun e => ?_⟩, hhi⟩
    obtain ⟨C', hC'⟩ := own_blkE hl k hk
    have e2 : k = g := e
    subst e2
    exact absurd (blk_type hC' hB) (by decide)
set_option maxHeartbeats 4000000 in
set_option maxRecDepth 100000 in
theorem over_edns {w : World} {base hi n c : Nat} {a : Option Addr} (h : OX w base hi (.slice a n c) n) (hhw : hi ≤ w.heap.size) (hn : n ≤ 1152921504606846976) (sz hi0 ver : Int) (d : Bool) :
    Calls Try.prog 17 #[eV sz hi0 ver d (.slice a n c)] w fun e w' => e = .returned (.tuple #[]) ∧ Tch (Rg base hi) w w' := by
  unfold eV
  obtain ⟨W1, hW1⟩ : ∃ W1, w.alloc (.cells #[.int .i64 sz, .int .i64 hi0, .int .i64 ver, .bool d, .slice a n c] 24) = W1 := ⟨_, rfl⟩
  have B1 : Hid (Blk W1 w.heap.size 24 (0, 0) [.int .i64 sz, .int .i64 hi0, .int .i64 ver, .bool d, .slice a n c]) := Lib.hid (by rw [← hW1]; exact Blk.new w 24 (0, 0) #[.int .i64 sz, .int .i64 hi0, .int .i64 ver, .bool d, .slice a n c])
  have k1 : Hid (Below w.heap.size w W1) := Lib.hid (by rw [← hW1]; exact alloc_bel _ _)
  have hO1 := Lib.hid (h.ext k1.out)
  have hT1 : Hid (Tch (Rg base hi) w W1) := Lib.hid (Tch.of_below k1.out)
  clear h
  go_enter Try.func17, Try.ntmps17
  go_wp2_with fail
  try rw [hW1]
  clear hW1
  go_loopw [2] (fun i wr => ∃ k : Nat, k ≤ n ∧ i = .int .i64 k ∧ Hid (OX wr base hi (.slice a n c) n) ∧ Hid (Tch (Rg base hi) w wr) ∧ Hid (Blk wr w.heap.size 24 (0, 0) [.int .i64 sz, .int .i64 hi0, .int .i64 ver, .bool d, .slice a n c])) (fun i _ => n - (intOf i).toNat)
  case atStart => exact ⟨0, Nat.zero_le _, rfl, hO1, hT1, B1⟩
  case round =>
    clear hO1 hT1 B1 k1
    obtain ⟨k, hk, rfl, hO, hT, hB⟩ := hrel
    have p4 : wr.cell? ⟨w.heap.size, 4, none⟩ = some (.slice a n c) := (hB.out.cell 4).trans rfl
    by_cases hlt : k < n
    · obtain ⟨g, c1, a', n', c', l, rfl, hgb, hgh, q0, qf, q1, hD, hDh⟩ := hO.out.at_ hlt
      have hD' := Lib.hid hD
      have hDh' := Lib.hid hDh
      clear hD hDh
      have hkI : (k : Int) < n := by omega
      have hk0 : 0 ≤ (k : Int) := by omega
      go_wp2_with fail
      refine (over_own2 hD'.out).mono ?_
      rintro e w2 ⟨rfl, hg2, hkeep⟩
      have hbyte : ∀ j, (Value.slice a' n' c').ownBlock = some j → ∃ C, Blk wr j 5 (0, 0) C := own_blkE hD'.out
      have hO2 := Lib.hid (hO.out.bytes hg2 hbyte hkeep)
      have hT2 : Hid (Tch (Rg base hi) w w2) := Lib.hid (hT.out.trans (Tch.of_grown (S := Rg base hi) hg2 (fun j hj => ⟨(hD'.out.lt j hj).1, hDh'.out j hj⟩)) (fun _ _ h => h))
      have hB2 : Hid (Blk w2 w.heap.size 24 (0, 0) [.int .i64 sz, .int .i64 hi0, .int .i64 ver, .bool d, .slice (some ⟨g, 0, none⟩) n c]) := Lib.hid (blk_own hB.out hD'.out (by decide) hg2)
      clear hg2 hkeep hbyte hO hT hB p4 q0 qf q1 hD' hDh'
      obtain ⟨g2, c2, a2, n2, cc2, l2, e2, _, _, q0, qf, q1, _, _⟩ := hO2.out.at_ hlt
      cases e2
      have p4 : w2.cell? ⟨w.heap.size, 4, none⟩ = some (.slice (some ⟨g, 0, none⟩) n c) := (hB2.out.cell 4).trans rfl
      clear q1
      go_upto_region 5 with (fail)
      go_region
      obtain ⟨y, hy⟩ : ∃ y : Nat, bits BinOp.xor IntKind.u16 (if IntKind.u16.signed = true then -1 else IntKind.u16.max) (c2 : Int) = (y : Int) := ⟨_, (Int.toNat_of_nonneg (bits_lo_u16 _ _ _)).symm⟩
      rw [hy]
      obtain ⟨V, hV⟩ : ∃ V, (w2.setCell ⟨g, k * 2, none⟩ (.int .u16 (y : Nat))).drew = V := ⟨_, rfl⟩
      rw [hV]
      have yO : Hid (OX V base hi (.slice (some ⟨g, 0, none⟩) n c) n) := Lib.hid (by rw [← hV]; exact (hO2.out.code hlt y).ext (Below.refl _ _).drew)
      have yT : Hid (Tch (Rg base hi) w V) := Lib.hid (by rw [← hV]; exact (hT2.out.trans (Tch.setCell (S := Rg base hi) w2 (p := ⟨g, k * 2, none⟩) ⟨hgb, hgh⟩ _) (fun _ _ h => h)).trans (Tch.drew (Rg base hi) _) (fun _ _ h => h))
      have yB : Hid (Blk V w.heap.size 24 (0, 0) [.int .i64 sz, .int .i64 hi0, .int .i64 ver, .bool d, .slice (some ⟨g, 0, none⟩) n c]) := Lib.hid (by rw [← hV]; exact hB2.out.setOther (by intro e; simp at e; omega) _)
      clear hV hy hO2 hT2 hB2 q0 qf p4
      go_wp2_with fail
      go_roundw
      case rel => exact ⟨k + 1, by omega, by go_num, yO, yT, yB⟩
      case measure => simp [intOf]; omega
    · have hk' : k = n := by omega
      subst hk'
      go_wp2_with fail
      go_end0
      exact ⟨rfl, hT.out⟩
end Go.Proofs.Ythgnlbdolilklaa
