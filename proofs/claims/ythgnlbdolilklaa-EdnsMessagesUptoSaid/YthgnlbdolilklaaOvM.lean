/- What was told is written over: texts 47, data 18, records 59, messages 32; printed by gen_ov.py. -/
import Derived.Test.YthgnlbdolilklaaOvE
import Derived.Test.YthgnlbdolilklaaWiM
namespace Go.Proofs.Ythgnlbdolilklaa
open Go Go.RowKit
/-- blocks of texts of at most M bytes -/
def TB (M : Nat) (w : World) (G : Nat → Prop) : Prop := ∀ g, G g → ∃ X : List (List UInt8), Blk w g 9 (0, 0) (rowOf strE X) ∧ ∀ s ∈ X, s.length ≤ M
/-- texts of the call's own, whatever they are -/
def OT (w : World) (G : Nat → Prop) (v : Value) : Prop := v = .slice none 0 0 ∨ ∃ g n cap C, v = .slice (some ⟨g, 0, none⟩) n cap ∧ G g ∧ Blk w g 9 (0, 0) C ∧ C.length = cap ∧ n ≤ cap ∧ cap ≤ maxLen
/-- what is written over: T: the types of the blocks that may change -/
structure OvS (T : TypeId → Prop) (lo hi : Nat) (G : Nat → Prop) (M M' : Nat) (w w' : World) : Prop where
  tch : Tch (Rg lo hi) w w'
  len : ∀ k C, Blk w k 9 (0, 0) C → ∃ C', Blk w' k 9 (0, 0) C' ∧ C'.length = C.length
  nu : ∀ v m, Own u32E w lo v m → ∃ m', Own u32E w' lo v m'
  by_ : ∀ v m, Own byteE w lo v m → ∃ m', Own byteE w' lo v m'
  tb : TB M w G → TB M' w' G
  other : ∀ k t fz C, ¬ T t → Blk w k t fz C → Blk w' k t fz C
def T3 (t : TypeId) : Prop := t = 9 ∨ t = 30 ∨ t = 5
def T4 (t : TypeId) : Prop := T3 t ∨ t = 37
theorem OvS.wide {lo hi : Nat} {G : Nat → Prop} {M M' : Nat} {w w' : World} (h : OvS T3 lo hi G M M' w w') : OvS T4 lo hi G M M' w w' := ⟨h.tch, h.len, h.nu, h.by_, h.tb, fun k t fz C ht => h.other k t fz C (fun e => ht (.inl e))⟩
theorem OvS.trans {T : TypeId → Prop} {lo hi : Nat} {G : Nat → Prop} {M M' M2 : Nat} {u v w : World} (h : OvS T lo hi G M M' u v) (k : OvS T lo hi G M' M2 v w) : OvS T lo hi G M M2 u w where
  tch := h.tch.trans k.tch (fun _ _ h => h)
  len := fun g C hC => by
    obtain ⟨C1, h1, h2⟩ := h.len g C hC
    obtain ⟨C2, h3, h4⟩ := k.len g C1 h1
    exact ⟨C2, h3, h4.trans h2⟩
  nu := fun x m hm => by
    obtain ⟨m1, h1⟩ := h.nu x m hm
    exact k.nu x m1 h1
  by_ := fun x m hm => by
    obtain ⟨m1, h1⟩ := h.by_ x m hm
    exact k.by_ x m1 h1
  tb := fun ht => k.tb (h.tb ht)
  other := fun g t fz C ht hC => k.other g t fz C ht (h.other g t fz C ht hC)
theorem OvS.below {T : TypeId → Prop} {lo hi : Nat} {G : Nat → Prop} {M : Nat} {w w' : World} (hb : Below w.heap.size w w') : OvS T lo hi G M M w w' where
  tch := Tch.of_below hb
  len := fun k C hC => ⟨C, hC.below hb hC.lt, rfl⟩
  nu := fun v m hm => ⟨m, hm.ext hb⟩
  by_ := fun v m hm => ⟨m, hm.ext hb⟩
  tb := fun ht g hg => by
    obtain ⟨X, h1, h2⟩ := ht g hg
    exact ⟨X, h1.below hb h1.lt, h2⟩
  other := fun k t fz C _ hC => hC.below hb hC.lt
theorem TB.more {M M' : Nat} {w : World} {G : Nat → Prop} (h : TB M w G) (hM : M ≤ M') : TB M' w G := fun g hg => by
  obtain ⟨X, h1, h2⟩ := h g hg
  exact ⟨X, h1, fun s hs => Nat.le_trans (h2 s hs) hM⟩
theorem OT.ov {T : TypeId → Prop} {lo hi : Nat} {G : Nat → Prop} {M M' : Nat} {w w' : World} {v : Value} (h : OT w G v) (k : OvS T lo hi G M M' w w') : OT w' G v := by
  rcases h with h | ⟨g, n, cap, C, h1, h2, h3, h4, h5⟩
  · exact .inl h
  · obtain ⟨C', h6, h7⟩ := k.len g C h3
    exact .inr ⟨g, n, cap, C', h1, h2, h6, h7.trans h4, h5⟩
theorem own_ov {α : Type} {E : Enc α} {T : TypeId → Prop} {lo hi base : Nat} {G : Nat → Prop} {M M' : Nat} {w w' : World} {v : Value} {l : List α} (h : Own E w base v l) (hE : ¬ T E.e) (k : OvS T lo hi G M M' w w') : Own E w' base v l := by
  rcases h with h | ⟨g, cap, X, h1, h2, h3, r⟩
  · exact .inl h
  · exact .inr ⟨g, cap, X, h1, h2, k.other _ _ _ _ hE h3, r⟩
theorem row_str (X : List (List UInt8)) : rowOf strE X = X.map fun s => .string (mk s) := by
  induction X with
  | nil => rfl
  | cons x r ih => simp only [rowOf, List.flatMap_cons, List.map_cons] at ih ⊢; rw [ih]; rfl
theorem row_u32 (X : List Nat) : rowOf u32E X = X.map fun n => .int .u32 (n : Nat) := by
  induction X with
  | nil => rfl
  | cons x r ih => simp only [rowOf, List.flatMap_cons, List.map_cons] at ih ⊢; rw [ih]; rfl
/-- a row of the call's own in a block whose cells were exchanged for others of its kind -/
theorem own_swap {α : Type} {E : Enc α} {base g : Nat} {w w' : World} {v : Value} {l : List α} (hr : ∀ x : α, ∀ u ∈ E.f x, ∀ b, u ≠ .string b) (h : Own E w base v l) {X Y : List α} (hB : Blk w g E.e (0, 0) (rowOf E X)) (hB' : Blk w' g E.e (0, 0) (rowOf E Y)) (hl : Y.length = X.length) (hg : w.grownBy w' (some g)) : ∃ l', Own E w' base v l' := by
  rcases h with ⟨rfl, rfl⟩ | ⟨g', cap, Z, rfl, h1, h2, h3, h4, h5, h6, h7⟩
  · exact ⟨[], Own.nil _ _ _⟩
  · by_cases e : g' = g
    · subst e
      have e2 : (rowOf E Z).length = (rowOf E X).length := by rw [blk_cells h2 hB]
      rw [rowOf_length, rowOf_length] at e2
      have e3 : Z.length = X.length := Nat.eq_of_mul_eq_mul_right E.pos e2
      have e4 : (Y.take l.length).length = l.length := by rw [List.length_take]; omega
      exact ⟨Y.take l.length, .inr ⟨g', cap, Y, by rw [e4], h1, hB', by omega, by omega, h5, by rw [e4], fun x _ => .inr (hr x)⟩⟩
    · exact ⟨l, .inr ⟨g', cap, Z, rfl, h1, (hg.block _ h2.lt (fun x => e (Option.some.inj x))).trans h2, h3, h4, h5, h6, h7⟩⟩
theorem own_not {α : Type} {E : Enc α} {base g : Nat} {w w' : World} {v : Value} {l : List α} (h : Own E w base v l) {t : TypeId} {C : List Value} (hB : Blk w g t (0, 0) C) (hE : E.e ≠ t) (hg : w.grownBy w' (some g)) : Own E w' base v l := own_store h hB hE hg
/-- one block of texts -/
theorem OvS.texts {lo hi : Nat} {G : Nat → Prop} {M g : Nat} {w w' : World} {X : List (List UInt8)} (hB : Blk w g 9 (0, 0) (rowOf strE X)) (hB' : Blk w' g 9 (0, 0) (rowOf strE (X.map (· ++ [33])))) (hg : w.grownBy w' (some g)) (hr : lo ≤ g ∧ g < hi) (hX : ∀ s ∈ X, s.length ≤ M) : OvS T3 lo hi G M (M + 1) w w' where
  tch := Tch.of_grown hg (fun k hk => by cases hk; exact hr)
  len := fun k C hC => by
    by_cases e : k = g
    · subst e
      refine ⟨_, hB', ?_⟩
      rw [blk_cells hC hB, row_str, row_str]
      simp
    · exact ⟨C, hC.grownV2 hg (fun x => e (Option.some.inj x)), rfl⟩
  nu := fun v m hm => ⟨m, own_not hm hB (by decide) hg⟩
  by_ := fun v m hm => ⟨m, own_not hm hB (by decide) hg⟩
  tb := fun ht k hk => by
    by_cases e : k = g
    · subst e
      refine ⟨_, hB', fun s hs => ?_⟩
      obtain ⟨s0, h0, rfl⟩ := List.mem_map.1 hs
      have := hX s0 h0
      simp
      omega
    · obtain ⟨Y, h1, h2⟩ := ht k hk
      exact ⟨Y, h1.grownV2 hg (fun x => e (Option.some.inj x)), fun s hs => Nat.le_succ_of_le (h2 s hs)⟩
  other := fun k t fz C ht hC => hC.grownV2 hg (fun x => by
    have e := Option.some.inj x
    subst e
    exact ht (.inl (blk_type hC hB)))
/-- one block of numbers or of bytes -/
theorem OvS.u32s {lo hi : Nat} {G : Nat → Prop} {M g : Nat} {w w' : World} {X Y : List Nat} (hB : Blk w g 30 (0, 0) (rowOf u32E X)) (hB' : Blk w' g 30 (0, 0) (rowOf u32E Y)) (hl : Y.length = X.length) (hg : w.grownBy w' (some g)) (hr : lo ≤ g ∧ g < hi) : OvS T3 lo hi G M M w w' where
  tch := Tch.of_grown hg (fun k hk => by cases hk; exact hr)
  len := fun k C hC => ⟨C, hC.grownV2 hg (fun x => by
    have e := Option.some.inj x
    subst e
    exact absurd (blk_type hC hB) (by decide)), rfl⟩
  nu := fun v m hm => own_swap (E := u32E) (fun x u hu b e => by simp [u32E] at hu; subst hu; cases e) hm hB hB' hl hg
  by_ := fun v m hm => ⟨m, own_not hm hB (by decide) hg⟩
  tb := fun ht k hk => by
    obtain ⟨Y, h1, h2⟩ := ht k hk
    exact ⟨Y, h1.grownV2 hg (fun x => by
      have e := Option.some.inj x
      subst e
      exact absurd (blk_type h1 hB) (by decide)), h2⟩
  other := fun k t fz C ht hC => hC.grownV2 hg (fun x => by
    have e := Option.some.inj x
    subst e
    exact ht (.inr (.inl (blk_type hC hB))))
theorem OvS.bytes {lo hi : Nat} {G : Nat → Prop} {M : Nat} {w w' : World} {v : Value} {l : List UInt8} (ho : Own byteE w lo v l) (hg : w.grownBy w' v.ownBlock) (hk : ∀ (u : Value) (m : List UInt8), Own byteE w lo u m → ∃ m', Own byteE w' lo u m') (hr : ∀ k, v.ownBlock = some k → k < hi) : OvS T3 lo hi G M M w w' where
  tch := Tch.of_grown hg (fun k hk => ⟨(ho.lt k hk).1, hr k hk⟩)
  len := fun k C hC => ⟨C, blk_own hC ho (by decide) hg, rfl⟩
  nu := fun u m hm => ⟨m, own_grown hm ho (by decide) hg⟩
  by_ := hk
  tb := fun ht k hk => by
    obtain ⟨Y, h1, h2⟩ := ht k hk
    exact ⟨Y, blk_own h1 ho (by decide) hg, h2⟩
  other := fun k t fz C ht hC => blk_own hC ho (fun e => ht (.inr (.inr e.symm))) hg
set_option maxHeartbeats 8000000 in
set_option maxRecDepth 100000 in
theorem over_txt {lo hi M : Nat} {G : Nat → Prop} (hM : M ≤ 4611686018427387904) (hG : ∀ g, G g → lo ≤ g ∧ g < hi) {w : World} {v : Value} (h : OT w G v) (ht : TB M w G) :
    Calls Try.prog 47 #[v] w fun e w' => e = .returned (.tuple #[]) ∧ OvS T3 lo hi G M (M + 1) w w' := by
  rcases h with rfl | ⟨g, n, c, C, rfl, hGg, hB0, hCl, hle, hm⟩
  · refine (over_texts_nil w).mono ?_
    rintro e w' ⟨rfl, rfl⟩
    exact ⟨rfl, { OvS.below (T := T3) (lo := lo) (hi := hi) (G := G) (M := M) (Below.refl _ _) with tb := fun ht => ht.more (Nat.le_succ _) }⟩
  · obtain ⟨X, hB, hX⟩ := ht g hGg
    have hXl : X.length = c := by
      rw [← hCl, blk_cells hB0 hB, row_str, List.length_map]
    have hr := hG g hGg
    clear hB0 hCl hG ht hGg
    simp only [maxLen] at hm
    have hH := Lib.hid hB
    have hX' := Lib.hid hX
    clear hB hX
    go_enter Try.func47, Try.ntmps47
    go_wp2_with fail
    go_loopw [3] (fun i wr => ∃ k : Nat, k ≤ c ∧ i = .int .i64 k ∧ Hid (Blk wr g 9 (0, 0) (rowOf strE ((X.take k).map (· ++ [33]) ++ X.drop k))) ∧ Hid (w.grownBy wr (some g))) (fun i _ => c - (intOf i).toNat)
    case atStart => exact ⟨0, Nat.zero_le _, rfl, hH, Lib.hid ⟨rfl, rfl, rfl, Nat.le_refl _, fun _ _ _ => rfl⟩⟩
    case round =>
      obtain ⟨k, hk, rfl, hB, hgr⟩ := hrel
      by_cases hlt : k < c
      · have hkl : k < X.length := by omega
        have hkI : (k : Int) < c := by omega
        have hk0 : (0 : Int) ≤ k := by omega
        have hlen := hX'.out X[k] (List.getElem_mem hkl)
        have hcell : wr.cell? ⟨g, k, none⟩ = some (.string (mk X[k])) := by
          rw [hB.out.cell, row_str, List.getElem?_map, List.getElem?_append_right (by simp; omega)]
          simp only [List.length_map, List.length_take]
          rw [List.getElem?_drop, show k + (k - min k X.length) = k by omega, List.getElem?_eq_getElem hkl]
          rfl
        have hfr : wr.frozen? ⟨g, k, none⟩ = false := by rw [hB.out.frozen]; simp
        have hst := hB.out.set k (.string (mk (X[k] ++ [33])))
        have e2 : (rowOf strE ((X.take k).map (· ++ [33]) ++ X.drop k)).set k (.string (mk (X[k] ++ [33]))) = rowOf strE ((X.take (k + 1)).map (· ++ [33]) ++ X.drop (k + 1)) := by
          rw [row_str, row_str, ← List.map_set (f := fun s => Value.string (mk s))]
          congr 1
          rw [List.take_succ_eq_append_getElem hkl, List.map_append, List.set_append_right _ _ (by simp; omega)]
          simp only [List.length_map, List.length_take]
          rw [show k - min k X.length = 0 by omega, List.drop_eq_getElem_cons hkl, List.set_cons_zero, List.append_assoc]
          rfl
        rw [e2] at hst
        have hst2 := Lib.hid hst
        clear hst e2 hB
        obtain ⟨Y, hY⟩ : ∃ Y, X[k] = Y := ⟨_, rfl⟩
        rw [hY] at hcell hlen hst2
        clear hY
        have e' : Hid (mk Y ++ ({ data := #[33] } : ByteArray) = mk (Y ++ [33])) := Lib.hid (mk_append Y [33])
        go_wp2_with fail
        go_roundw
        case rel => exact ⟨k + 1, by omega, by go_num, Lib.hid (by rw [e'.out]; exact hst2.out), Lib.hid ⟨hgr.out.os, hgr.out.tape, hgr.out.output, by have := hgr.out.size; simpa using this, fun i hi hne => (Below.heap_setCell _ _ _ i (fun e => hne (by rw [e]))).trans (hgr.out.block i hi hne)⟩⟩
        case measure => simp [intOf]; omega
      · have hk' : k = c := by omega
        subst hk'
        have hB2 : Hid (Blk wr g 9 (0, 0) (rowOf strE (X.map (· ++ [33])))) := Lib.hid (by
          have h9 := hB.out
          rw [← hXl, List.take_length, List.drop_length, List.append_nil] at h9
          exact h9)
        clear hB
        go_wp2_with fail
        go_end0
        exact ⟨rfl, OvS.texts hH.out hB2.out hgr.out hr hX'.out⟩
set_option maxHeartbeats 8000000 in
set_option maxRecDepth 100000 in
theorem over_data {lo hi M : Nat} {G : Nat → Prop} (hG : ∀ g, G g → lo ≤ g ∧ g < hi) {w : World} {ma : Option Addr} {mn mc : Nat} {ua : Option Addr} {un uc : Nat} {xa : Option Addr} {xn xc : Nat} {ra : Option Addr} {rn rc : Nat} (hM : M + mn + 2 ≤ 4611686018427387904) (hmn : mn ≤ 1152921504606846976)
    (hnm : ∃ ps, Own slN w lo (.slice ma mn mc) ps ∧ ∀ p ∈ ps, OT w G (.slice p.1 p.2.1 p.2.2)) (hnu : (∃ m, Own u32E w lo (.slice ua un uc) m) ∧ ∀ k, (Value.slice ua un uc).ownBlock = some k → k < hi) (htx : OT w G (.slice xa xn xc))
    (hraw : (∃ m, Own byteE w lo (.slice ra rn rc) m) ∧ ∀ k, (Value.slice ra rn rc).ownBlock = some k → k < hi) (ht : TB M w G) :
    Calls Try.prog 18 #[.agg #[.slice ma mn mc, .slice ua un uc, .slice xa xn xc, .slice ra rn rc]] w fun e w' => e = .returned (.tuple #[]) ∧ OvS T3 lo hi G M (M + mn + 1) w w' := by
  obtain ⟨W1, hW1⟩ : ∃ W, w.alloc (.cells #[.slice ma mn mc, .slice ua un uc, .slice xa xn xc, .slice ra rn rc] 35) = W := ⟨_, rfl⟩
  have B1 : Hid (Blk W1 w.heap.size 35 (0, 0) [.slice ma mn mc, .slice ua un uc, .slice xa xn xc, .slice ra rn rc]) := Lib.hid (by rw [← hW1]; exact Blk.new w 35 (0, 0) #[.slice ma mn mc, .slice ua un uc, .slice xa xn xc, .slice ra rn rc])
  have k1 : Hid (Below w.heap.size w W1) := Lib.hid (by rw [← hW1]; exact alloc_bel _ _)
  have O1 : Hid (OvS T3 lo hi G M M w W1) := Lib.hid (OvS.below k1.out)
  have hG' := Lib.hid hG
  obtain ⟨ps, hps, hpo⟩ := hnm
  have hpl := (own_rd_at hps).2
  have hps1 := Lib.hid (own_ov hps (by unfold T3; decide) O1.out)
  have hpo1 : Hid (∀ p ∈ ps, OT W1 G (.slice p.1 p.2.1 p.2.2)) := Lib.hid (fun p hp => (hpo p hp).ov O1.out)
  have hnu' := Lib.hid hnu
  have htx' := Lib.hid htx
  have hra' := Lib.hid hraw
  have ht' := Lib.hid ht
  clear hG hps hpo hnu htx hraw ht
  go_enter Try.func18, Try.ntmps18
  go_wp2_with fail
  try rw [hW1]
  clear hW1
  go_loopw [2] (fun i wr => ∃ k : Nat, k ≤ mn ∧ i = .int .i64 k ∧ Hid (OvS T3 lo hi G M (M + k) w wr) ∧ Hid (OvS T3 lo hi G M (M + k) W1 wr)) (fun i _ => mn - (intOf i).toNat)
  case atStart => exact ⟨0, Nat.zero_le _, rfl, O1, Lib.hid (OvS.below (Below.refl _ _))⟩
  case round =>
    obtain ⟨k, hk, rfl, hO, hP⟩ := hrel
    have BD := Lib.hid (hP.out.other _ _ _ _ (by unfold T3; decide) B1.out)
    have p0 : wr.cell? ⟨w.heap.size, 0, none⟩ = some (.slice ma mn mc) := (BD.out.cell 0).trans rfl
    have p1 : wr.cell? ⟨w.heap.size, 1, none⟩ = some (.slice ua un uc) := (BD.out.cell 1).trans rfl
    have p2 : wr.cell? ⟨w.heap.size, 2, none⟩ = some (.slice xa xn xc) := (BD.out.cell 2).trans rfl
    have p3 : wr.cell? ⟨w.heap.size, 3, none⟩ = some (.slice ra rn rc) := (BD.out.cell 3).trans rfl
    by_cases hlt : k < mn
    · have hkI : (k : Int) < mn := by omega
      have hk0 : (0 : Int) ≤ k := by omega
      have hkl : k < ps.length := by omega
      have hrd := (own_rd_at (own_ov hps1.out (by unfold T3; decide) hP.out)).1
      obtain ⟨b, o, e, hbs, hc⟩ := hrd.addr (by omega)
      have c0 := hc k hkl 0 (by decide)
      have c1 : wr.cell? ⟨b, o + k, none⟩ = some (.slice ps[k].1 ps[k].2.1 ps[k].2.2) := by simpa [slN] using c0
      have hot := Lib.hid ((hpo1.out ps[k] (List.getElem_mem hkl)).ov hP.out)
      obtain ⟨⟨pa, pn, pc⟩, hp⟩ : ∃ p, ps[k] = p := ⟨_, rfl⟩
      rw [hp] at c1 hot
      dsimp only at c1 hot
      subst e
      clear hp c0 hc hrd
      have hcall := Lib.hid (over_txt (lo := lo) (hi := hi) (M := M + k) (by omega) hG'.out hot.out (hO.out.tb ht'.out))
      go_wp2_with fail
      refine hcall.out.mono ?_
      rintro e w2 ⟨rfl, hov⟩
      have h1 := Lib.hid (hO.out.trans hov)
      have h2 := Lib.hid (hP.out.trans hov)
      clear hov hcall
      go_wp2_with fail
      exact ⟨⟨k + 1, by omega, by go_num, h1, h2⟩, by simp [intOf]; omega⟩
    · have hkn : k = mn := by omega
      subst hkn
      obtain ⟨⟨mu, hu⟩, huh⟩ := hnu'.out
      obtain ⟨mu1, hu1⟩ := hO.out.nu _ _ hu
      have huh' := Lib.hid huh
      have hkk : Hid (∀ wf, OvS T3 lo hi G (M + k) (M + k) wr wf → OvS T3 lo hi G M (M + k) w wf) := Lib.hid (fun wf h => hO.out.trans h)
      have hmain : Hid (∀ wf, OvS T3 lo hi G (M + k) (M + k) wr wf → wf.cell? ⟨w.heap.size, 2, none⟩ = some (.slice xa xn xc) ∧ wf.cell? ⟨w.heap.size, 3, none⟩ = some (.slice ra rn rc) ∧ OT wf G (.slice xa xn xc) ∧ (∃ m, Own byteE wf lo (.slice ra rn rc) m) ∧ TB (M + k) wf G) := Lib.hid (fun wf h => by
        have B := h.other _ _ _ _ (by unfold T3; decide) BD.out
        obtain ⟨⟨m1, h1⟩, _⟩ := hra'.out
        exact ⟨(B.cell 2).trans rfl, (B.cell 3).trans rfl, (htx'.out.ov hO.out).ov h, by obtain ⟨m2, h2⟩ := hO.out.by_ _ _ h1; exact h.by_ _ _ h2, h.tb (hO.out.tb ht'.out)⟩)
      clear hu huh hlt hk hpl hps1 hpo1 hP
      rcases hu1 with ⟨e, _⟩ | ⟨g, cap, X, e, hgb, hB, hX, hle, hcm, _⟩
      · injection e with e1 e2 e3
        subst e1 e2 e3
        have hq : Hid (OvS T3 lo hi G (M + k) (M + k) wr wr) := Lib.hid (OvS.below (Below.refl _ _))
        have hx := p1
        go_wp2_with fail
        refine wp_loop_rounds 1 ?_
        rw [rounds_succ]
        have hk2 := hkk.out _ hq.out
        obtain ⟨q2, q3, t2, ⟨mb, b2⟩, tb2⟩ := hmain.out _ hq.out
        have hk2' := Lib.hid hk2
        have b2' := Lib.hid b2
        have hrh := Lib.hid hra'.out.2
        have hcall := Lib.hid (over_txt (lo := lo) (hi := hi) (M := M + k) (by omega) hG'.out t2 tb2)
        clear hk2 t2 b2 tb2
        go_wp2_with fail
        refine hcall.out.mono ?_
        rintro e wt ⟨rfl, hov⟩
        have BQ := (hq.out.trans hov).other _ _ _ _ (by unfold T3; decide) BD.out
        have q3 : wt.cell? ⟨w.heap.size, 3, none⟩ = some (.slice ra rn rc) := (BQ.cell 3).trans rfl
        have hov' := Lib.hid hov
        obtain ⟨mb3, b3⟩ := hov.by_ _ _ b2'.out
        have b3' := Lib.hid b3
        clear q2 BQ hov b3 hcall
        go_wp2_with fail
        refine (over_own2 b3'.out).mono ?_
        rintro e wz ⟨rfl, hg, hkb⟩
        have hfin := Lib.hid ((hk2'.out.trans hov'.out).trans (OvS.bytes (M := M + k + 1) b3'.out hg hkb hrh.out))
        clear hg hkb
        go_wp2_with fail
        go_end0
        exact ⟨rfl, hfin.out⟩
      · injection e with e1 e2 e3
        subst e1 e3
        have hgr0 : lo ≤ g ∧ g < hi := ⟨hgb, huh'.out g rfl⟩
        have hB' := Lib.hid hB
        obtain ⟨wv, rfl⟩ : ∃ wv, wv = wr := ⟨_, rfl⟩
        simp only [maxLen] at hcm
        have hun : un ≤ uc := by omega
        have hXu : X.length = uc := hX
        clear hB e2 hle hX
        go_wp2_with fail
        go_loopw [4] (fun i wq => ∃ (j : Nat) (Y : List Nat), j ≤ uc ∧ i = .int .i64 j ∧ Y.length = uc ∧ Hid (Blk wq g 30 (0, 0) (rowOf u32E Y)) ∧ Hid (wv.grownBy wq (some g))) (fun i _ => uc - (intOf i).toNat)
        case atStart => exact ⟨0, X, Nat.zero_le _, rfl, hXu, hB', Lib.hid ⟨rfl, rfl, rfl, Nat.le_refl _, fun _ _ _ => rfl⟩⟩
        case round =>
          obtain ⟨j, Y, hj, rfl, hYl, hBY, hgY⟩ := hrel
          by_cases hjl : j < uc
          · have hjI : (j : Int) < uc := by omega
            have hj0 : (0 : Int) ≤ j := by omega
            have hjY : j < Y.length := by omega
            obtain ⟨z, hz⟩ : ∃ z, Y[j] = z := ⟨_, rfl⟩
            have hcell : wr.cell? ⟨g, j, none⟩ = some (.int .u32 (z : Nat)) := by
              rw [hBY.out.cell, row_u32, List.getElem?_map, List.getElem?_eq_getElem hjY, hz]
              rfl
            have hfr : wr.frozen? ⟨g, j, none⟩ = false := by rw [hBY.out.frozen]; simp
            obtain ⟨y, hy⟩ : ∃ y : Nat, bits BinOp.xor IntKind.u32 (z : Int) 23130 = (y : Int) := ⟨_, (Int.toNat_of_nonneg (bits_lo_u32 _ _ _)).symm⟩
            have hB2 : Hid (Blk (wr.setCell ⟨g, j, none⟩ (.int .u32 (y : Nat))) g 30 (0, 0) (rowOf u32E (Y.set j y))) := Lib.hid (by
              have h9 := hBY.out.set j (.int .u32 (y : Nat))
              rw [row_u32, ← List.map_set (f := fun n : Nat => Value.int IntKind.u32 (n : Nat)), ← row_u32] at h9
              exact h9)
            have hg2 : Hid (wv.grownBy (wr.setCell ⟨g, j, none⟩ (.int .u32 (y : Nat))) (some g)) := Lib.hid ⟨hgY.out.os, hgY.out.tape, hgY.out.output, by have := hgY.out.size; simpa using this, fun i hi hne => (Below.heap_setCell _ _ _ i (fun e => hne (by rw [e]))).trans (hgY.out.block i hi hne)⟩
            clear hz
            go_wp2_with fail
            exact ⟨⟨j + 1, Y.set j y, by omega, by go_num, by rw [List.length_set]; exact hYl, hB2, hg2⟩, by simp [intOf]; omega⟩
          · have hjn : j = uc := by omega
            have hjI : ¬ (j : Int) < uc := by omega
            have hq : Hid (OvS T3 lo hi G (M + k) (M + k) wv wr) := Lib.hid (OvS.u32s hB'.out hBY.out (by omega) hgY.out hgr0)
            clear hBY hgY hYl
            have hk2 := hkk.out _ hq.out
            obtain ⟨q2, q3, t2, ⟨mb, b2⟩, tb2⟩ := hmain.out _ hq.out
            have hk2' := Lib.hid hk2
            have b2' := Lib.hid b2
            have hrh := Lib.hid hra'.out.2
            have hcall := Lib.hid (over_txt (lo := lo) (hi := hi) (M := M + k) (by omega) hG'.out t2 tb2)
            clear hk2 t2 b2 tb2
            go_wp2_with fail
            refine hcall.out.mono ?_
            rintro e wt ⟨rfl, hov⟩
            have BQ := (hq.out.trans hov).other _ _ _ _ (by unfold T3; decide) BD.out
            have q3 : wt.cell? ⟨w.heap.size, 3, none⟩ = some (.slice ra rn rc) := (BQ.cell 3).trans rfl
            have hov' := Lib.hid hov
            obtain ⟨mb3, b3⟩ := hov.by_ _ _ b2'.out
            have b3' := Lib.hid b3
            clear q2 BQ hov b3 hcall
            go_wp2_with fail
            refine (over_own2 b3'.out).mono ?_
            rintro e wz ⟨rfl, hg, hkb⟩
            have hfin := Lib.hid ((hk2'.out.trans hov'.out).trans (OvS.bytes (M := M + k + 1) b3'.out hg hkb hrh.out))
            clear hg hkb
            go_wp2_with fail
            go_end0
            exact ⟨rfl, hfin.out⟩
/-- a record of the call's own, whatever it holds -/
structure RecO (w : World) (lo hi : Nat) (G : Nat → Prop) (q : RD) : Prop where
  ow : OT w G (.slice q.oa q.on q.oc)
  nm : ∃ ps, Own slN w lo (.slice q.ma q.mn q.mc) ps ∧ ∀ p ∈ ps, OT w G (.slice p.1 p.2.1 p.2.2)
  nu : (∃ m, Own u32E w lo (.slice q.ua q.un q.uc) m) ∧ ∀ k, (Value.slice q.ua q.un q.uc).ownBlock = some k → k < hi
  tx : OT w G (.slice q.xa q.xn q.xc)
  raw : (∃ m, Own byteE w lo (.slice q.ra q.rn q.rc) m) ∧ ∀ k, (Value.slice q.ra q.rn q.rc).ownBlock = some k → k < hi
theorem RecO.ov {T : TypeId → Prop} (hT : ¬ T 26) {lo hi : Nat} {G : Nat → Prop} {M M' : Nat} {w w' : World} {q : RD} (h : RecO w lo hi G q) (k : OvS T lo hi G M M' w w') : RecO w' lo hi G q where
  ow := h.ow.ov k
  nm := by
    obtain ⟨ps, h1, h2⟩ := h.nm
    exact ⟨ps, own_ov h1 hT k, fun p hp => (h2 p hp).ov k⟩
  nu := ⟨by obtain ⟨m, hm⟩ := h.nu.1; exact k.nu _ _ hm, h.nu.2⟩
  tx := h.tx.ov k
  raw := ⟨by obtain ⟨m, hm⟩ := h.raw.1; exact k.by_ _ _ hm, h.raw.2⟩
theorem RecO.set {w : World} {lo hi : Nat} {G : Nat → Prop} {q : RD} (h : RecO w lo hi G q) (a b : Nat) : RecO w lo hi G { q with ttl := a, ty := b } := ⟨h.ow, h.nm, h.nu, h.tx, h.raw⟩
theorem OvS.rec_ {lo hi : Nat} {G : Nat → Prop} {M g : Nat} {w w' : World} {C : List Value} (hB : Blk w g 37 (0, 0) C) (hg : w.grownBy w' (some g)) (hr : lo ≤ g ∧ g < hi) : OvS T4 lo hi G M M w w' where
  tch := Tch.of_grown hg (fun k hk => by cases hk; exact hr)
  len := fun k C hC => ⟨C, hC.grownV2 hg (fun x => by
    have e := Option.some.inj x
    subst e
    exact absurd (blk_type hC hB) (by decide)), rfl⟩
  nu := fun v m hm => ⟨m, own_not hm hB (by decide) hg⟩
  by_ := fun v m hm => ⟨m, own_not hm hB (by decide) hg⟩
  tb := fun ht k hk => by
    obtain ⟨Y, h1, h2⟩ := ht k hk
    exact ⟨Y, h1.grownV2 hg (fun x => by
      have e := Option.some.inj x
      subst e
      exact absurd (blk_type h1 hB) (by decide)), h2⟩
  other := fun k t fz C ht hC => hC.grownV2 hg (fun x => by
    have e := Option.some.inj x
    subst e
    exact ht (.inr (blk_type hC hB)))
/-- the j-th record of a row -/
def RecC (w : World) (lo hi : Nat) (G : Nat → Prop) (K : Nat) (C : List Value) (j : Nat) : Prop := ∃ q : RD, (∀ i, i < 8 → C[j * 8 + i]? = q.cells[i]?) ∧ RecO w lo hi G q ∧ q.mn ≤ K
/-- records of the call's own, whatever they hold -/
def RowC (w : World) (lo hi : Nat) (G : Nat → Prop) (K : Nat) (v : Value) : Prop := v = .slice none 0 0 ∨ ∃ g n cap C, v = .slice (some ⟨g, 0, none⟩) n cap ∧ (lo ≤ g ∧ g < hi) ∧ Blk w g 37 (0, 0) C ∧ n ≤ 9223372036854775807 ∧ ∀ j, j < n → RecC w lo hi G K C j
theorem RecC.ov {T : TypeId → Prop} (hT : ¬ T 26) {lo hi K : Nat} {G : Nat → Prop} {M M' : Nat} {w w' : World} {C : List Value} {j : Nat} (h : RecC w lo hi G K C j) (k : OvS T lo hi G M M' w w') : RecC w' lo hi G K C j := by
  obtain ⟨q, h1, h2, h3⟩ := h
  exact ⟨q, h1, h2.ov hT k, h3⟩
theorem RowC.ov3 {lo hi K : Nat} {G : Nat → Prop} {M M' : Nat} {w w' : World} {v : Value} (h : RowC w lo hi G K v) (k : OvS T3 lo hi G M M' w w') : RowC w' lo hi G K v := by
  rcases h with h | ⟨g, n, cap, C, h1, h2, h3, h4, h5⟩
  · exact .inl h
  · exact .inr ⟨g, n, cap, C, h1, h2, k.other _ _ _ _ (by unfold T3; decide) h3, h4, fun j hj => (h5 j hj).ov (by unfold T3; decide) k⟩
theorem RowC.of {lo hi K : Nat} {G : Nat → Prop} {w : World} {v : Value} {qs : List RD} (h : Own recE w lo v qs) (hh : ∀ k, v.ownBlock = some k → k < hi) (hq : ∀ q ∈ qs, RecO w lo hi G q ∧ q.mn ≤ K) : RowC w lo hi G K v := by
  rcases h with ⟨h, _⟩ | ⟨g, cap, X, rfl, hgb, hB, hX, hle, hcm, htk, _⟩
  · exact .inl h
  · refine .inr ⟨g, _, cap, _, rfl, ⟨hgb, hh g rfl⟩, hB, by simp only [maxLen] at hcm; omega, fun j hj => ?_⟩
    have hjX : j < X.length := by omega
    refine ⟨X[j], fun i hi => rowOf_get recE X j i hjX hi, hq _ ?_⟩
    have e9 : qs[j]? = some X[j] := by rw [← htk, List.getElem?_take, if_pos (by omega), List.getElem?_eq_getElem hjX]
    exact List.mem_of_getElem? e9
theorem RowC.set {lo hi K : Nat} {G : Nat → Prop} {M g k i0 : Nat} {w V : World} {C : List Value} {x : Value} (upd : RD → RD) (hi0 : i0 < 8) (hu : ∀ q : RD, (upd q).cells = q.cells.set i0 x ∧ (upd q).mn = q.mn ∧ (RecO w lo hi G q → RecO w lo hi G (upd q))) (hB : Blk w g 37 (0, 0) C) (hV : w.setCell ⟨g, k * 8 + i0, none⟩ x = V) (hr : lo ≤ g ∧ g < hi) : OvS T4 lo hi G M M w V ∧ ∀ v, RowC w lo hi G K v → RowC V lo hi G K v := by
  have hg : w.grownBy V (some g) := by rw [← hV]; exact grown_set _ _ _ _
  have ho : OvS T4 lo hi G M M w V := OvS.rec_ hB hg hr
  refine ⟨ho, fun v hv => ?_⟩
  rcases hv with h | ⟨g', n, cap, C', h1, h2, h3, h4, h5⟩
  · exact .inl h
  · by_cases e : g' = g
    · subst e
      have eC := blk_cells h3 hB
      subst eC
      have hB' : Blk V g' 37 (0, 0) (C'.set (k * 8 + i0) x) := by rw [← hV]; exact h3.set _ _
      refine .inr ⟨g', n, cap, _, h1, h2, hB', h4, fun j hj => ?_⟩
      obtain ⟨q, q1, q2, q3⟩ := h5 j hj
      by_cases hjk : j = k
      · subst hjk
        refine ⟨upd q, fun i hi => ?_, ((hu q).2.2 q2).ov (by unfold T4 T3; decide) ho, by rw [(hu q).2.1]; exact q3⟩
        rw [(hu q).1]
        by_cases hii : i = i0
        · subst hii
          have hlen : j * 8 + i < C'.length := by
            have h9 := q1 i hi
            have h8 : q.cells[i]? = some (q.cells[i]'hi) := List.getElem?_eq_getElem (show i < q.cells.length from hi)
            rw [h8] at h9
            exact (List.getElem?_eq_some_iff.1 h9).1
          rw [List.getElem?_set_self hlen, List.getElem?_set_self (show i < q.cells.length from hi)]
        · rw [List.getElem?_set_ne (by omega), List.getElem?_set_ne (fun e => hii e.symm)]
          exact q1 i hi
      · refine ⟨q, fun i hi => ?_, q2.ov (by unfold T4 T3; decide) ho, q3⟩
        rw [List.getElem?_set_ne (by omega)]
        exact q1 i hi
    · exact .inr ⟨g', n, cap, C', h1, h2, h3.grownV2 hg (fun x => e (Option.some.inj x)), h4, fun j hj => (h5 j hj).ov (by unfold T4 T3; decide) ho⟩
set_option maxHeartbeats 8000000 in
set_option maxRecDepth 100000 in
theorem over_recs {lo hi M : Nat} {G : Nat → Prop} (hG : ∀ g, G g → lo ≤ g ∧ g < hi) {w : World} {a : Option Addr} {n c K : Nat} (ho : RowC w lo hi G K (.slice a n c)) (hK : K ≤ 1152921504606846976) (hM : M + n * (K + 3) ≤ 4611686018427387904) (ht : TB M w G) :
    Calls Try.prog 59 #[.slice a n c] w fun e w' => e = .returned (.tuple #[]) ∧ (∃ M', M' ≤ M + n * (K + 3) ∧ OvS T4 lo hi G M M' w w') ∧ ∀ v, RowC w lo hi G K v → RowC w' lo hi G K v := by
  by_cases hn0 : n = 0
  · subst hn0
    clear ho hM ht hG
    go_enter Try.func59, Try.ntmps59
    go_wp2_with fail
    refine wp_loop_rounds 1 ?_
    rw [rounds_succ]
    go_wp2_with fail
    go_end0
    exact ⟨rfl, ⟨M, by omega, OvS.below (Below.refl _ _)⟩, fun v h => h⟩
  have hnn : n ≤ 9223372036854775807 := by
    rcases ho with h | ⟨g, n', cap, C, h1, _, _, h4, _⟩
    · injection h; omega
    · injection h1; omega
  have hrow : Hid (∀ u, RowC u lo hi G K (.slice a n c) → ∃ g C, a = some ⟨g, 0, none⟩ ∧ (lo ≤ g ∧ g < hi) ∧ Blk u g 37 (0, 0) C ∧ ∀ j, j < n → RecC u lo hi G K C j) := Lib.hid (fun u h => by
    rcases h with h | ⟨g, n', cap, C, h1, h2, h3, h4, h5⟩
    · injection h; omega
    · injection h1 with e1 e2 e3
      subst e1 e2 e3
      exact ⟨g, C, rfl, h2, h3, h5⟩)
  have ho' := Lib.hid ho
  have hG' := Lib.hid hG
  have hM' := Lib.hid hM
  have ht' := Lib.hid ht
  clear ho hG hM ht
  go_enter Try.func59, Try.ntmps59
  go_wp2_with fail
  go_loopw [2] (fun i wr => ∃ (k Mk : Nat), k ≤ n ∧ i = .int .i64 k ∧ Mk ≤ M + k * (K + 3) ∧ Hid (OvS T4 lo hi G M Mk w wr) ∧ Hid (∀ v, RowC w lo hi G K v → RowC wr lo hi G K v)) (fun i _ => n - (intOf i).toNat)
  case atStart => exact ⟨0, M, Nat.zero_le _, rfl, by omega, Lib.hid (OvS.below (Below.refl _ _)), Lib.hid (fun v h => h)⟩
  case round =>
    obtain ⟨k, Mk, hk, rfl, hMk, hO, hR⟩ := hrel
    by_cases hlt : k < n
    · have hkI : (k : Int) < n := by omega
      have hk0 : (0 : Int) ≤ k := by omega
      have hMb : Hid (Mk + (K + 3) ≤ 4611686018427387904 ∧ Mk + (K + 3) ≤ M + (k + 1) * (K + 3)) := Lib.hid (by
        have h1 := hM'.out
        have h2 : (k + 1) * (K + 3) ≤ n * (K + 3) := Nat.mul_le_mul_right _ hlt
        have h3 : (k + 1) * (K + 3) = k * (K + 3) + (K + 3) := by rw [Nat.add_mul, Nat.one_mul]
        omega)
      have hT := Lib.hid (hO.out.tb ht'.out)
      obtain ⟨g, C, hga, hgr, hB0, hC0⟩ := hrow.out _ (hR.out _ ho'.out)
      obtain ⟨x, hxc, hxo, hmnK⟩ := hC0 k hlt
      have hB := Lib.hid hB0
      have hr0 := Lib.hid hxo
      have hgr0 := Lib.hid hgr
      have hxc' := Lib.hid hxc
      clear hB0 hC0 hxo hgr hxc
      subst hga
      have c0 : wr.cell? ⟨g, k * 8, none⟩ = some (.slice x.oa x.on x.oc) := (hB.out.cell (k * 8)).trans (hxc'.out 0 (by decide))
      have hcall := Lib.hid (over_txt (lo := lo) (hi := hi) (by have := hMb.out; omega) hG'.out hr0.out.ow hT.out)
      go_wp2_with fail
      refine hcall.out.mono ?_
      rintro e w1 ⟨rfl, hov⟩
      have hB1 := Lib.hid (hov.other _ _ _ _ (by unfold T3; decide) hB.out)
      have hr1 := Lib.hid (hr0.out.ov (by unfold T3; decide) hov)
      have ov1 := Lib.hid hov
      have hT1 := Lib.hid (hov.tb hT.out)
      clear hov hcall c0
      have c4 : w1.cell? ⟨g, k * 8 + 4, none⟩ = some (.slice x.ma x.mn x.mc) := (hB1.out.cell _).trans (hxc'.out 4 (by decide))
      have c5 : w1.cell? ⟨g, k * 8 + 5, none⟩ = some (.slice x.ua x.un x.uc) := (hB1.out.cell _).trans (hxc'.out 5 (by decide))
      have c6 : w1.cell? ⟨g, k * 8 + 6, none⟩ = some (.slice x.xa x.xn x.xc) := (hB1.out.cell _).trans (hxc'.out 6 (by decide))
      have c7 : w1.cell? ⟨g, k * 8 + 7, none⟩ = some (.slice x.ra x.rn x.rc) := (hB1.out.cell _).trans (hxc'.out 7 (by decide))
      have hcall := Lib.hid (over_data (lo := lo) (hi := hi) hG'.out (by have := hMb.out; omega) (by omega) hr1.out.nm hr1.out.nu hr1.out.tx hr1.out.raw hT1.out)
      go_wp2_with fail
      refine hcall.out.mono ?_
      rintro e w2 ⟨rfl, hov⟩
      have hB2 := Lib.hid (hov.other _ _ _ _ (by unfold T3; decide) hB1.out)
      have ov2 := Lib.hid (ov1.out.trans hov)
      clear hov hcall c4 c5 c6 c7 ov1 hT1 hB1 hr1 hr0
      have c3 : w2.cell? ⟨g, k * 8 + 3, none⟩ = some (.int .u32 x.ttl) := (hB2.out.cell _).trans (hxc'.out 3 (by decide))
      have f3 : w2.frozen? ⟨g, k * 8 + 3, none⟩ = false := by rw [hB2.out.frozen]; simp
      obtain ⟨y, hy⟩ : ∃ y : Nat, bits BinOp.xor IntKind.u32 (x.ttl : Int) 77 = (y : Int) := ⟨_, (Int.toNat_of_nonneg (bits_lo_u32 _ _ _)).symm⟩
      go_upto_region 6 with (fail)
      obtain ⟨V1, hV1⟩ : ∃ V, w2.setCell ⟨g, k * 8 + 3, none⟩ (.int .u32 (y : Nat)) = V := ⟨_, rfl⟩
      rw [hV1]
      obtain ⟨ov3, rw3⟩ := RowC.set (G := G) (K := K) (M := Mk + 1 + x.mn + 1) (fun q => { q with ttl := y }) (by decide) (fun q => ⟨rfl, rfl, fun h => ⟨h.ow, h.nm, h.nu, h.tx, h.raw⟩⟩) hB2.out hV1 hgr0.out
      have hB3 : Hid (Blk V1 g 37 (0, 0) (C.set (k * 8 + 3) (.int .u32 (y : Nat)))) := Lib.hid (by rw [← hV1]; exact hB2.out.set _ _)
      have ov3' := Lib.hid ov3
      have rw3' := Lib.hid rw3
      clear hV1 ov3 rw3 c3 f3 hy
      have c1 : V1.cell? ⟨g, k * 8 + 1, none⟩ = some (.int .u16 x.ty) := by
        rw [hB3.out.cell, List.getElem?_set_ne (by omega)]
        exact hxc'.out 1 (by decide)
      have f1 : V1.frozen? ⟨g, k * 8 + 1, none⟩ = false := by rw [hB3.out.frozen]; simp
      obtain ⟨y2, hy2⟩ : ∃ y : Nat, bits BinOp.xor IntKind.u16 (x.ty : Int) 77 = (y : Int) := ⟨_, (Int.toNat_of_nonneg (bits_lo_u16 _ _ _)).symm⟩
      obtain ⟨V2, hV2⟩ : ∃ V, V1.setCell ⟨g, k * 8 + 1, none⟩ (.int .u16 (y2 : Nat)) = V := ⟨_, rfl⟩
      obtain ⟨ov4, rw4⟩ := RowC.set (G := G) (K := K) (M := Mk + 1 + x.mn + 1) (fun q => { q with ty := y2 }) (by decide) (fun q => ⟨rfl, rfl, fun h => ⟨h.ow, h.nm, h.nu, h.tx, h.raw⟩⟩) hB3.out hV2 hgr0.out
      have hO4 := Lib.hid (hO.out.trans ((ov2.out.wide.trans ov3'.out).trans ov4))
      have hR4 : Hid (∀ v, RowC w lo hi G K v → RowC V2 lo hi G K v) := Lib.hid (fun v h => rw4 v (rw3'.out v ((hR.out v h).ov3 ov2.out)))
      have hMk4 : Mk + 1 + x.mn + 1 ≤ M + (k + 1) * (K + 3) := by have := hMb.out; omega
      clear ov3' ov4 rw3' rw4 ov2 hB2 hB3 hR hO hT hB hxc' hrow
      go_wp2_with fail
      try rw [hV2]
      exact ⟨⟨k + 1, _, by omega, by go_num, hMk4, hO4, hR4⟩, by simp [intOf]; omega⟩
    · have hkn : k = n := by omega
      have hkI : ¬ (k : Int) < n := by omega
      have hfin : Hid (∃ M', M' ≤ M + n * (K + 3) ∧ OvS T4 lo hi G M M' w wr) := Lib.hid ⟨Mk, by rw [← hkn]; exact hMk, hO.out⟩
      clear hMk hM' hrow
      go_wp2_with fail
      go_end0
      exact ⟨rfl, hfin.out, hR.out⟩
set_option maxHeartbeats 8000000 in
set_option maxRecDepth 100000 in
theorem over_msg {lo hi M : Nat} {G : Nat → Prop} (hG : ∀ g, G g → lo ≤ g ∧ g < hi) {w : World} {qa : Option Addr} {qn qc : Nat} {an : Option Addr} {nn1 nc1 : Nat} {au : Option Addr} {nn2 nc2 : Nat} {ad : Option Addr} {nn3 nc3 K : Nat} {qds : List QD} (hq : Own qsE w lo (.slice qa qn qc) qds) (hqo : ∀ q ∈ qds, OT w G (.slice q.na q.nn q.nc))
    (h1 : RowC w lo hi G K (.slice an nn1 nc1)) (h2 : RowC w lo hi G K (.slice au nn2 nc2)) (h3 : RowC w lo hi G K (.slice ad nn3 nc3)) (hK : K ≤ 1152921504606846976) (hqn : qn ≤ 1152921504606846976) (hM : M + qn + (nn1 * (K + 3) + nn2 * (K + 3) + nn3 * (K + 3)) ≤ 4611686018427387904) (ht : TB M w G) (m0 m1 m2 m3 m4 m5 m6 m7 m8 m9 : Value) :
    Calls Try.prog 32 #[.agg #[m0, m1, m2, m3, m4, m5, m6, m7, m8, m9, .slice qa qn qc, .slice an nn1 nc1, .slice au nn2 nc2, .slice ad nn3 nc3]] w fun e w' => e = .returned (.tuple #[]) ∧ Tch (Rg lo hi) w w' := by
  obtain ⟨W1, hW1⟩ : ∃ W, w.alloc (.cells #[m0, m1, m2, m3, m4, m5, m6, m7, m8, m9, .slice qa qn qc, .slice an nn1 nc1, .slice au nn2 nc2, .slice ad nn3 nc3] 60) = W := ⟨_, rfl⟩
  have B1 : Hid (Blk W1 w.heap.size 60 (0, 0) [m0, m1, m2, m3, m4, m5, m6, m7, m8, m9, .slice qa qn qc, .slice an nn1 nc1, .slice au nn2 nc2, .slice ad nn3 nc3]) := Lib.hid (by rw [← hW1]; exact Blk.new w 60 (0, 0) #[m0, m1, m2, m3, m4, m5, m6, m7, m8, m9, .slice qa qn qc, .slice an nn1 nc1, .slice au nn2 nc2, .slice ad nn3 nc3])
  have k1 : Hid (Below w.heap.size w W1) := Lib.hid (by rw [← hW1]; exact alloc_bel _ _)
  have O1 : Hid (OvS T3 lo hi G M M w W1) := Lib.hid (OvS.below k1.out)
  have hql := (own_rd_at hq).2
  have hq1 := Lib.hid (own_ov hq (by unfold T3; decide) O1.out)
  have hqo1 : Hid (∀ q ∈ qds, OT W1 G (.slice q.na q.nn q.nc)) := Lib.hid (fun q hx => (hqo q hx).ov O1.out)
  have r1 := Lib.hid (h1.ov3 O1.out)
  have r2 := Lib.hid (h2.ov3 O1.out)
  have r3 := Lib.hid (h3.ov3 O1.out)
  have hG' := Lib.hid hG
  have ht' := Lib.hid ht
  have hM' := Lib.hid hM
  have hMq : M + qn ≤ 4611686018427387904 := by omega
  clear hq hqo h1 h2 h3 hG ht hM
  go_enter Try.func32, Try.ntmps32
  go_wp2_with fail
  try rw [hW1]
  clear hW1
  go_loopw [2] (fun i wr => ∃ k : Nat, k ≤ qn ∧ i = .int .i64 k ∧ Hid (OvS T3 lo hi G M (M + k) w wr) ∧ Hid (OvS T3 lo hi G M (M + k) W1 wr)) (fun i _ => qn - (intOf i).toNat)
  case atStart => exact ⟨0, Nat.zero_le _, rfl, O1, Lib.hid (OvS.below (Below.refl _ _))⟩
  case round =>
    obtain ⟨k, hk, rfl, hO, hP⟩ := hrel
    have BD := Lib.hid (hP.out.other _ _ _ _ (by unfold T3; decide) B1.out)
    have p10 : wr.cell? ⟨w.heap.size, 10, none⟩ = some (.slice qa qn qc) := (BD.out.cell 10).trans rfl
    by_cases hlt : k < qn
    · have hkI : (k : Int) < qn := by omega
      have hk0 : (0 : Int) ≤ k := by omega
      have hkl : k < qds.length := by omega
      obtain ⟨b, o, e, hbs, hc⟩ := rd_qs (own_rd_at (own_ov hq1.out (by unfold T3; decide) hP.out)).1 (by omega)
      obtain ⟨c0, c1, c2⟩ := hc k hkl
      have hot := Lib.hid ((hqo1.out qds[k] (List.getElem_mem hkl)).ov hP.out)
      obtain ⟨⟨xa, xn, xc, xt, xk⟩, hx⟩ : ∃ x, qds[k] = x := ⟨_, rfl⟩
      rw [hx] at c0 c1 c2 hot
      dsimp only at c0 c1 c2 hot
      subst e
      clear hx hc c1 c2
      have hcall := Lib.hid (over_txt (lo := lo) (hi := hi) (M := M + k) (by omega) hG'.out hot.out (hO.out.tb ht'.out))
      go_wp2_with fail
      refine hcall.out.mono ?_
      rintro e w2 ⟨rfl, hov⟩
      have h1 := Lib.hid (hO.out.trans hov)
      have h2 := Lib.hid (hP.out.trans hov)
      clear hov hcall
      go_wp2_with fail
      exact ⟨⟨k + 1, by omega, by go_num, h1, h2⟩, by simp [intOf]; omega⟩
    · have hkn : k = qn := by omega
      have hkI : ¬ (k : Int) < qn := by omega
      have hMk : Hid (M + k + (nn1 * (K + 3) + nn2 * (K + 3) + nn3 * (K + 3)) ≤ 4611686018427387904) := Lib.hid (by rw [hkn]; exact hM'.out)
      have p11 : wr.cell? ⟨w.heap.size, 11, none⟩ = some (.slice an nn1 nc1) := (BD.out.cell 11).trans rfl
      have r1' := Lib.hid (r1.out.ov3 hP.out)
      have r2' := Lib.hid (r2.out.ov3 hP.out)
      have r3' := Lib.hid (r3.out.ov3 hP.out)
      have htk := Lib.hid (hO.out.tb ht'.out)
      have hcall := Lib.hid (over_recs (lo := lo) (hi := hi) hG'.out r1'.out hK (by have := hMk.out; omega) htk.out)
      clear hkn hMq hk hql r1 r2 r3 hM' hq1 hqo1
      go_wp2_with fail
      refine hcall.out.mono ?_
      rintro e w2 ⟨rfl, ⟨M2, hM2, hov⟩, hrw⟩
      have o2 := Lib.hid (hO.out.wide.trans hov)
      have B2 := Lib.hid (hov.other _ _ _ _ (by unfold T4 T3; decide) BD.out)
      have s2 := Lib.hid (hrw _ r2'.out)
      have s3 := Lib.hid (hrw _ r3'.out)
      have t2 := Lib.hid (hov.tb htk.out)
      have p12 : w2.cell? ⟨w.heap.size, 12, none⟩ = some (.slice au nn2 nc2) := (B2.out.cell 12).trans rfl
      have hM2' := Lib.hid hM2
      clear hov hrw hcall p10 p11 r1' r2' r3' hM2
      have hcall := Lib.hid (over_recs (lo := lo) (hi := hi) hG'.out s2.out hK (by have := hMk.out; have := hM2'.out; omega) t2.out)
      go_wp2_with fail
      refine hcall.out.mono ?_
      rintro e w3 ⟨rfl, ⟨M3, hM3, hov⟩, hrw⟩
      have o3 := Lib.hid (o2.out.trans hov)
      have B3 := Lib.hid (hov.other _ _ _ _ (by unfold T4 T3; decide) B2.out)
      have q3 := Lib.hid (hrw _ s3.out)
      have t3 := Lib.hid (hov.tb t2.out)
      have p13 : w3.cell? ⟨w.heap.size, 13, none⟩ = some (.slice ad nn3 nc3) := (B3.out.cell 13).trans rfl
      have hM3' := Lib.hid hM3
      clear hov hrw hcall p12 s2 s3 hM3
      have hcall := Lib.hid (over_recs (lo := lo) (hi := hi) hG'.out q3.out hK (by have := hMk.out; have := hM2'.out; have := hM3'.out; omega) t3.out)
      go_wp2_with fail
      refine hcall.out.mono ?_
      rintro e w4 ⟨rfl, ⟨M4, hM4, hov⟩, _⟩
      have o4 := Lib.hid (o3.out.trans hov)
      clear hov hcall p13 hM4
      go_wp2_with fail
      go_end0
      exact ⟨rfl, o4.out.tch⟩
end Go.Proofs.Ythgnlbdolilklaa
