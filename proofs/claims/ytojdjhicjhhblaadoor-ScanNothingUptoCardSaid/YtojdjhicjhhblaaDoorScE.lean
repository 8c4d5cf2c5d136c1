/- The scanner: regions that append (word 36, entry 47). Printed by gen_sce.py. -/
import Derived.Test.YtojdjhicjhhblaaDoorScN
import Derived.OwnWalk
import Derived.Deep.RegionHeld3
namespace Go.Proofs.YtojdjhicjhhblaaDoor
open Go Go.RowKit
set_option maxHeartbeats 8000000 in
set_option maxRecDepth 100000 in
theorem entry_reg (p0 : String) {W : World} {Q : Exit → Act → World → Prop} (t1 t2 t3 t4 t5 t6 t7 t8 t9 t10 t11 t12 t13 t14 t15 t16 t17 t18 t19 t20 t21 t22 t23 t24 t25 t26 t27 t28 : Value) (g base : Nat) {va : Option Addr} {vn vc : Nat} {l : List ED} (y0 y1 y2 y3 y4 y5 y9 y11 y12 : Value) (el : Int) (bl : Bool) (wa : Option Addr) (wn wc : Nat)
    (kb : Blk W g 62 (0, 0) [y0, y1, y2, y3, y4, y5, .int .i64 el, .bool bl, .slice wa wn wc, y9, .slice va vn vc, y11, y12])
    (ho0 : Own enE W base (.slice va vn vc) l)
    (hl : l.length = vn)
    (hb0 : base ≤ W.heap.size)
    (hvn : vn ≤ 70000)
    (hq : ∀ (x9 x10 x11 x12 x13 x14 x15 x16 x17 x18 x19 x20 x21 : Value) (V V1 : World) (a c : _) (_ : W.grownBy V1 (Value.slice va vn vc).ownBlock) (_ : V1.grownBy V (some g)) (_ : Blk V g 62 (0, 0) [y0, y1, y2, y3, y4, y5, .int .i64 el, .bool bl, .slice wa wn wc, y9, .slice a (vn + 1) c, y11, y12]) (_ : Own enE V base (.slice a (vn + 1) c) (l ++ [(⟨el, bl, wa, wn, wc⟩ : ED)])), Q .normal { tmps := #[.pointer (some ⟨g, 0, none⟩), t1, t2, t3, t4, t5, t6, t7, t8, x9, x10, x11, x12, x13, x14, x15, x16, x17, x18, x19, x20, x21, t22, t23, t24, t25, t26, t27, t28], defers := [] } V) :
    Code.wp Tryd.prog (Code.region 1 (#[{ dst := some 9, op := Op.move (Operand.tmp 0), type := 59, pos := p0, after := #[], guard := none }, { dst := some 10, op := Op.move (Operand.tmp 0), type := 59, pos := p0, after := #[], guard := none }, { dst := some 11, op := Op.nilCheck (Operand.tmp 10), type := 0, pos := p0, after := #[{ on := 1, ground := Ground.data }], guard := none }, { dst := some 12, op := Op.fieldAddr 62 (Operand.tmp 11) 8, type := 0, pos := p0, after := #[{ on := 2, ground := Ground.data }], guard := none }, { dst := some 13, op := Op.load 22 (Operand.tmp 12), type := 22, pos := p0, after := #[{ on := 3, ground := Ground.data }], guard := none }, { dst := some 14, op := Op.move (Operand.tmp 0), type := 59, pos := p0, after := #[], guard := none }, { dst := some 15, op := Op.nilCheck (Operand.tmp 14), type := 0, pos := p0, after := #[{ on := 5, ground := Ground.data }], guard := none }, { dst := some 16, op := Op.fieldAddr 62 (Operand.tmp 15) 6, type := 0, pos := p0, after := #[{ on := 6, ground := Ground.data }], guard := none }, { dst := some 17, op := Op.load 34 (Operand.tmp 16), type := 34, pos := p0, after := #[{ on := 7, ground := Ground.data }], guard := none }, { dst := some 18, op := Op.buildSlice 22 1 #[(0, Operand.tmp 17)], type := 22, pos := p0, after := #[{ on := 8, ground := Ground.data }], guard := none }, { dst := some 19, op := Op.call { callee := Callee.builtin Builtin.append, args := #[Operand.tmp 13, Operand.tmp 18], argTypes := #[22, 22] }, type := 22, pos := p0, after := #[{ on := 4, ground := Ground.data }, { on := 9, ground := Ground.data }], guard := none }, { dst := some 20, op := Op.nilCheck (Operand.tmp 9), type := 0, pos := p0, after := #[{ on := 0, ground := Ground.data }, { on := 0, ground := Ground.phase }, { on := 1, ground := Ground.phase }, { on := 2, ground := Ground.phase }, { on := 3, ground := Ground.phase }, { on := 4, ground := Ground.phase }, { on := 5, ground := Ground.phase }, { on := 6, ground := Ground.phase }, { on := 7, ground := Ground.phase }, { on := 8, ground := Ground.phase }, { on := 9, ground := Ground.phase }, { on := 10, ground := Ground.phase }], guard := none }, { dst := some 21, op := Op.fieldAddr 62 (Operand.tmp 20) 8, type := 0, pos := p0, after := #[{ on := 11, ground := Ground.data }, { on := 0, ground := Ground.phase }, { on := 1, ground := Ground.phase }, { on := 2, ground := Ground.phase }, { on := 3, ground := Ground.phase }, { on := 4, ground := Ground.phase }, { on := 5, ground := Ground.phase }, { on := 6, ground := Ground.phase }, { on := 7, ground := Ground.phase }, { on := 8, ground := Ground.phase }, { on := 9, ground := Ground.phase }, { on := 10, ground := Ground.phase }], guard := none }, { dst := none, op := Op.store 22 (Operand.tmp 21) (Operand.tmp 19), type := 0, pos := p0, after := #[{ on := 12, ground := Ground.data }, { on := 10, ground := Ground.data }, { on := 10, ground := Ground.chain }, { on := 0, ground := Ground.phase }, { on := 1, ground := Ground.phase }, { on := 2, ground := Ground.phase }, { on := 3, ground := Ground.phase }, { on := 4, ground := Ground.phase }, { on := 5, ground := Ground.phase }, { on := 6, ground := Ground.phase }, { on := 7, ground := Ground.phase }, { on := 8, ground := Ground.phase }, { on := 9, ground := Ground.phase }, { on := 10, ground := Ground.phase }], guard := none }] : Array Oper) true) Q { tmps := #[.pointer (some ⟨g, 0, none⟩), t1, t2, t3, t4, t5, t6, t7, t8, t9, t10, t11, t12, t13, t14, t15, t16, t17, t18, t19, t20, t21, t22, t23, t24, t25, t26, t27, t28], defers := [] } W := by
  have HQ := Lib.hid hq
  clear hq
  have KB := Lib.hid kb
  have L0 := Lib.hid ho0
  have hll := Lib.hid hl
  have hbb := Lib.hid hb0
  clear kb ho0 hl hb0
  have k0 : Hid (W.drew.cell? ⟨g, 6, none⟩ = some (.int .i64 el) ∧ W.drew.cell? ⟨g, 7, none⟩ = some (.bool bl) ∧ W.drew.cell? ⟨g, 8, none⟩ = some (.slice wa wn wc)) := Lib.hid ⟨(KB.out.drew.cell 6).trans rfl, (KB.out.drew.cell 7).trans rfl, (KB.out.drew.cell 8).trans rfl⟩
  have kb0 : Hid (Below W.heap.size W W.drew) := Lib.hid (Below.refl _ _).drew
  have B0 := Lib.hid KB.out.drew
  have LL0 := Lib.hid (L0.out.ext kb0.out)
  obtain ⟨j0, hj, jz0, jz1, jz2⟩ := info_parts Tryd.info34
  refine wp_region_noPanic ?_
  refine wp_region_held_drew (S := fun V => V.cell? ⟨g, 6, none⟩ = some (.int .i64 el) ∧ V.cell? ⟨g, 7, none⟩ = some (.bool bl) ∧ V.cell? ⟨g, 8, none⟩ = some (.slice wa wn wc)) (by kernel_rfl) k0.out (fun hHeld => ?_)
  clear hHeld
  obtain ⟨U0, hU0⟩ : ∃ x, W.drew = x := ⟨_, rfl⟩
  rw [hU0] at k0 kb0 B0 LL0 ⊢
  clear hU0
  refine wpAnyH_take (i := 0) (oi := { dst := some 9, op := Op.move (Operand.tmp 0), type := 59, pos := p0, after := #[], guard := none }) (v := ?_) rfl (by kernel_rfl) (by kernel_rfl) (by kernel_rfl) (fun _ _ _ h => h) (Or.inl ⟨by rfl, ?_⟩) (by assumption) ?_
  rotate_left
  · intro V hSV
    clear hSV
    go_simp
    first | done | with_reducible rfl
  try simp only [Act.put, List.setIfInBounds_toArray, List.set_cons_zero, List.set_cons_succ]
  refine wpAnyH_take (i := 1) (oi := { dst := some 10, op := Op.move (Operand.tmp 0), type := 59, pos := p0, after := #[], guard := none }) (v := ?_) rfl (by kernel_rfl) (by kernel_rfl) (by kernel_rfl) (fun _ _ _ h => h) (Or.inl ⟨by rfl, ?_⟩) (by assumption) ?_
  rotate_left
  · intro V hSV
    clear hSV
    go_simp
    first | done | with_reducible rfl
  try simp only [Act.put, List.setIfInBounds_toArray, List.set_cons_zero, List.set_cons_succ]
  refine wpAnyH_take (i := 2) (oi := { dst := some 11, op := Op.nilCheck (Operand.tmp 10), type := 0, pos := p0, after := #[{ on := 1, ground := Ground.data }], guard := none }) (v := ?_) rfl (by kernel_rfl) (by kernel_rfl) (by kernel_rfl) (fun _ _ _ h => h) (Or.inl ⟨by rfl, ?_⟩) (by assumption) ?_
  rotate_left
  · intro V hSV
    clear hSV
    go_simp
    first | done | with_reducible rfl
  try simp only [Act.put, List.setIfInBounds_toArray, List.set_cons_zero, List.set_cons_succ]
  refine wpAnyH_take (i := 3) (oi := { dst := some 12, op := Op.fieldAddr 62 (Operand.tmp 11) 8, type := 0, pos := p0, after := #[{ on := 2, ground := Ground.data }], guard := none }) (v := ?_) rfl (by kernel_rfl) (by kernel_rfl) (by kernel_rfl) (fun _ _ _ h => h) (Or.inl ⟨by rfl, ?_⟩) (by assumption) ?_
  rotate_left
  · intro V hSV
    clear hSV
    go_simp
    first | done | with_reducible rfl
  try simp only [Act.put, List.setIfInBounds_toArray, List.set_cons_zero, List.set_cons_succ]
  refine wpAnyH_take (i := 5) (oi := { dst := some 14, op := Op.move (Operand.tmp 0), type := 59, pos := p0, after := #[], guard := none }) (v := ?_) rfl (by kernel_rfl) (by kernel_rfl) (by kernel_rfl) (fun _ _ _ h => h) (Or.inl ⟨by rfl, ?_⟩) (by assumption) ?_
  rotate_left
  · intro V hSV
    clear hSV
    go_simp
    first | done | with_reducible rfl
  try simp only [Act.put, List.setIfInBounds_toArray, List.set_cons_zero, List.set_cons_succ]
  refine wpAnyH_take (i := 6) (oi := { dst := some 15, op := Op.nilCheck (Operand.tmp 14), type := 0, pos := p0, after := #[{ on := 5, ground := Ground.data }], guard := none }) (v := ?_) rfl (by kernel_rfl) (by kernel_rfl) (by kernel_rfl) (fun _ _ _ h => h) (Or.inl ⟨by rfl, ?_⟩) (by assumption) ?_
  rotate_left
  · intro V hSV
    clear hSV
    go_simp
    first | done | with_reducible rfl
  try simp only [Act.put, List.setIfInBounds_toArray, List.set_cons_zero, List.set_cons_succ]
  refine wpAnyH_take (i := 7) (oi := { dst := some 16, op := Op.fieldAddr 62 (Operand.tmp 15) 6, type := 0, pos := p0, after := #[{ on := 6, ground := Ground.data }], guard := none }) (v := ?_) rfl (by kernel_rfl) (by kernel_rfl) (by kernel_rfl) (fun _ _ _ h => h) (Or.inl ⟨by rfl, ?_⟩) (by assumption) ?_
  rotate_left
  · intro V hSV
    clear hSV
    go_simp
    first | done | with_reducible rfl
  try simp only [Act.put, List.setIfInBounds_toArray, List.set_cons_zero, List.set_cons_succ]
  refine wpAnyH_take (i := 8) (oi := { dst := some 17, op := Op.load 34 (Operand.tmp 16), type := 34, pos := p0, after := #[{ on := 7, ground := Ground.data }], guard := none }) (v := ?_) rfl (by kernel_rfl) (by kernel_rfl) (by kernel_rfl) (fun _ _ _ h => h) (Or.inl ⟨by rfl, ?_⟩) (by assumption) ?_
  rotate_left
  · intro V hSV
    obtain ⟨z6, z7, z8⟩ := hSV
    go_simp
    first | done | with_reducible rfl
  try simp only [Act.put, List.setIfInBounds_toArray, List.set_cons_zero, List.set_cons_succ]
  refine wpAnyH_ready (rs := [4, 9]) (by kernel_rfl) (by simp) ?_
  refine AllReadyH.cons (o := { dst := some 13, op := Op.load 22 (Operand.tmp 12), type := 22, pos := p0, after := #[{ on := 3, ground := Ground.data }], guard := none }) rfl (fun K hK => ?_) ?_
  · have z : U0.cell? ⟨g, 10, none⟩ = some (.slice va vn vc) := (B0.out.cell 10).trans rfl
    go_simp
    clear z
    refine hK.out _ _ ⟨(B0.out.cell 6).trans rfl, (B0.out.cell 7).trans rfl, (B0.out.cell 8).trans rfl⟩ (fun hHeld => ?_)
    clear hK K
    try simp only [Act.put, List.setIfInBounds_toArray, List.set_cons_zero, List.set_cons_succ]
    refine wpAnyH_ready (rs := [9]) (by kernel_rfl) (by simp) ?_
    refine AllReadyH.cons (o := { dst := some 18, op := Op.buildSlice 22 1 #[(0, Operand.tmp 17)], type := 22, pos := p0, after := #[{ on := 8, ground := Ground.data }], guard := none }) rfl (fun K hK => ?_) ?_
    · go_simp
      obtain ⟨V2, e2⟩ : ∃ U, U0.alloc (.cells #[.int .i64 el, .bool bl, .slice wa wn wc] 34) = U := ⟨_, rfl⟩
      have mm : Below U0.heap.size U0 V2 := by rw [← e2]; exact alloc_bel _ _
      have N2 : Hid (Blk V2 U0.heap.size 34 (0, 0) [.int .i64 el, .bool bl, .slice wa wn wc]) := Lib.hid (by rw [← e2]; exact Blk.new U0 34 (0, 0) #[.int .i64 el, .bool bl, .slice wa wn wc])
      have B2 := Lib.hid (B0.out.below mm B0.out.lt)
      have L2 := Lib.hid (LL0.out.ext mm)
      have k2 := Lib.hid (kb0.out.trans (mm.mono kb0.out.size))
      rw [e2]
      clear e2 mm B0 LL0 kb0
      refine hK.out _ _ ⟨(B2.out.cell 6).trans rfl, (B2.out.cell 7).trans rfl, (B2.out.cell 8).trans rfl⟩ (fun hHeld => ?_)
      clear hK K
      try simp only [Act.put, List.setIfInBounds_toArray, List.set_cons_zero, List.set_cons_succ]
      refine wpAnyH_ready (rs := [10]) (by kernel_rfl) (by simp) ?_
      refine AllReadyH.cons (o := { dst := some 19, op := Op.call { callee := Callee.builtin Builtin.append, args := #[Operand.tmp 13, Operand.tmp 18], argTypes := #[22, 22] }, type := 22, pos := p0, after := #[{ on := 4, ground := Ground.data }, { on := 9, ground := Ground.data }], guard := none }) rfl (fun K hK => ?_) ?_
      · have hsrc := (rd_blk (E := enE) (X := [(⟨el, bl, wa, wn, wc⟩ : ED)]) (fz := (0, 0)) N2.out 1 rfl (by decide)).src (P := Tryd.prog) (tx := 22) Tryd.underlying22
        refine step_own (E := enE) (l := l) (news := [(⟨el, bl, wa, wn, wc⟩ : ED)]) (base := base) (by rfl) (.tmp 13) (.tmp 18) 22 22 (by rfl) Tryd.underlying22 hj jz0 jz1 jz2 rfl (by rfl) L2.out (by rfl) hsrc (by rw [hll.out]; simp [maxLen]; omega) (by rw [hll.out]; simp; omega) (Nat.le_trans hbb.out k2.out.size) ?_
        intro v3 V3 ho hg hx
        obtain ⟨a3, c3, rfl⟩ := ho.shape
        have hln : (l ++ [(⟨el, bl, wa, wn, wc⟩ : ED)]).length = vn + 1 := by rw [List.length_append, hll.out]; rfl
        rw [hln] at ho ⊢
        have B3 := Lib.hid (blk_own B2.out L2.out (by decide) hg)
        have L3 := Lib.hid ho
        have G3 := Lib.hid (grown_trans (grown_of_below (r := (Value.slice va vn vc).ownBlock) k2.out) hg)
        clear hsrc ho hg hx hln B2 L2 k2 N2
        refine hK.out _ _ ⟨(B3.out.cell 6).trans rfl, (B3.out.cell 7).trans rfl, (B3.out.cell 8).trans rfl⟩ (fun hHeld => ?_)
        clear hK K
        try simp only [Act.put, List.setIfInBounds_toArray, List.set_cons_zero, List.set_cons_succ]
        refine wpAnyH_take (i := 11) (oi := { dst := some 20, op := Op.nilCheck (Operand.tmp 9), type := 0, pos := p0, after := #[{ on := 0, ground := Ground.data }, { on := 0, ground := Ground.phase }, { on := 1, ground := Ground.phase }, { on := 2, ground := Ground.phase }, { on := 3, ground := Ground.phase }, { on := 4, ground := Ground.phase }, { on := 5, ground := Ground.phase }, { on := 6, ground := Ground.phase }, { on := 7, ground := Ground.phase }, { on := 8, ground := Ground.phase }, { on := 9, ground := Ground.phase }, { on := 10, ground := Ground.phase }], guard := none }) (v := ?_) rfl (by kernel_rfl) (by kernel_rfl) (by kernel_rfl) (fun _ _ _ h => h) (Or.inl ⟨by rfl, ?_⟩) (by assumption) ?_
        rotate_left
        · intro V hSV
          clear hSV
          go_simp
          first | done | with_reducible rfl
        try simp only [Act.put, List.setIfInBounds_toArray, List.set_cons_zero, List.set_cons_succ]
        refine wpAnyH_take (i := 12) (oi := { dst := some 21, op := Op.fieldAddr 62 (Operand.tmp 20) 8, type := 0, pos := p0, after := #[{ on := 11, ground := Ground.data }, { on := 0, ground := Ground.phase }, { on := 1, ground := Ground.phase }, { on := 2, ground := Ground.phase }, { on := 3, ground := Ground.phase }, { on := 4, ground := Ground.phase }, { on := 5, ground := Ground.phase }, { on := 6, ground := Ground.phase }, { on := 7, ground := Ground.phase }, { on := 8, ground := Ground.phase }, { on := 9, ground := Ground.phase }, { on := 10, ground := Ground.phase }], guard := none }) (v := ?_) rfl (by kernel_rfl) (by kernel_rfl) (by kernel_rfl) (fun _ _ _ h => h) (Or.inl ⟨by rfl, ?_⟩) (by assumption) ?_
        rotate_left
        · intro V hSV
          clear hSV
          go_simp
          first | done | with_reducible rfl
        try simp only [Act.put, List.setIfInBounds_toArray, List.set_cons_zero, List.set_cons_succ]
        refine wpAnyH_ready (rs := [13]) (by kernel_rfl) (by simp) ?_
        refine AllReadyH.cons (o := { dst := none, op := Op.store 22 (Operand.tmp 21) (Operand.tmp 19), type := 0, pos := p0, after := #[{ on := 12, ground := Ground.data }, { on := 10, ground := Ground.data }, { on := 10, ground := Ground.chain }, { on := 0, ground := Ground.phase }, { on := 1, ground := Ground.phase }, { on := 2, ground := Ground.phase }, { on := 3, ground := Ground.phase }, { on := 4, ground := Ground.phase }, { on := 5, ground := Ground.phase }, { on := 6, ground := Ground.phase }, { on := 7, ground := Ground.phase }, { on := 8, ground := Ground.phase }, { on := 9, ground := Ground.phase }, { on := 10, ground := Ground.phase }], guard := none }) rfl (fun K hK => ?_) ?_
        · have z : V3.cell? ⟨g, 10, none⟩ = some (.slice va vn vc) := (B3.out.cell 10).trans rfl
          have z2 : V3.frozen? ⟨g, 10, none⟩ = false := by rw [B3.out.frozen]; try simp
          go_simp
          clear z z2
          obtain ⟨V4, hV⟩ : ∃ V, V3.setCell ⟨g, 10, none⟩ (.slice a3 (vn + 1) c3) = V := ⟨_, rfl⟩
          rw [hV]
          have T4 : Hid (V3.grownBy V4 (some g)) := Lib.hid (by rw [← hV]; exact grown_set _ _ _ _)
          have B4 : Hid (Blk V4 g 62 (0, 0) [y0, y1, y2, y3, y4, y5, .int .i64 el, .bool bl, .slice wa wn wc, y9, .slice a3 (vn + 1) c3, y11, y12]) := Lib.hid (by rw [← hV]; exact B3.out.set 10 _)
          have L4 := Lib.hid (own_store L3.out B3.out (by decide) T4.out)
          clear hV B3 L3
          refine hK.out _ _ ⟨(B4.out.cell 6).trans rfl, (B4.out.cell 7).trans rfl, (B4.out.cell 8).trans rfl⟩ (fun hHeld => ?_)
          clear hK K
          refine wpAnyH_done (by kernel_rfl) ?_ _
          refine NoPanic.normal ?_
          exact HQ.out _ _ _ _ _ _ _ _ _ _ _ _ _ _ _ _ _ G3.out T4.out B4.out L4.out
        exact AllReadyH.nil
      exact AllReadyH.nil
    exact AllReadyH.nil
  refine AllReadyH.cons (o := { dst := some 18, op := Op.buildSlice 22 1 #[(0, Operand.tmp 17)], type := 22, pos := p0, after := #[{ on := 8, ground := Ground.data }], guard := none }) rfl (fun K hK => ?_) ?_
  · go_simp
    obtain ⟨V5, e5⟩ : ∃ U, U0.alloc (.cells #[.int .i64 el, .bool bl, .slice wa wn wc] 34) = U := ⟨_, rfl⟩
    have mm : Below U0.heap.size U0 V5 := by rw [← e5]; exact alloc_bel _ _
    have N5 : Hid (Blk V5 U0.heap.size 34 (0, 0) [.int .i64 el, .bool bl, .slice wa wn wc]) := Lib.hid (by rw [← e5]; exact Blk.new U0 34 (0, 0) #[.int .i64 el, .bool bl, .slice wa wn wc])
    have B5 := Lib.hid (B0.out.below mm B0.out.lt)
    have L5 := Lib.hid (LL0.out.ext mm)
    have k5 := Lib.hid (kb0.out.trans (mm.mono kb0.out.size))
    rw [e5]
    clear e5 mm B0 LL0 kb0
    refine hK.out _ _ ⟨(B5.out.cell 6).trans rfl, (B5.out.cell 7).trans rfl, (B5.out.cell 8).trans rfl⟩ (fun hHeld => ?_)
    clear hK K
    try simp only [Act.put, List.setIfInBounds_toArray, List.set_cons_zero, List.set_cons_succ]
    refine wpAnyH_ready (rs := [4]) (by kernel_rfl) (by simp) ?_
    refine AllReadyH.cons (o := { dst := some 13, op := Op.load 22 (Operand.tmp 12), type := 22, pos := p0, after := #[{ on := 3, ground := Ground.data }], guard := none }) rfl (fun K hK => ?_) ?_
    · have z : V5.cell? ⟨g, 10, none⟩ = some (.slice va vn vc) := (B5.out.cell 10).trans rfl
      go_simp
      clear z
      refine hK.out _ _ ⟨(B5.out.cell 6).trans rfl, (B5.out.cell 7).trans rfl, (B5.out.cell 8).trans rfl⟩ (fun hHeld => ?_)
      clear hK K
      try simp only [Act.put, List.setIfInBounds_toArray, List.set_cons_zero, List.set_cons_succ]
      refine wpAnyH_ready (rs := [10]) (by kernel_rfl) (by simp) ?_
      refine AllReadyH.cons (o := { dst := some 19, op := Op.call { callee := Callee.builtin Builtin.append, args := #[Operand.tmp 13, Operand.tmp 18], argTypes := #[22, 22] }, type := 22, pos := p0, after := #[{ on := 4, ground := Ground.data }, { on := 9, ground := Ground.data }], guard := none }) rfl (fun K hK => ?_) ?_
      · have hsrc := (rd_blk (E := enE) (X := [(⟨el, bl, wa, wn, wc⟩ : ED)]) (fz := (0, 0)) N5.out 1 rfl (by decide)).src (P := Tryd.prog) (tx := 22) Tryd.underlying22
        refine step_own (E := enE) (l := l) (news := [(⟨el, bl, wa, wn, wc⟩ : ED)]) (base := base) (by rfl) (.tmp 13) (.tmp 18) 22 22 (by rfl) Tryd.underlying22 hj jz0 jz1 jz2 rfl (by rfl) L5.out (by rfl) hsrc (by rw [hll.out]; simp [maxLen]; omega) (by rw [hll.out]; simp; omega) (Nat.le_trans hbb.out k5.out.size) ?_
        intro v7 V7 ho hg hx
        obtain ⟨a7, c7, rfl⟩ := ho.shape
        have hln : (l ++ [(⟨el, bl, wa, wn, wc⟩ : ED)]).length = vn + 1 := by rw [List.length_append, hll.out]; rfl
        rw [hln] at ho ⊢
        have B7 := Lib.hid (blk_own B5.out L5.out (by decide) hg)
        have L7 := Lib.hid ho
        have G7 := Lib.hid (grown_trans (grown_of_below (r := (Value.slice va vn vc).ownBlock) k5.out) hg)
        clear hsrc ho hg hx hln B5 L5 k5 N5
        refine hK.out _ _ ⟨(B7.out.cell 6).trans rfl, (B7.out.cell 7).trans rfl, (B7.out.cell 8).trans rfl⟩ (fun hHeld => ?_)
        clear hK K
        try simp only [Act.put, List.setIfInBounds_toArray, List.set_cons_zero, List.set_cons_succ]
        refine wpAnyH_take (i := 11) (oi := { dst := some 20, op := Op.nilCheck (Operand.tmp 9), type := 0, pos := p0, after := #[{ on := 0, ground := Ground.data }, { on := 0, ground := Ground.phase }, { on := 1, ground := Ground.phase }, { on := 2, ground := Ground.phase }, { on := 3, ground := Ground.phase }, { on := 4, ground := Ground.phase }, { on := 5, ground := Ground.phase }, { on := 6, ground := Ground.phase }, { on := 7, ground := Ground.phase }, { on := 8, ground := Ground.phase }, { on := 9, ground := Ground.phase }, { on := 10, ground := Ground.phase }], guard := none }) (v := ?_) rfl (by kernel_rfl) (by kernel_rfl) (by kernel_rfl) (fun _ _ _ h => h) (Or.inl ⟨by rfl, ?_⟩) (by assumption) ?_
        rotate_left
        · intro V hSV
          clear hSV
          go_simp
          first | done | with_reducible rfl
        try simp only [Act.put, List.setIfInBounds_toArray, List.set_cons_zero, List.set_cons_succ]
        refine wpAnyH_take (i := 12) (oi := { dst := some 21, op := Op.fieldAddr 62 (Operand.tmp 20) 8, type := 0, pos := p0, after := #[{ on := 11, ground := Ground.data }, { on := 0, ground := Ground.phase }, { on := 1, ground := Ground.phase }, { on := 2, ground := Ground.phase }, { on := 3, ground := Ground.phase }, { on := 4, ground := Ground.phase }, { on := 5, ground := Ground.phase }, { on := 6, ground := Ground.phase }, { on := 7, ground := Ground.phase }, { on := 8, ground := Ground.phase }, { on := 9, ground := Ground.phase }, { on := 10, ground := Ground.phase }], guard := none }) (v := ?_) rfl (by kernel_rfl) (by kernel_rfl) (by kernel_rfl) (fun _ _ _ h => h) (Or.inl ⟨by rfl, ?_⟩) (by assumption) ?_
        rotate_left
        · intro V hSV
          clear hSV
          go_simp
          first | done | with_reducible rfl
        try simp only [Act.put, List.setIfInBounds_toArray, List.set_cons_zero, List.set_cons_succ]
        refine wpAnyH_ready (rs := [13]) (by kernel_rfl) (by simp) ?_
        refine AllReadyH.cons (o := { dst := none, op := Op.store 22 (Operand.tmp 21) (Operand.tmp 19), type := 0, pos := p0, after := #[{ on := 12, ground := Ground.data }, { on := 10, ground := Ground.data }, { on := 10, ground := Ground.chain }, { on := 0, ground := Ground.phase }, { on := 1, ground := Ground.phase }, { on := 2, ground := Ground.phase }, { on := 3, ground := Ground.phase }, { on := 4, ground := Ground.phase }, { on := 5, ground := Ground.phase }, { on := 6, ground := Ground.phase }, { on := 7, ground := Ground.phase }, { on := 8, ground := Ground.phase }, { on := 9, ground := Ground.phase }, { on := 10, ground := Ground.phase }], guard := none }) rfl (fun K hK => ?_) ?_
        · have z : V7.cell? ⟨g, 10, none⟩ = some (.slice va vn vc) := (B7.out.cell 10).trans rfl
          have z2 : V7.frozen? ⟨g, 10, none⟩ = false := by rw [B7.out.frozen]; try simp
          go_simp
          clear z z2
          obtain ⟨V8, hV⟩ : ∃ V, V7.setCell ⟨g, 10, none⟩ (.slice a7 (vn + 1) c7) = V := ⟨_, rfl⟩
          rw [hV]
          have T8 : Hid (V7.grownBy V8 (some g)) := Lib.hid (by rw [← hV]; exact grown_set _ _ _ _)
          have B8 : Hid (Blk V8 g 62 (0, 0) [y0, y1, y2, y3, y4, y5, .int .i64 el, .bool bl, .slice wa wn wc, y9, .slice a7 (vn + 1) c7, y11, y12]) := Lib.hid (by rw [← hV]; exact B7.out.set 10 _)
          have L8 := Lib.hid (own_store L7.out B7.out (by decide) T8.out)
          clear hV B7 L7
          refine hK.out _ _ ⟨(B8.out.cell 6).trans rfl, (B8.out.cell 7).trans rfl, (B8.out.cell 8).trans rfl⟩ (fun hHeld => ?_)
          clear hK K
          refine wpAnyH_done (by kernel_rfl) ?_ _
          refine NoPanic.normal ?_
          exact HQ.out _ _ _ _ _ _ _ _ _ _ _ _ _ _ _ _ _ G7.out T8.out B8.out L8.out
        exact AllReadyH.nil
      exact AllReadyH.nil
    exact AllReadyH.nil
  exact AllReadyH.nil
theorem cut_str {P : Program} {t : TypeId} (hu : P.underlying t = some .string) (s : List UInt8) (lo hi : Nat) (h1 : lo ≤ hi) (h2 : hi ≤ s.length) (w : World) :
    (Instr.slice t (.string (mk s)) (some (.int .i64 (lo : Int))) (some (.int .i64 (hi : Int))) none).run P w = .ok (.string (mk ((s.take hi).drop lo))) w := by
  have hs : (mk s).size = s.length := by show (⟨s.toArray⟩ : ByteArray).data.size = _; simp
  have h := run_slice_string (P := P) w t (mk s) .i64 .i64 (lo : Int) (hi : Int) hu (by omega) (by omega) (by rw [hs]; omega)
  have e : (mk s).extract lo hi = mk ((s.take hi).drop lo) := by
    apply ByteArray.ext
    rw [ByteArray.data_extract]
    apply Array.ext'
    simp [mk, List.drop_take]
  rw [h]
  simp only [Int.toNat_natCast, e]
set_option maxHeartbeats 8000000 in
set_option maxRecDepth 100000 in
theorem word_reg (p0 : String) {W : World} {Q : Exit → Act → World → Prop} (t2 t3 t4 t5 t6 t7 t8 t9 t10 t11 t12 t13 t14 t15 t16 t17 t18 t19 t20 t21 t22 t23 t24 t25 t26 t27 t28 t29 t30 t31 t32 t33 t34 t35 t36 t37 t38 t39 t40 t41 t42 t43 t44 t45 t46 t47 t48 t49 t50 t51 t52 t53 t54 t55 t56 t57 t58 t59 t60 t61 : Value) (g base : Nat) {va : Option Addr} {vn vc : Nat} {l : List Trm} (y1 y3 y5 y6 y7 y9 y10 y11 y12 : Value) (s : List UInt8) (st : Int) (frm i : Nat)
    (kb : Blk W g 62 (0, 0) [.string (mk s), y1, .int .u8 st, y3, .int .i64 frm, y5, y6, y7, .slice va vn vc, y9, y10, y11, y12])
    (ho0 : Own trE W base (.slice va vn vc) l)
    (hl : l.length = vn)
    (hb0 : base ≤ W.heap.size)
    (hvn : vn ≤ 70000)
    (h1 : frm ≤ i)
    (h2 : i ≤ s.length)
    (hq : ∀ (x35 x36 x37 x38 x39 x40 x41 x42 x43 x44 x45 x46 x47 x48 x49 x50 x51 x52 x53 x54 x55 x56 x57 x58 x59 x60 x61 : Value) (V V1 : World) (a c : _) (_ : W.grownBy V1 (Value.slice va vn vc).ownBlock) (_ : V1.grownBy V (some g)) (_ : Blk V g 62 (0, 0) [.string (mk s), y1, .int .u8 st, y3, .int .i64 frm, y5, y6, y7, .slice a (vn + 1) c, y9, y10, y11, y12]) (_ : Own trE V base (.slice a (vn + 1) c) (l ++ [((s.take i).drop frm, st == 2)])), Q .normal { tmps := #[.pointer (some ⟨g, 0, none⟩), .int .i64 i, t2, t3, t4, t5, t6, t7, t8, t9, t10, t11, t12, t13, t14, t15, t16, t17, t18, t19, t20, t21, t22, t23, t24, t25, t26, t27, t28, t29, t30, t31, t32, t33, t34, x35, x36, x37, x38, x39, x40, x41, x42, x43, x44, x45, x46, x47, x48, x49, x50, x51, x52, x53, x54, x55, x56, x57, x58, x59, x60, x61], defers := [] } V) :
    Code.wp Tryd.prog (Code.region 6 (#[{ dst := some 35, op := Op.move (Operand.tmp 0), type := 59, pos := p0, after := #[], guard := none }, { dst := some 36, op := Op.move (Operand.tmp 0), type := 59, pos := p0, after := #[], guard := none }, { dst := some 37, op := Op.nilCheck (Operand.tmp 36), type := 0, pos := p0, after := #[{ on := 1, ground := Ground.data }], guard := none }, { dst := some 38, op := Op.fieldAddr 62 (Operand.tmp 37) 6, type := 0, pos := p0, after := #[{ on := 2, ground := Ground.data }], guard := none }, { dst := some 39, op := Op.fieldAddr 34 (Operand.tmp 38) 2, type := 0, pos := p0, after := #[{ on := 3, ground := Ground.data }], guard := none }, { dst := some 40, op := Op.load 32 (Operand.tmp 39), type := 32, pos := p0, after := #[{ on := 4, ground := Ground.data }], guard := none }, { dst := some 41, op := Op.move (Operand.tmp 0), type := 59, pos := p0, after := #[], guard := none }, { dst := some 42, op := Op.nilCheck (Operand.tmp 41), type := 0, pos := p0, after := #[{ on := 6, ground := Ground.data }], guard := none }, { dst := some 43, op := Op.fieldAddr 62 (Operand.tmp 42) 0, type := 0, pos := p0, after := #[{ on := 7, ground := Ground.data }], guard := none }, { dst := some 44, op := Op.load 9 (Operand.tmp 43), type := 9, pos := p0, after := #[{ on := 8, ground := Ground.data }], guard := none }, { dst := some 45, op := Op.move (Operand.tmp 0), type := 59, pos := p0, after := #[], guard := none }, { dst := some 46, op := Op.nilCheck (Operand.tmp 45), type := 0, pos := p0, after := #[{ on := 10, ground := Ground.data }], guard := none }, { dst := some 47, op := Op.fieldAddr 62 (Operand.tmp 46) 4, type := 0, pos := p0, after := #[{ on := 11, ground := Ground.data }], guard := none }, { dst := some 48, op := Op.load 3 (Operand.tmp 47), type := 3, pos := p0, after := #[{ on := 12, ground := Ground.data }], guard := none }, { dst := some 49, op := Op.move (Operand.tmp 1), type := 3, pos := p0, after := #[], guard := none }, { dst := some 50, op := Op.slice 9 (Operand.tmp 44) (some (Operand.tmp 48)) (some (Operand.tmp 49)) none, type := 9, pos := p0, after := #[{ on := 9, ground := Ground.data }, { on := 13, ground := Ground.data }, { on := 14, ground := Ground.data }], guard := none }, { dst := some 51, op := Op.move (Operand.tmp 0), type := 59, pos := p0, after := #[], guard := none }, { dst := some 52, op := Op.nilCheck (Operand.tmp 51), type := 0, pos := p0, after := #[{ on := 16, ground := Ground.data }], guard := none }, { dst := some 53, op := Op.fieldAddr 62 (Operand.tmp 52) 2, type := 0, pos := p0, after := #[{ on := 17, ground := Ground.data }], guard := none }, { dst := some 54, op := Op.load 60 (Operand.tmp 53), type := 60, pos := p0, after := #[{ on := 18, ground := Ground.data }], guard := none }, { dst := some 55, op := Op.binOp BinOp.eql 60 (Operand.tmp 54) (Operand.const (Value.int IntKind.u8 2)) 60, type := 4, pos := p0, after := #[{ on := 19, ground := Ground.data }], guard := none }, { dst := some 56, op := Op.build 44 #[(0, Operand.tmp 50), (1, Operand.tmp 55)], type := 44, pos := p0, after := #[{ on := 15, ground := Ground.data }, { on := 20, ground := Ground.data }], guard := none }, { dst := some 57, op := Op.buildSlice 32 1 #[(0, Operand.tmp 56)], type := 32, pos := p0, after := #[{ on := 21, ground := Ground.data }], guard := none }, { dst := some 58, op := Op.call { callee := Callee.builtin Builtin.append, args := #[Operand.tmp 40, Operand.tmp 57], argTypes := #[32, 32] }, type := 32, pos := p0, after := #[{ on := 5, ground := Ground.data }, { on := 22, ground := Ground.data }], guard := none }, { dst := some 59, op := Op.nilCheck (Operand.tmp 35), type := 0, pos := p0, after := #[{ on := 0, ground := Ground.data }, { on := 0, ground := Ground.phase }, { on := 1, ground := Ground.phase }, { on := 2, ground := Ground.phase }, { on := 3, ground := Ground.phase }, { on := 4, ground := Ground.phase }, { on := 5, ground := Ground.phase }, { on := 6, ground := Ground.phase }, { on := 7, ground := Ground.phase }, { on := 8, ground := Ground.phase }, { on := 9, ground := Ground.phase }, { on := 10, ground := Ground.phase }, { on := 11, ground := Ground.phase }, { on := 12, ground := Ground.phase }, { on := 13, ground := Ground.phase }, { on := 14, ground := Ground.phase }, { on := 15, ground := Ground.phase }, { on := 16, ground := Ground.phase }, { on := 17, ground := Ground.phase }, { on := 18, ground := Ground.phase }, { on := 19, ground := Ground.phase }, { on := 20, ground := Ground.phase }, { on := 21, ground := Ground.phase }, { on := 22, ground := Ground.phase }, { on := 23, ground := Ground.phase }], guard := none }, { dst := some 60, op := Op.fieldAddr 62 (Operand.tmp 59) 6, type := 0, pos := p0, after := #[{ on := 24, ground := Ground.data }, { on := 0, ground := Ground.phase }, { on := 1, ground := Ground.phase }, { on := 2, ground := Ground.phase }, { on := 3, ground := Ground.phase }, { on := 4, ground := Ground.phase }, { on := 5, ground := Ground.phase }, { on := 6, ground := Ground.phase }, { on := 7, ground := Ground.phase }, { on := 8, ground := Ground.phase }, { on := 9, ground := Ground.phase }, { on := 10, ground := Ground.phase }, { on := 11, ground := Ground.phase }, { on := 12, ground := Ground.phase }, { on := 13, ground := Ground.phase }, { on := 14, ground := Ground.phase }, { on := 15, ground := Ground.phase }, { on := 16, ground := Ground.phase }, { on := 17, ground := Ground.phase }, { on := 18, ground := Ground.phase }, { on := 19, ground := Ground.phase }, { on := 20, ground := Ground.phase }, { on := 21, ground := Ground.phase }, { on := 22, ground := Ground.phase }, { on := 23, ground := Ground.phase }], guard := none }, { dst := some 61, op := Op.fieldAddr 34 (Operand.tmp 60) 2, type := 0, pos := p0, after := #[{ on := 25, ground := Ground.data }, { on := 0, ground := Ground.phase }, { on := 1, ground := Ground.phase }, { on := 2, ground := Ground.phase }, { on := 3, ground := Ground.phase }, { on := 4, ground := Ground.phase }, { on := 5, ground := Ground.phase }, { on := 6, ground := Ground.phase }, { on := 7, ground := Ground.phase }, { on := 8, ground := Ground.phase }, { on := 9, ground := Ground.phase }, { on := 10, ground := Ground.phase }, { on := 11, ground := Ground.phase }, { on := 12, ground := Ground.phase }, { on := 13, ground := Ground.phase }, { on := 14, ground := Ground.phase }, { on := 15, ground := Ground.phase }, { on := 16, ground := Ground.phase }, { on := 17, ground := Ground.phase }, { on := 18, ground := Ground.phase }, { on := 19, ground := Ground.phase }, { on := 20, ground := Ground.phase }, { on := 21, ground := Ground.phase }, { on := 22, ground := Ground.phase }, { on := 23, ground := Ground.phase }], guard := none }, { dst := none, op := Op.store 32 (Operand.tmp 61) (Operand.tmp 58), type := 0, pos := p0, after := #[{ on := 26, ground := Ground.data }, { on := 23, ground := Ground.data }, { on := 23, ground := Ground.chain }, { on := 0, ground := Ground.phase }, { on := 1, ground := Ground.phase }, { on := 2, ground := Ground.phase }, { on := 3, ground := Ground.phase }, { on := 4, ground := Ground.phase }, { on := 5, ground := Ground.phase }, { on := 6, ground := Ground.phase }, { on := 7, ground := Ground.phase }, { on := 8, ground := Ground.phase }, { on := 9, ground := Ground.phase }, { on := 10, ground := Ground.phase }, { on := 11, ground := Ground.phase }, { on := 12, ground := Ground.phase }, { on := 13, ground := Ground.phase }, { on := 14, ground := Ground.phase }, { on := 15, ground := Ground.phase }, { on := 16, ground := Ground.phase }, { on := 17, ground := Ground.phase }, { on := 18, ground := Ground.phase }, { on := 19, ground := Ground.phase }, { on := 20, ground := Ground.phase }, { on := 21, ground := Ground.phase }, { on := 22, ground := Ground.phase }, { on := 23, ground := Ground.phase }], guard := none }] : Array Oper) true) Q { tmps := #[.pointer (some ⟨g, 0, none⟩), .int .i64 i, t2, t3, t4, t5, t6, t7, t8, t9, t10, t11, t12, t13, t14, t15, t16, t17, t18, t19, t20, t21, t22, t23, t24, t25, t26, t27, t28, t29, t30, t31, t32, t33, t34, t35, t36, t37, t38, t39, t40, t41, t42, t43, t44, t45, t46, t47, t48, t49, t50, t51, t52, t53, t54, t55, t56, t57, t58, t59, t60, t61], defers := [] } W := by
  have HQ := Lib.hid hq
  clear hq
  have KB := Lib.hid kb
  have L0 := Lib.hid ho0
  have hll := Lib.hid hl
  have hbb := Lib.hid hb0
  clear kb ho0 hl hb0
  have k0 : Hid (W.drew.cell? ⟨g, 0, none⟩ = some (.string (mk s)) ∧ W.drew.cell? ⟨g, 2, none⟩ = some (.int .u8 st) ∧ W.drew.cell? ⟨g, 4, none⟩ = some (.int .i64 frm)) := Lib.hid ⟨(KB.out.drew.cell 0).trans rfl, (KB.out.drew.cell 2).trans rfl, (KB.out.drew.cell 4).trans rfl⟩
  have kb0 : Hid (Below W.heap.size W W.drew) := Lib.hid (Below.refl _ _).drew
  have B0 := Lib.hid KB.out.drew
  have LL0 := Lib.hid (L0.out.ext kb0.out)
  obtain ⟨j0, hj, jz0, jz1, jz2⟩ := info_parts Tryd.info44
  have hcut := cut_str (P := Tryd.prog) Tryd.underlying9 s frm i h1 h2
  refine wp_region_noPanic ?_
  refine wp_region_held_drew (S := fun V => V.cell? ⟨g, 0, none⟩ = some (.string (mk s)) ∧ V.cell? ⟨g, 2, none⟩ = some (.int .u8 st) ∧ V.cell? ⟨g, 4, none⟩ = some (.int .i64 frm)) (by kernel_rfl) k0.out (fun hHeld => ?_)
  clear hHeld
  obtain ⟨U0, hU0⟩ : ∃ x, W.drew = x := ⟨_, rfl⟩
  rw [hU0] at k0 kb0 B0 LL0 ⊢
  clear hU0
  refine wpAnyH_take (i := 0) (oi := { dst := some 35, op := Op.move (Operand.tmp 0), type := 59, pos := p0, after := #[], guard := none }) (v := ?_) rfl (by kernel_rfl) (by kernel_rfl) (by kernel_rfl) (fun _ _ _ h => h) (Or.inl ⟨by rfl, ?_⟩) (by assumption) ?_
  rotate_left
  · intro V hSV
    clear hSV
    go_simp
    first | done | with_reducible rfl
  try simp only [Act.put, List.setIfInBounds_toArray, List.set_cons_zero, List.set_cons_succ]
  refine wpAnyH_take (i := 1) (oi := { dst := some 36, op := Op.move (Operand.tmp 0), type := 59, pos := p0, after := #[], guard := none }) (v := ?_) rfl (by kernel_rfl) (by kernel_rfl) (by kernel_rfl) (fun _ _ _ h => h) (Or.inl ⟨by rfl, ?_⟩) (by assumption) ?_
  rotate_left
  · intro V hSV
    clear hSV
    go_simp
    first | done | with_reducible rfl
  try simp only [Act.put, List.setIfInBounds_toArray, List.set_cons_zero, List.set_cons_succ]
  refine wpAnyH_take (i := 2) (oi := { dst := some 37, op := Op.nilCheck (Operand.tmp 36), type := 0, pos := p0, after := #[{ on := 1, ground := Ground.data }], guard := none }) (v := ?_) rfl (by kernel_rfl) (by kernel_rfl) (by kernel_rfl) (fun _ _ _ h => h) (Or.inl ⟨by rfl, ?_⟩) (by assumption) ?_
  rotate_left
  · intro V hSV
    clear hSV
    go_simp
    first | done | with_reducible rfl
  try simp only [Act.put, List.setIfInBounds_toArray, List.set_cons_zero, List.set_cons_succ]
  refine wpAnyH_take (i := 3) (oi := { dst := some 38, op := Op.fieldAddr 62 (Operand.tmp 37) 6, type := 0, pos := p0, after := #[{ on := 2, ground := Ground.data }], guard := none }) (v := ?_) rfl (by kernel_rfl) (by kernel_rfl) (by kernel_rfl) (fun _ _ _ h => h) (Or.inl ⟨by rfl, ?_⟩) (by assumption) ?_
  rotate_left
  · intro V hSV
    clear hSV
    go_simp
    first | done | with_reducible rfl
  try simp only [Act.put, List.setIfInBounds_toArray, List.set_cons_zero, List.set_cons_succ]
  refine wpAnyH_take (i := 4) (oi := { dst := some 39, op := Op.fieldAddr 34 (Operand.tmp 38) 2, type := 0, pos := p0, after := #[{ on := 3, ground := Ground.data }], guard := none }) (v := ?_) rfl (by kernel_rfl) (by kernel_rfl) (by kernel_rfl) (fun _ _ _ h => h) (Or.inl ⟨by rfl, ?_⟩) (by assumption) ?_
  rotate_left
  · intro V hSV
    clear hSV
    go_simp
    first | done | with_reducible rfl
  try simp only [Act.put, List.setIfInBounds_toArray, List.set_cons_zero, List.set_cons_succ]
  refine wpAnyH_take (i := 6) (oi := { dst := some 41, op := Op.move (Operand.tmp 0), type := 59, pos := p0, after := #[], guard := none }) (v := ?_) rfl (by kernel_rfl) (by kernel_rfl) (by kernel_rfl) (fun _ _ _ h => h) (Or.inl ⟨by rfl, ?_⟩) (by assumption) ?_
  rotate_left
  · intro V hSV
    clear hSV
    go_simp
    first | done | with_reducible rfl
  try simp only [Act.put, List.setIfInBounds_toArray, List.set_cons_zero, List.set_cons_succ]
  refine wpAnyH_take (i := 7) (oi := { dst := some 42, op := Op.nilCheck (Operand.tmp 41), type := 0, pos := p0, after := #[{ on := 6, ground := Ground.data }], guard := none }) (v := ?_) rfl (by kernel_rfl) (by kernel_rfl) (by kernel_rfl) (fun _ _ _ h => h) (Or.inl ⟨by rfl, ?_⟩) (by assumption) ?_
  rotate_left
  · intro V hSV
    clear hSV
    go_simp
    first | done | with_reducible rfl
  try simp only [Act.put, List.setIfInBounds_toArray, List.set_cons_zero, List.set_cons_succ]
  refine wpAnyH_take (i := 8) (oi := { dst := some 43, op := Op.fieldAddr 62 (Operand.tmp 42) 0, type := 0, pos := p0, after := #[{ on := 7, ground := Ground.data }], guard := none }) (v := ?_) rfl (by kernel_rfl) (by kernel_rfl) (by kernel_rfl) (fun _ _ _ h => h) (Or.inl ⟨by rfl, ?_⟩) (by assumption) ?_
  rotate_left
  · intro V hSV
    clear hSV
    go_simp
    first | done | with_reducible rfl
  try simp only [Act.put, List.setIfInBounds_toArray, List.set_cons_zero, List.set_cons_succ]
  refine wpAnyH_take (i := 9) (oi := { dst := some 44, op := Op.load 9 (Operand.tmp 43), type := 9, pos := p0, after := #[{ on := 8, ground := Ground.data }], guard := none }) (v := ?_) rfl (by kernel_rfl) (by kernel_rfl) (by kernel_rfl) (fun _ _ _ h => h) (Or.inl ⟨by rfl, ?_⟩) (by assumption) ?_
  rotate_left
  · intro V hSV
    obtain ⟨z0, z2, z4⟩ := hSV
    go_simp
    first | done | with_reducible rfl
  try simp only [Act.put, List.setIfInBounds_toArray, List.set_cons_zero, List.set_cons_succ]
  refine wpAnyH_take (i := 10) (oi := { dst := some 45, op := Op.move (Operand.tmp 0), type := 59, pos := p0, after := #[], guard := none }) (v := ?_) rfl (by kernel_rfl) (by kernel_rfl) (by kernel_rfl) (fun _ _ _ h => h) (Or.inl ⟨by rfl, ?_⟩) (by assumption) ?_
  rotate_left
  · intro V hSV
    clear hSV
    go_simp
    first | done | with_reducible rfl
  try simp only [Act.put, List.setIfInBounds_toArray, List.set_cons_zero, List.set_cons_succ]
  refine wpAnyH_take (i := 11) (oi := { dst := some 46, op := Op.nilCheck (Operand.tmp 45), type := 0, pos := p0, after := #[{ on := 10, ground := Ground.data }], guard := none }) (v := ?_) rfl (by kernel_rfl) (by kernel_rfl) (by kernel_rfl) (fun _ _ _ h => h) (Or.inl ⟨by rfl, ?_⟩) (by assumption) ?_
  rotate_left
  · intro V hSV
    clear hSV
    go_simp
    first | done | with_reducible rfl
  try simp only [Act.put, List.setIfInBounds_toArray, List.set_cons_zero, List.set_cons_succ]
  refine wpAnyH_take (i := 12) (oi := { dst := some 47, op := Op.fieldAddr 62 (Operand.tmp 46) 4, type := 0, pos := p0, after := #[{ on := 11, ground := Ground.data }], guard := none }) (v := ?_) rfl (by kernel_rfl) (by kernel_rfl) (by kernel_rfl) (fun _ _ _ h => h) (Or.inl ⟨by rfl, ?_⟩) (by assumption) ?_
  rotate_left
  · intro V hSV
    clear hSV
    go_simp
    first | done | with_reducible rfl
  try simp only [Act.put, List.setIfInBounds_toArray, List.set_cons_zero, List.set_cons_succ]
  refine wpAnyH_take (i := 13) (oi := { dst := some 48, op := Op.load 3 (Operand.tmp 47), type := 3, pos := p0, after := #[{ on := 12, ground := Ground.data }], guard := none }) (v := ?_) rfl (by kernel_rfl) (by kernel_rfl) (by kernel_rfl) (fun _ _ _ h => h) (Or.inl ⟨by rfl, ?_⟩) (by assumption) ?_
  rotate_left
  · intro V hSV
    obtain ⟨z0, z2, z4⟩ := hSV
    go_simp
    first | done | with_reducible rfl
  try simp only [Act.put, List.setIfInBounds_toArray, List.set_cons_zero, List.set_cons_succ]
  refine wpAnyH_take (i := 14) (oi := { dst := some 49, op := Op.move (Operand.tmp 1), type := 3, pos := p0, after := #[], guard := none }) (v := ?_) rfl (by kernel_rfl) (by kernel_rfl) (by kernel_rfl) (fun _ _ _ h => h) (Or.inl ⟨by rfl, ?_⟩) (by assumption) ?_
  rotate_left
  · intro V hSV
    clear hSV
    go_simp
    first | done | with_reducible rfl
  try simp only [Act.put, List.setIfInBounds_toArray, List.set_cons_zero, List.set_cons_succ]
  refine wpAnyH_take (i := 15) (oi := { dst := some 50, op := Op.slice 9 (Operand.tmp 44) (some (Operand.tmp 48)) (some (Operand.tmp 49)) none, type := 9, pos := p0, after := #[{ on := 9, ground := Ground.data }, { on := 13, ground := Ground.data }, { on := 14, ground := Ground.data }], guard := none }) (v := ?_) rfl (by kernel_rfl) (by kernel_rfl) (by kernel_rfl) (fun _ _ _ h => h) (Or.inl ⟨by rfl, ?_⟩) (by assumption) ?_
  rotate_left
  · intro V hSV
    clear hSV
    go_simp
    first | done | with_reducible rfl
  try simp only [Act.put, List.setIfInBounds_toArray, List.set_cons_zero, List.set_cons_succ]
  refine wpAnyH_take (i := 16) (oi := { dst := some 51, op := Op.move (Operand.tmp 0), type := 59, pos := p0, after := #[], guard := none }) (v := ?_) rfl (by kernel_rfl) (by kernel_rfl) (by kernel_rfl) (fun _ _ _ h => h) (Or.inl ⟨by rfl, ?_⟩) (by assumption) ?_
  rotate_left
  · intro V hSV
    clear hSV
    go_simp
    first | done | with_reducible rfl
  try simp only [Act.put, List.setIfInBounds_toArray, List.set_cons_zero, List.set_cons_succ]
  refine wpAnyH_take (i := 17) (oi := { dst := some 52, op := Op.nilCheck (Operand.tmp 51), type := 0, pos := p0, after := #[{ on := 16, ground := Ground.data }], guard := none }) (v := ?_) rfl (by kernel_rfl) (by kernel_rfl) (by kernel_rfl) (fun _ _ _ h => h) (Or.inl ⟨by rfl, ?_⟩) (by assumption) ?_
  rotate_left
  · intro V hSV
    clear hSV
    go_simp
    first | done | with_reducible rfl
  try simp only [Act.put, List.setIfInBounds_toArray, List.set_cons_zero, List.set_cons_succ]
  refine wpAnyH_take (i := 18) (oi := { dst := some 53, op := Op.fieldAddr 62 (Operand.tmp 52) 2, type := 0, pos := p0, after := #[{ on := 17, ground := Ground.data }], guard := none }) (v := ?_) rfl (by kernel_rfl) (by kernel_rfl) (by kernel_rfl) (fun _ _ _ h => h) (Or.inl ⟨by rfl, ?_⟩) (by assumption) ?_
  rotate_left
  · intro V hSV
    clear hSV
    go_simp
    first | done | with_reducible rfl
  try simp only [Act.put, List.setIfInBounds_toArray, List.set_cons_zero, List.set_cons_succ]
  refine wpAnyH_take (i := 19) (oi := { dst := some 54, op := Op.load 60 (Operand.tmp 53), type := 60, pos := p0, after := #[{ on := 18, ground := Ground.data }], guard := none }) (v := ?_) rfl (by kernel_rfl) (by kernel_rfl) (by kernel_rfl) (fun _ _ _ h => h) (Or.inl ⟨by rfl, ?_⟩) (by assumption) ?_
  rotate_left
  · intro V hSV
    obtain ⟨z0, z2, z4⟩ := hSV
    go_simp
    first | done | with_reducible rfl
  try simp only [Act.put, List.setIfInBounds_toArray, List.set_cons_zero, List.set_cons_succ]
  refine wpAnyH_take (i := 20) (oi := { dst := some 55, op := Op.binOp BinOp.eql 60 (Operand.tmp 54) (Operand.const (Value.int IntKind.u8 2)) 60, type := 4, pos := p0, after := #[{ on := 19, ground := Ground.data }], guard := none }) (v := ?_) rfl (by kernel_rfl) (by kernel_rfl) (by kernel_rfl) (fun _ _ _ h => h) (Or.inl ⟨by rfl, ?_⟩) (by assumption) ?_
  rotate_left
  · intro V hSV
    clear hSV
    go_simp
    first | done | with_reducible rfl
  try simp only [Act.put, List.setIfInBounds_toArray, List.set_cons_zero, List.set_cons_succ]
  refine wpAnyH_take (i := 21) (oi := { dst := some 56, op := Op.build 44 #[(0, Operand.tmp 50), (1, Operand.tmp 55)], type := 44, pos := p0, after := #[{ on := 15, ground := Ground.data }, { on := 20, ground := Ground.data }], guard := none }) (v := ?_) rfl (by kernel_rfl) (by kernel_rfl) (by kernel_rfl) (fun _ _ _ h => h) (Or.inl ⟨by rfl, ?_⟩) (by assumption) ?_
  rotate_left
  · intro V hSV
    clear hSV
    go_simp
    first | done | with_reducible rfl
  try simp only [Act.put, List.setIfInBounds_toArray, List.set_cons_zero, List.set_cons_succ]
  refine wpAnyH_ready (rs := [5, 22]) (by kernel_rfl) (by simp) ?_
  refine AllReadyH.cons (o := { dst := some 40, op := Op.load 32 (Operand.tmp 39), type := 32, pos := p0, after := #[{ on := 4, ground := Ground.data }], guard := none }) rfl (fun K hK => ?_) ?_
  · have z : U0.cell? ⟨g, 8, none⟩ = some (.slice va vn vc) := (B0.out.cell 8).trans rfl
    go_simp
    clear z
    refine hK.out _ _ ⟨(B0.out.cell 0).trans rfl, (B0.out.cell 2).trans rfl, (B0.out.cell 4).trans rfl⟩ (fun hHeld => ?_)
    clear hK K
    try simp only [Act.put, List.setIfInBounds_toArray, List.set_cons_zero, List.set_cons_succ]
    refine wpAnyH_ready (rs := [22]) (by kernel_rfl) (by simp) ?_
    refine AllReadyH.cons (o := { dst := some 57, op := Op.buildSlice 32 1 #[(0, Operand.tmp 56)], type := 32, pos := p0, after := #[{ on := 21, ground := Ground.data }], guard := none }) rfl (fun K hK => ?_) ?_
    · go_simp
      obtain ⟨V2, e2⟩ : ∃ U, U0.alloc (.cells #[.string (mk ((s.take i).drop frm)), .bool (st == 2)] 44) = U := ⟨_, rfl⟩
      have mm : Below U0.heap.size U0 V2 := by rw [← e2]; exact alloc_bel _ _
      have N2 : Hid (Blk V2 U0.heap.size 44 (0, 0) [.string (mk ((s.take i).drop frm)), .bool (st == 2)]) := Lib.hid (by rw [← e2]; exact Blk.new U0 44 (0, 0) #[.string (mk ((s.take i).drop frm)), .bool (st == 2)])
      have B2 := Lib.hid (B0.out.below mm B0.out.lt)
      have L2 := Lib.hid (LL0.out.ext mm)
      have k2 := Lib.hid (kb0.out.trans (mm.mono kb0.out.size))
      rw [e2]
      clear e2 mm B0 LL0 kb0
      refine hK.out _ _ ⟨(B2.out.cell 0).trans rfl, (B2.out.cell 2).trans rfl, (B2.out.cell 4).trans rfl⟩ (fun hHeld => ?_)
      clear hK K
      try simp only [Act.put, List.setIfInBounds_toArray, List.set_cons_zero, List.set_cons_succ]
      refine wpAnyH_ready (rs := [23]) (by kernel_rfl) (by simp) ?_
      refine AllReadyH.cons (o := { dst := some 58, op := Op.call { callee := Callee.builtin Builtin.append, args := #[Operand.tmp 40, Operand.tmp 57], argTypes := #[32, 32] }, type := 32, pos := p0, after := #[{ on := 5, ground := Ground.data }, { on := 22, ground := Ground.data }], guard := none }) rfl (fun K hK => ?_) ?_
      · have hsrc := (rd_blk (E := trE) (X := [((s.take i).drop frm, st == 2)]) (fz := (0, 0)) N2.out 1 rfl (by decide)).src (P := Tryd.prog) (tx := 32) Tryd.underlying32
        refine step_own (E := trE) (l := l) (news := [((s.take i).drop frm, st == 2)]) (base := base) (by rfl) (.tmp 40) (.tmp 57) 32 32 (by rfl) Tryd.underlying32 hj jz0 jz1 jz2 rfl (by rfl) L2.out (by rfl) hsrc (by rw [hll.out]; simp [maxLen]; omega) (by rw [hll.out]; simp; omega) (Nat.le_trans hbb.out k2.out.size) ?_
        intro v3 V3 ho hg hx
        obtain ⟨a3, c3, rfl⟩ := ho.shape
        have hln : (l ++ [((s.take i).drop frm, st == 2)]).length = vn + 1 := by rw [List.length_append, hll.out]; rfl
        rw [hln] at ho ⊢
        have B3 := Lib.hid (blk_own B2.out L2.out (by decide) hg)
        have L3 := Lib.hid ho
        have G3 := Lib.hid (grown_trans (grown_of_below (r := (Value.slice va vn vc).ownBlock) k2.out) hg)
        clear hsrc ho hg hx hln B2 L2 k2 N2
        refine hK.out _ _ ⟨(B3.out.cell 0).trans rfl, (B3.out.cell 2).trans rfl, (B3.out.cell 4).trans rfl⟩ (fun hHeld => ?_)
        clear hK K
        try simp only [Act.put, List.setIfInBounds_toArray, List.set_cons_zero, List.set_cons_succ]
        refine wpAnyH_take (i := 24) (oi := { dst := some 59, op := Op.nilCheck (Operand.tmp 35), type := 0, pos := p0, after := #[{ on := 0, ground := Ground.data }, { on := 0, ground := Ground.phase }, { on := 1, ground := Ground.phase }, { on := 2, ground := Ground.phase }, { on := 3, ground := Ground.phase }, { on := 4, ground := Ground.phase }, { on := 5, ground := Ground.phase }, { on := 6, ground := Ground.phase }, { on := 7, ground := Ground.phase }, { on := 8, ground := Ground.phase }, { on := 9, ground := Ground.phase }, { on := 10, ground := Ground.phase }, { on := 11, ground := Ground.phase }, { on := 12, ground := Ground.phase }, { on := 13, ground := Ground.phase }, { on := 14, ground := Ground.phase }, { on := 15, ground := Ground.phase }, { on := 16, ground := Ground.phase }, { on := 17, ground := Ground.phase }, { on := 18, ground := Ground.phase }, { on := 19, ground := Ground.phase }, { on := 20, ground := Ground.phase }, { on := 21, ground := Ground.phase }, { on := 22, ground := Ground.phase }, { on := 23, ground := Ground.phase }], guard := none }) (v := ?_) rfl (by kernel_rfl) (by kernel_rfl) (by kernel_rfl) (fun _ _ _ h => h) (Or.inl ⟨by rfl, ?_⟩) (by assumption) ?_
        rotate_left
        · intro V hSV
          clear hSV
          go_simp
          first | done | with_reducible rfl
        try simp only [Act.put, List.setIfInBounds_toArray, List.set_cons_zero, List.set_cons_succ]
        refine wpAnyH_take (i := 25) (oi := { dst := some 60, op := Op.fieldAddr 62 (Operand.tmp 59) 6, type := 0, pos := p0, after := #[{ on := 24, ground := Ground.data }, { on := 0, ground := Ground.phase }, { on := 1, ground := Ground.phase }, { on := 2, ground := Ground.phase }, { on := 3, ground := Ground.phase }, { on := 4, ground := Ground.phase }, { on := 5, ground := Ground.phase }, { on := 6, ground := Ground.phase }, { on := 7, ground := Ground.phase }, { on := 8, ground := Ground.phase }, { on := 9, ground := Ground.phase }, { on := 10, ground := Ground.phase }, { on := 11, ground := Ground.phase }, { on := 12, ground := Ground.phase }, { on := 13, ground := Ground.phase }, { on := 14, ground := Ground.phase }, { on := 15, ground := Ground.phase }, { on := 16, ground := Ground.phase }, { on := 17, ground := Ground.phase }, { on := 18, ground := Ground.phase }, { on := 19, ground := Ground.phase }, { on := 20, ground := Ground.phase }, { on := 21, ground := Ground.phase }, { on := 22, ground := Ground.phase }, { on := 23, ground := Ground.phase }], guard := none }) (v := ?_) rfl (by kernel_rfl) (by kernel_rfl) (by kernel_rfl) (fun _ _ _ h => h) (Or.inl ⟨by rfl, ?_⟩) (by assumption) ?_
        rotate_left
        · intro V hSV
          clear hSV
          go_simp
          first | done | with_reducible rfl
        try simp only [Act.put, List.setIfInBounds_toArray, List.set_cons_zero, List.set_cons_succ]
        refine wpAnyH_take (i := 26) (oi := { dst := some 61, op := Op.fieldAddr 34 (Operand.tmp 60) 2, type := 0, pos := p0, after := #[{ on := 25, ground := Ground.data }, { on := 0, ground := Ground.phase }, { on := 1, ground := Ground.phase }, { on := 2, ground := Ground.phase }, { on := 3, ground := Ground.phase }, { on := 4, ground := Ground.phase }, { on := 5, ground := Ground.phase }, { on := 6, ground := Ground.phase }, { on := 7, ground := Ground.phase }, { on := 8, ground := Ground.phase }, { on := 9, ground := Ground.phase }, { on := 10, ground := Ground.phase }, { on := 11, ground := Ground.phase }, { on := 12, ground := Ground.phase }, { on := 13, ground := Ground.phase }, { on := 14, ground := Ground.phase }, { on := 15, ground := Ground.phase }, { on := 16, ground := Ground.phase }, { on := 17, ground := Ground.phase }, { on := 18, ground := Ground.phase }, { on := 19, ground := Ground.phase }, { on := 20, ground := Ground.phase }, { on := 21, ground := Ground.phase }, { on := 22, ground := Ground.phase }, { on := 23, ground := Ground.phase }], guard := none }) (v := ?_) rfl (by kernel_rfl) (by kernel_rfl) (by kernel_rfl) (fun _ _ _ h => h) (Or.inl ⟨by rfl, ?_⟩) (by assumption) ?_
        rotate_left
        · intro V hSV
          clear hSV
          go_simp
          first | done | with_reducible rfl
        try simp only [Act.put, List.setIfInBounds_toArray, List.set_cons_zero, List.set_cons_succ]
        refine wpAnyH_ready (rs := [27]) (by kernel_rfl) (by simp) ?_
        refine AllReadyH.cons (o := { dst := none, op := Op.store 32 (Operand.tmp 61) (Operand.tmp 58), type := 0, pos := p0, after := #[{ on := 26, ground := Ground.data }, { on := 23, ground := Ground.data }, { on := 23, ground := Ground.chain }, { on := 0, ground := Ground.phase }, { on := 1, ground := Ground.phase }, { on := 2, ground := Ground.phase }, { on := 3, ground := Ground.phase }, { on := 4, ground := Ground.phase }, { on := 5, ground := Ground.phase }, { on := 6, ground := Ground.phase }, { on := 7, ground := Ground.phase }, { on := 8, ground := Ground.phase }, { on := 9, ground := Ground.phase }, { on := 10, ground := Ground.phase }, { on := 11, ground := Ground.phase }, { on := 12, ground := Ground.phase }, { on := 13, ground := Ground.phase }, { on := 14, ground := Ground.phase }, { on := 15, ground := Ground.phase }, { on := 16, ground := Ground.phase }, { on := 17, ground := Ground.phase }, { on := 18, ground := Ground.phase }, { on := 19, ground := Ground.phase }, { on := 20, ground := Ground.phase }, { on := 21, ground := Ground.phase }, { on := 22, ground := Ground.phase }, { on := 23, ground := Ground.phase }], guard := none }) rfl (fun K hK => ?_) ?_
        · have z : V3.cell? ⟨g, 8, none⟩ = some (.slice va vn vc) := (B3.out.cell 8).trans rfl
          have z2 : V3.frozen? ⟨g, 8, none⟩ = false := by rw [B3.out.frozen]; try simp
          go_simp
          clear z z2
          obtain ⟨V4, hV⟩ : ∃ V, V3.setCell ⟨g, 8, none⟩ (.slice a3 (vn + 1) c3) = V := ⟨_, rfl⟩
          rw [hV]
          have T4 : Hid (V3.grownBy V4 (some g)) := Lib.hid (by rw [← hV]; exact grown_set _ _ _ _)
          have B4 : Hid (Blk V4 g 62 (0, 0) [.string (mk s), y1, .int .u8 st, y3, .int .i64 frm, y5, y6, y7, .slice a3 (vn + 1) c3, y9, y10, y11, y12]) := Lib.hid (by rw [← hV]; exact B3.out.set 8 _)
          have L4 := Lib.hid (own_store L3.out B3.out (by decide) T4.out)
          clear hV B3 L3
          refine hK.out _ _ ⟨(B4.out.cell 0).trans rfl, (B4.out.cell 2).trans rfl, (B4.out.cell 4).trans rfl⟩ (fun hHeld => ?_)
          clear hK K
          refine wpAnyH_done (by kernel_rfl) ?_ _
          refine NoPanic.normal ?_
          exact HQ.out _ _ _ _ _ _ _ _ _ _ _ _ _ _ _ _ _ _ _ _ _ _ _ _ _ _ _ _ _ _ _ G3.out T4.out B4.out L4.out
        exact AllReadyH.nil
      exact AllReadyH.nil
    exact AllReadyH.nil
  refine AllReadyH.cons (o := { dst := some 57, op := Op.buildSlice 32 1 #[(0, Operand.tmp 56)], type := 32, pos := p0, after := #[{ on := 21, ground := Ground.data }], guard := none }) rfl (fun K hK => ?_) ?_
  · go_simp
    obtain ⟨V5, e5⟩ : ∃ U, U0.alloc (.cells #[.string (mk ((s.take i).drop frm)), .bool (st == 2)] 44) = U := ⟨_, rfl⟩
    have mm : Below U0.heap.size U0 V5 := by rw [← e5]; exact alloc_bel _ _
    have N5 : Hid (Blk V5 U0.heap.size 44 (0, 0) [.string (mk ((s.take i).drop frm)), .bool (st == 2)]) := Lib.hid (by rw [← e5]; exact Blk.new U0 44 (0, 0) #[.string (mk ((s.take i).drop frm)), .bool (st == 2)])
    have B5 := Lib.hid (B0.out.below mm B0.out.lt)
    have L5 := Lib.hid (LL0.out.ext mm)
    have k5 := Lib.hid (kb0.out.trans (mm.mono kb0.out.size))
    rw [e5]
    clear e5 mm B0 LL0 kb0
    refine hK.out _ _ ⟨(B5.out.cell 0).trans rfl, (B5.out.cell 2).trans rfl, (B5.out.cell 4).trans rfl⟩ (fun hHeld => ?_)
    clear hK K
    try simp only [Act.put, List.setIfInBounds_toArray, List.set_cons_zero, List.set_cons_succ]
    refine wpAnyH_ready (rs := [5]) (by kernel_rfl) (by simp) ?_
    refine AllReadyH.cons (o := { dst := some 40, op := Op.load 32 (Operand.tmp 39), type := 32, pos := p0, after := #[{ on := 4, ground := Ground.data }], guard := none }) rfl (fun K hK => ?_) ?_
    · have z : V5.cell? ⟨g, 8, none⟩ = some (.slice va vn vc) := (B5.out.cell 8).trans rfl
      go_simp
      clear z
      refine hK.out _ _ ⟨(B5.out.cell 0).trans rfl, (B5.out.cell 2).trans rfl, (B5.out.cell 4).trans rfl⟩ (fun hHeld => ?_)
      clear hK K
      try simp only [Act.put, List.setIfInBounds_toArray, List.set_cons_zero, List.set_cons_succ]
      refine wpAnyH_ready (rs := [23]) (by kernel_rfl) (by simp) ?_
      refine AllReadyH.cons (o := { dst := some 58, op := Op.call { callee := Callee.builtin Builtin.append, args := #[Operand.tmp 40, Operand.tmp 57], argTypes := #[32, 32] }, type := 32, pos := p0, after := #[{ on := 5, ground := Ground.data }, { on := 22, ground := Ground.data }], guard := none }) rfl (fun K hK => ?_) ?_
      · have hsrc := (rd_blk (E := trE) (X := [((s.take i).drop frm, st == 2)]) (fz := (0, 0)) N5.out 1 rfl (by decide)).src (P := Tryd.prog) (tx := 32) Tryd.underlying32
        refine step_own (E := trE) (l := l) (news := [((s.take i).drop frm, st == 2)]) (base := base) (by rfl) (.tmp 40) (.tmp 57) 32 32 (by rfl) Tryd.underlying32 hj jz0 jz1 jz2 rfl (by rfl) L5.out (by rfl) hsrc (by rw [hll.out]; simp [maxLen]; omega) (by rw [hll.out]; simp; omega) (Nat.le_trans hbb.out k5.out.size) ?_
        intro v7 V7 ho hg hx
        obtain ⟨a7, c7, rfl⟩ := ho.shape
        have hln : (l ++ [((s.take i).drop frm, st == 2)]).length = vn + 1 := by rw [List.length_append, hll.out]; rfl
        rw [hln] at ho ⊢
        have B7 := Lib.hid (blk_own B5.out L5.out (by decide) hg)
        have L7 := Lib.hid ho
        have G7 := Lib.hid (grown_trans (grown_of_below (r := (Value.slice va vn vc).ownBlock) k5.out) hg)
        clear hsrc ho hg hx hln B5 L5 k5 N5
        refine hK.out _ _ ⟨(B7.out.cell 0).trans rfl, (B7.out.cell 2).trans rfl, (B7.out.cell 4).trans rfl⟩ (fun hHeld => ?_)
        clear hK K
        try simp only [Act.put, List.setIfInBounds_toArray, List.set_cons_zero, List.set_cons_succ]
        refine wpAnyH_take (i := 24) (oi := { dst := some 59, op := Op.nilCheck (Operand.tmp 35), type := 0, pos := p0, after := #[{ on := 0, ground := Ground.data }, { on := 0, ground := Ground.phase }, { on := 1, ground := Ground.phase }, { on := 2, ground := Ground.phase }, { on := 3, ground := Ground.phase }, { on := 4, ground := Ground.phase }, { on := 5, ground := Ground.phase }, { on := 6, ground := Ground.phase }, { on := 7, ground := Ground.phase }, { on := 8, ground := Ground.phase }, { on := 9, ground := Ground.phase }, { on := 10, ground := Ground.phase }, { on := 11, ground := Ground.phase }, { on := 12, ground := Ground.phase }, { on := 13, ground := Ground.phase }, { on := 14, ground := Ground.phase }, { on := 15, ground := Ground.phase }, { on := 16, ground := Ground.phase }, { on := 17, ground := Ground.phase }, { on := 18, ground := Ground.phase }, { on := 19, ground := Ground.phase }, { on := 20, ground := Ground.phase }, { on := 21, ground := Ground.phase }, { on := 22, ground := Ground.phase }, { on := 23, ground := Ground.phase }], guard := none }) (v := ?_) rfl (by kernel_rfl) (by kernel_rfl) (by kernel_rfl) (fun _ _ _ h => h) (Or.inl ⟨by rfl, ?_⟩) (by assumption) ?_
        rotate_left
        · intro V hSV
          clear hSV
          go_simp
          first | done | with_reducible rfl
        try simp only [Act.put, List.setIfInBounds_toArray, List.set_cons_zero, List.set_cons_succ]
        refine wpAnyH_take (i := 25) (oi := { dst := some 60, op := Op.fieldAddr 62 (Operand.tmp 59) 6, type := 0, pos := p0, after := #[{ on := 24, ground := Ground.data }, { on := 0, ground := Ground.phase }, { on := 1, ground := Ground.phase }, { on := 2, ground := Ground.phase }, { on := 3, ground := Ground.phase }, { on := 4, ground := Ground.phase }, { on := 5, ground := Ground.phase }, { on := 6, ground := Ground.phase }, { on := 7, ground := Ground.phase }, { on := 8, ground := Ground.phase }, { on := 9, ground := Ground.phase }, { on := 10, ground := Ground.phase }, { on := 11, ground := Ground.phase }, { on := 12, ground := Ground.phase }, { on := 13, ground := Ground.phase }, { on := 14, ground := Ground.phase }, { on := 15, ground := Ground.phase }, { on := 16, ground := Ground.phase }, { on := 17, ground := Ground.phase }, { on := 18, ground := Ground.phase }, { on := 19, ground := Ground.phase }, { on := 20, ground := Ground.phase }, { on := 21, ground := Ground.phase }, { on := 22, ground := Ground.phase }, { on := 23, ground := Ground.phase }], guard := none }) (v := ?_) rfl (by kernel_rfl) (by kernel_rfl) (by kernel_rfl) (fun _ _ _ h => h) (Or.inl ⟨by rfl, ?_⟩) (by assumption) ?_
        rotate_left
        · intro V hSV
          clear hSV
          go_simp
          first | done | with_reducible rfl
        try simp only [Act.put, List.setIfInBounds_toArray, List.set_cons_zero, List.set_cons_succ]
        refine wpAnyH_take (i := 26) (oi := { dst := some 61, op := Op.fieldAddr 34 (Operand.tmp 60) 2, type := 0, pos := p0, after := #[{ on := 25, ground := Ground.data }, { on := 0, ground := Ground.phase }, { on := 1, ground := Ground.phase }, { on := 2, ground := Ground.phase }, { on := 3, ground := Ground.phase }, { on := 4, ground := Ground.phase }, { on := 5, ground := Ground.phase }, { on := 6, ground := Ground.phase }, { on := 7, ground := Ground.phase }, { on := 8, ground := Ground.phase }, { on := 9, ground := Ground.phase }, { on := 10, ground := Ground.phase }, { on := 11, ground := Ground.phase }, { on := 12, ground := Ground.phase }, { on := 13, ground := Ground.phase }, { on := 14, ground := Ground.phase }, { on := 15, ground := Ground.phase }, { on := 16, ground := Ground.phase }, { on := 17, ground := Ground.phase }, { on := 18, ground := Ground.phase }, { on := 19, ground := Ground.phase }, { on := 20, ground := Ground.phase }, { on := 21, ground := Ground.phase }, { on := 22, ground := Ground.phase }, { on := 23, ground := Ground.phase }], guard := none }) (v := ?_) rfl (by kernel_rfl) (by kernel_rfl) (by kernel_rfl) (fun _ _ _ h => h) (Or.inl ⟨by rfl, ?_⟩) (by assumption) ?_
        rotate_left
        · intro V hSV
          clear hSV
          go_simp
          first | done | with_reducible rfl
        try simp only [Act.put, List.setIfInBounds_toArray, List.set_cons_zero, List.set_cons_succ]
        refine wpAnyH_ready (rs := [27]) (by kernel_rfl) (by simp) ?_
        refine AllReadyH.cons (o := { dst := none, op := Op.store 32 (Operand.tmp 61) (Operand.tmp 58), type := 0, pos := p0, after := #[{ on := 26, ground := Ground.data }, { on := 23, ground := Ground.data }, { on := 23, ground := Ground.chain }, { on := 0, ground := Ground.phase }, { on := 1, ground := Ground.phase }, { on := 2, ground := Ground.phase }, { on := 3, ground := Ground.phase }, { on := 4, ground := Ground.phase }, { on := 5, ground := Ground.phase }, { on := 6, ground := Ground.phase }, { on := 7, ground := Ground.phase }, { on := 8, ground := Ground.phase }, { on := 9, ground := Ground.phase }, { on := 10, ground := Ground.phase }, { on := 11, ground := Ground.phase }, { on := 12, ground := Ground.phase }, { on := 13, ground := Ground.phase }, { on := 14, ground := Ground.phase }, { on := 15, ground := Ground.phase }, { on := 16, ground := Ground.phase }, { on := 17, ground := Ground.phase }, { on := 18, ground := Ground.phase }, { on := 19, ground := Ground.phase }, { on := 20, ground := Ground.phase }, { on := 21, ground := Ground.phase }, { on := 22, ground := Ground.phase }, { on := 23, ground := Ground.phase }], guard := none }) rfl (fun K hK => ?_) ?_
        · have z : V7.cell? ⟨g, 8, none⟩ = some (.slice va vn vc) := (B7.out.cell 8).trans rfl
          have z2 : V7.frozen? ⟨g, 8, none⟩ = false := by rw [B7.out.frozen]; try simp
          go_simp
          clear z z2
          obtain ⟨V8, hV⟩ : ∃ V, V7.setCell ⟨g, 8, none⟩ (.slice a7 (vn + 1) c7) = V := ⟨_, rfl⟩
          rw [hV]
          have T8 : Hid (V7.grownBy V8 (some g)) := Lib.hid (by rw [← hV]; exact grown_set _ _ _ _)
          have B8 : Hid (Blk V8 g 62 (0, 0) [.string (mk s), y1, .int .u8 st, y3, .int .i64 frm, y5, y6, y7, .slice a7 (vn + 1) c7, y9, y10, y11, y12]) := Lib.hid (by rw [← hV]; exact B7.out.set 8 _)
          have L8 := Lib.hid (own_store L7.out B7.out (by decide) T8.out)
          clear hV B7 L7
          refine hK.out _ _ ⟨(B8.out.cell 0).trans rfl, (B8.out.cell 2).trans rfl, (B8.out.cell 4).trans rfl⟩ (fun hHeld => ?_)
          clear hK K
          refine wpAnyH_done (by kernel_rfl) ?_ _
          refine NoPanic.normal ?_
          exact HQ.out _ _ _ _ _ _ _ _ _ _ _ _ _ _ _ _ _ _ _ _ _ _ _ _ _ _ _ _ _ _ _ G7.out T8.out B8.out L8.out
        exact AllReadyH.nil
      exact AllReadyH.nil
    exact AllReadyH.nil
  exact AllReadyH.nil
end Go.Proofs.YtojdjhicjhhblaaDoor
