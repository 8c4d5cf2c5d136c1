/- The document's scanner: regions that append (put 65, end 50). Printed by gen_rsb.py. -/
import Derived.Test.YtojdjhicjhhblaaRsA
import Derived.OwnWalk
import Derived.Deep.RegionHeld3
namespace Go.Proofs.Ytojdjhicjhhblaa
open Go Go.RowKit
set_option maxHeartbeats 8000000 in
set_option maxRecDepth 100000 in
theorem rend_reg (p0 : String) {W : World} {Q : Exit → Act → World → Prop} (t1 t2 t3 t4 t5 t6 t7 t8 t9 t10 t11 t12 t13 t14 t15 t16 t17 t18 t19 t20 t21 t22 t23 t24 t25 t26 t27 t28 t29 t30 t31 t32 t33 t34 t35 t36 t37 t38 t39 t40 t41 t42 t43 t44 t45 t46 t47 t48 t49 t50 t51 t52 t53 t54 t55 t56 t57 t58 : Value) (g base : Nat) {va : Option Addr} {vn vc : Nat} {l : List ED} (y0 y1 y2 y3 y4 y9 y10 : Value) (el : Int) (bl : Bool) (wa : Option Addr) (wn wc : Nat)
    (kb : Blk W g 86 (0, 0) [y0, y1, y2, y3, y4, .int .i64 el, .bool bl, .slice wa wn wc, .slice va vn vc, y9, y10])
    (ho0 : Own enE W base (.slice va vn vc) l)
    (hl : l.length = vn)
    (hb0 : base ≤ W.heap.size)
    (hvn : vn ≤ 70000)
    (hq : ∀ (x17 x18 x19 x20 x21 x22 x23 x24 x25 x26 x27 x28 x29 : Value) (V V1 : World) (a c : _) (_ : W.grownBy V1 (Value.slice va vn vc).ownBlock) (_ : V1.grownBy V (some g)) (_ : Blk V g 86 (0, 0) [y0, y1, y2, y3, y4, .int .i64 el, .bool bl, .slice wa wn wc, .slice a (vn + 1) c, y9, y10]) (_ : Own enE V base (.slice a (vn + 1) c) (l ++ [(⟨el, bl, wa, wn, wc⟩ : ED)])), Q .normal { tmps := #[.pointer (some ⟨g, 0, none⟩), t1, t2, t3, t4, t5, t6, t7, t8, t9, t10, t11, t12, t13, t14, t15, t16, x17, x18, x19, x20, x21, x22, x23, x24, x25, x26, x27, x28, x29, t30, t31, t32, t33, t34, t35, t36, t37, t38, t39, t40, t41, t42, t43, t44, t45, t46, t47, t48, t49, t50, t51, t52, t53, t54, t55, t56, t57, t58], defers := [] } V) :
    Code.wp Try.prog (Code.region 2 (#[{ dst := some 17, op := Op.move (Operand.tmp 0), type := 84, pos := p0, after := #[], guard := none }, { dst := some 18, op := Op.move (Operand.tmp 0), type := 84, pos := p0, after := #[], guard := none }, { dst := some 19, op := Op.nilCheck (Operand.tmp 18), type := 0, pos := p0, after := #[{ on := 1, ground := Ground.data }], guard := none }, { dst := some 20, op := Op.fieldAddr 86 (Operand.tmp 19) 6, type := 0, pos := p0, after := #[{ on := 2, ground := Ground.data }], guard := none }, { dst := some 21, op := Op.load 22 (Operand.tmp 20), type := 22, pos := p0, after := #[{ on := 3, ground := Ground.data }], guard := none }, { dst := some 22, op := Op.move (Operand.tmp 0), type := 84, pos := p0, after := #[], guard := none }, { dst := some 23, op := Op.nilCheck (Operand.tmp 22), type := 0, pos := p0, after := #[{ on := 5, ground := Ground.data }], guard := none }, { dst := some 24, op := Op.fieldAddr 86 (Operand.tmp 23) 5, type := 0, pos := p0, after := #[{ on := 6, ground := Ground.data }], guard := none }, { dst := some 25, op := Op.load 25 (Operand.tmp 24), type := 25, pos := p0, after := #[{ on := 7, ground := Ground.data }], guard := none }, { dst := some 26, op := Op.buildSlice 22 1 #[(0, Operand.tmp 25)], type := 22, pos := p0, after := #[{ on := 8, ground := Ground.data }], guard := none }, { dst := some 27, op := Op.call { callee := Callee.builtin Builtin.append, args := #[Operand.tmp 21, Operand.tmp 26], argTypes := #[22, 22] }, type := 22, pos := p0, after := #[{ on := 4, ground := Ground.data }, { on := 9, ground := Ground.data }], guard := none }, { dst := some 28, op := Op.nilCheck (Operand.tmp 17), type := 0, pos := p0, after := #[{ on := 0, ground := Ground.data }, { on := 0, ground := Ground.phase }, { on := 1, ground := Ground.phase }, { on := 2, ground := Ground.phase }, { on := 3, ground := Ground.phase }, { on := 4, ground := Ground.phase }, { on := 5, ground := Ground.phase }, { on := 6, ground := Ground.phase }, { on := 7, ground := Ground.phase }, { on := 8, ground := Ground.phase }, { on := 9, ground := Ground.phase }, { on := 10, ground := Ground.phase }], guard := none }, { dst := some 29, op := Op.fieldAddr 86 (Operand.tmp 28) 6, type := 0, pos := p0, after := #[{ on := 11, ground := Ground.data }, { on := 0, ground := Ground.phase }, { on := 1, ground := Ground.phase }, { on := 2, ground := Ground.phase }, { on := 3, ground := Ground.phase }, { on := 4, ground := Ground.phase }, { on := 5, ground := Ground.phase }, { on := 6, ground := Ground.phase }, { on := 7, ground := Ground.phase }, { on := 8, ground := Ground.phase }, { on := 9, ground := Ground.phase }, { on := 10, ground := Ground.phase }], guard := none }, { dst := none, op := Op.store 22 (Operand.tmp 29) (Operand.tmp 27), type := 0, pos := p0, after := #[{ on := 12, ground := Ground.data }, { on := 10, ground := Ground.data }, { on := 10, ground := Ground.chain }, { on := 0, ground := Ground.phase }, { on := 1, ground := Ground.phase }, { on := 2, ground := Ground.phase }, { on := 3, ground := Ground.phase }, { on := 4, ground := Ground.phase }, { on := 5, ground := Ground.phase }, { on := 6, ground := Ground.phase }, { on := 7, ground := Ground.phase }, { on := 8, ground := Ground.phase }, { on := 9, ground := Ground.phase }, { on := 10, ground := Ground.phase }], guard := none }] : Array Oper) true) Q { tmps := #[.pointer (some ⟨g, 0, none⟩), t1, t2, t3, t4, t5, t6, t7, t8, t9, t10, t11, t12, t13, t14, t15, t16, t17, t18, t19, t20, t21, t22, t23, t24, t25, t26, t27, t28, t29, t30, t31, t32, t33, t34, t35, t36, t37, t38, t39, t40, t41, t42, t43, t44, t45, t46, t47, t48, t49, t50, t51, t52, t53, t54, t55, t56, t57, t58], defers := [] } W := by
  have HQ := Lib.hid hq
  clear hq
  have KB := Lib.hid kb
  have L0 := Lib.hid ho0
  have hll := Lib.hid hl
  have hbb := Lib.hid hb0
  clear kb ho0 hl hb0
  have k0 : Hid (W.drew.cell? ⟨g, 5, none⟩ = some (.int .i64 el) ∧ W.drew.cell? ⟨g, 6, none⟩ = some (.bool bl) ∧ W.drew.cell? ⟨g, 7, none⟩ = some (.slice wa wn wc)) := Lib.hid ⟨(KB.out.drew.cell 5).trans rfl, (KB.out.drew.cell 6).trans rfl, (KB.out.drew.cell 7).trans rfl⟩
  have kb0 : Hid (Below W.heap.size W W.drew) := Lib.hid (Below.refl _ _).drew
  have B0 := Lib.hid KB.out.drew
  have LL0 := Lib.hid (L0.out.ext kb0.out)
  obtain ⟨j0, hj, jz0, jz1, jz2⟩ := info_parts Try.info25
  refine wp_region_noPanic ?_
  refine wp_region_held_drew (S := fun V => V.cell? ⟨g, 5, none⟩ = some (.int .i64 el) ∧ V.cell? ⟨g, 6, none⟩ = some (.bool bl) ∧ V.cell? ⟨g, 7, none⟩ = some (.slice wa wn wc)) (by kernel_rfl) k0.out (fun hHeld => ?_)
  clear hHeld
  obtain ⟨U0, hU0⟩ : ∃ x, W.drew = x := ⟨_, rfl⟩
  rw [hU0] at k0 kb0 B0 LL0 ⊢
  clear hU0
  refine wpAnyH_take (i := 0) (oi := { dst := some 17, op := Op.move (Operand.tmp 0), type := 84, pos := p0, after := #[], guard := none }) (v := ?_) rfl (by kernel_rfl) (by kernel_rfl) (by kernel_rfl) (fun _ _ _ h => h) (Or.inl ⟨by rfl, ?_⟩) (by assumption) ?_
  rotate_left
  · intro V hSV
    clear hSV
    go_simp
    first | done | with_reducible rfl
  try simp only [Act.put, List.setIfInBounds_toArray, List.set_cons_zero, List.set_cons_succ]
  refine wpAnyH_take (i := 1) (oi := { dst := some 18, op := Op.move (Operand.tmp 0), type := 84, pos := p0, after := #[], guard := none }) (v := ?_) rfl (by kernel_rfl) (by kernel_rfl) (by kernel_rfl) (fun _ _ _ h => h) (Or.inl ⟨by rfl, ?_⟩) (by assumption) ?_
  rotate_left
  · intro V hSV
    clear hSV
    go_simp
    first | done | with_reducible rfl
  try simp only [Act.put, List.setIfInBounds_toArray, List.set_cons_zero, List.set_cons_succ]
  refine wpAnyH_take (i := 2) (oi := { dst := some 19, op := Op.nilCheck (Operand.tmp 18), type := 0, pos := p0, after := #[{ on := 1, ground := Ground.data }], guard := none }) (v := ?_) rfl (by kernel_rfl) (by kernel_rfl) (by kernel_rfl) (fun _ _ _ h => h) (Or.inl ⟨by rfl, ?_⟩) (by assumption) ?_
  rotate_left
  · intro V hSV
    clear hSV
    go_simp
    first | done | with_reducible rfl
  try simp only [Act.put, List.setIfInBounds_toArray, List.set_cons_zero, List.set_cons_succ]
  refine wpAnyH_take (i := 3) (oi := { dst := some 20, op := Op.fieldAddr 86 (Operand.tmp 19) 6, type := 0, pos := p0, after := #[{ on := 2, ground := Ground.data }], guard := none }) (v := ?_) rfl (by kernel_rfl) (by kernel_rfl) (by kernel_rfl) (fun _ _ _ h => h) (Or.inl ⟨by rfl, ?_⟩) (by assumption) ?_
  rotate_left
  · intro V hSV
    clear hSV
    go_simp
    first | done | with_reducible rfl
  try simp only [Act.put, List.setIfInBounds_toArray, List.set_cons_zero, List.set_cons_succ]
  refine wpAnyH_take (i := 5) (oi := { dst := some 22, op := Op.move (Operand.tmp 0), type := 84, pos := p0, after := #[], guard := none }) (v := ?_) rfl (by kernel_rfl) (by kernel_rfl) (by kernel_rfl) (fun _ _ _ h => h) (Or.inl ⟨by rfl, ?_⟩) (by assumption) ?_
  rotate_left
  · intro V hSV
    clear hSV
    go_simp
    first | done | with_reducible rfl
  try simp only [Act.put, List.setIfInBounds_toArray, List.set_cons_zero, List.set_cons_succ]
  refine wpAnyH_take (i := 6) (oi := { dst := some 23, op := Op.nilCheck (Operand.tmp 22), type := 0, pos := p0, after := #[{ on := 5, ground := Ground.data }], guard := none }) (v := ?_) rfl (by kernel_rfl) (by kernel_rfl) (by kernel_rfl) (fun _ _ _ h => h) (Or.inl ⟨by rfl, ?_⟩) (by assumption) ?_
  rotate_left
  · intro V hSV
    clear hSV
    go_simp
    first | done | with_reducible rfl
  try simp only [Act.put, List.setIfInBounds_toArray, List.set_cons_zero, List.set_cons_succ]
  refine wpAnyH_take (i := 7) (oi := { dst := some 24, op := Op.fieldAddr 86 (Operand.tmp 23) 5, type := 0, pos := p0, after := #[{ on := 6, ground := Ground.data }], guard := none }) (v := ?_) rfl (by kernel_rfl) (by kernel_rfl) (by kernel_rfl) (fun _ _ _ h => h) (Or.inl ⟨by rfl, ?_⟩) (by assumption) ?_
  rotate_left
  · intro V hSV
    clear hSV
    go_simp
    first | done | with_reducible rfl
  try simp only [Act.put, List.setIfInBounds_toArray, List.set_cons_zero, List.set_cons_succ]
  refine wpAnyH_take (i := 8) (oi := { dst := some 25, op := Op.load 25 (Operand.tmp 24), type := 25, pos := p0, after := #[{ on := 7, ground := Ground.data }], guard := none }) (v := ?_) rfl (by kernel_rfl) (by kernel_rfl) (by kernel_rfl) (fun _ _ _ h => h) (Or.inl ⟨by rfl, ?_⟩) (by assumption) ?_
  rotate_left
  · intro V hSV
    obtain ⟨z5, z6, z7⟩ := hSV
    go_simp
    first | done | with_reducible rfl
  try simp only [Act.put, List.setIfInBounds_toArray, List.set_cons_zero, List.set_cons_succ]
  refine wpAnyH_ready (rs := [4, 9]) (by kernel_rfl) (by simp) ?_
  refine AllReadyH.cons (o := { dst := some 21, op := Op.load 22 (Operand.tmp 20), type := 22, pos := p0, after := #[{ on := 3, ground := Ground.data }], guard := none }) rfl (fun K hK => ?_) ?_
  · have z : U0.cell? ⟨g, 8, none⟩ = some (.slice va vn vc) := (B0.out.cell 8).trans rfl
    go_simp
    clear z
    refine hK.out _ _ ⟨(B0.out.cell 5).trans rfl, (B0.out.cell 6).trans rfl, (B0.out.cell 7).trans rfl⟩ (fun hHeld => ?_)
    clear hK K
    try simp only [Act.put, List.setIfInBounds_toArray, List.set_cons_zero, List.set_cons_succ]
    refine wpAnyH_ready (rs := [9]) (by kernel_rfl) (by simp) ?_
    refine AllReadyH.cons (o := { dst := some 26, op := Op.buildSlice 22 1 #[(0, Operand.tmp 25)], type := 22, pos := p0, after := #[{ on := 8, ground := Ground.data }], guard := none }) rfl (fun K hK => ?_) ?_
    · go_simp
      obtain ⟨V2, e2⟩ : ∃ U, U0.alloc (.cells #[.int .i64 el, .bool bl, .slice wa wn wc] 25) = U := ⟨_, rfl⟩
      have mm : Below U0.heap.size U0 V2 := by rw [← e2]; exact alloc_bel _ _
      have N2 : Hid (Blk V2 U0.heap.size 25 (0, 0) [.int .i64 el, .bool bl, .slice wa wn wc]) := Lib.hid (by rw [← e2]; exact Blk.new U0 25 (0, 0) #[.int .i64 el, .bool bl, .slice wa wn wc])
      have B2 := Lib.hid (B0.out.below mm B0.out.lt)
      have L2 := Lib.hid (LL0.out.ext mm)
      have k2 := Lib.hid (kb0.out.trans (mm.mono kb0.out.size))
      rw [e2]
      clear e2 mm B0 LL0 kb0
      refine hK.out _ _ ⟨(B2.out.cell 5).trans rfl, (B2.out.cell 6).trans rfl, (B2.out.cell 7).trans rfl⟩ (fun hHeld => ?_)
      clear hK K
      try simp only [Act.put, List.setIfInBounds_toArray, List.set_cons_zero, List.set_cons_succ]
      refine wpAnyH_ready (rs := [10]) (by kernel_rfl) (by simp) ?_
      refine AllReadyH.cons (o := { dst := some 27, op := Op.call { callee := Callee.builtin Builtin.append, args := #[Operand.tmp 21, Operand.tmp 26], argTypes := #[22, 22] }, type := 22, pos := p0, after := #[{ on := 4, ground := Ground.data }, { on := 9, ground := Ground.data }], guard := none }) rfl (fun K hK => ?_) ?_
      · have hsrc := (rd_blk (E := enE) (X := [(⟨el, bl, wa, wn, wc⟩ : ED)]) (fz := (0, 0)) N2.out 1 rfl (by decide)).src (P := Try.prog) (tx := 22) Try.underlying22
        refine step_own (E := enE) (l := l) (news := [(⟨el, bl, wa, wn, wc⟩ : ED)]) (base := base) (by rfl) (.tmp 21) (.tmp 26) 22 22 (by rfl) Try.underlying22 hj jz0 jz1 jz2 rfl (by rfl) L2.out (by rfl) hsrc (by rw [hll.out]; simp [maxLen]; omega) (by rw [hll.out]; simp; omega) (Nat.le_trans hbb.out k2.out.size) ?_
        intro v3 V3 ho hg hx
        obtain ⟨a3, c3, rfl⟩ := ho.shape
        have hln : (l ++ [(⟨el, bl, wa, wn, wc⟩ : ED)]).length = vn + 1 := by rw [List.length_append, hll.out]; rfl
        rw [hln] at ho ⊢
        have B3 := Lib.hid (blk_own B2.out L2.out (by decide) hg)
        have L3 := Lib.hid ho
        have G3 := Lib.hid (grown_trans (grown_of_below (r := (Value.slice va vn vc).ownBlock) k2.out) hg)
        clear hsrc ho hg hx hln B2 L2 k2 N2
        refine hK.out _ _ ⟨(B3.out.cell 5).trans rfl, (B3.out.cell 6).trans rfl, (B3.out.cell 7).trans rfl⟩ (fun hHeld => ?_)
        clear hK K
        try simp only [Act.put, List.setIfInBounds_toArray, List.set_cons_zero, List.set_cons_succ]
        refine wpAnyH_take (i := 11) (oi := { dst := some 28, op := Op.nilCheck (Operand.tmp 17), type := 0, pos := p0, after := #[{ on := 0, ground := Ground.data }, { on := 0, ground := Ground.phase }, { on := 1, ground := Ground.phase }, { on := 2, ground := Ground.phase }, { on := 3, ground := Ground.phase }, { on := 4, ground := Ground.phase }, { on := 5, ground := Ground.phase }, { on := 6, ground := Ground.phase }, { on := 7, ground := Ground.phase }, { on := 8, ground := Ground.phase }, { on := 9, ground := Ground.phase }, { on := 10, ground := Ground.phase }], guard := none }) (v := ?_) rfl (by kernel_rfl) (by kernel_rfl) (by kernel_rfl) (fun _ _ _ h => h) (Or.inl ⟨by rfl, ?_⟩) (by assumption) ?_
        rotate_left
        · intro V hSV
          clear hSV
          go_simp
          first | done | with_reducible rfl
        try simp only [Act.put, List.setIfInBounds_toArray, List.set_cons_zero, List.set_cons_succ]
        refine wpAnyH_take (i := 12) (oi := { dst := some 29, op := Op.fieldAddr 86 (Operand.tmp 28) 6, type := 0, pos := p0, after := #[{ on := 11, ground := Ground.data }, { on := 0, ground := Ground.phase }, { on := 1, ground := Ground.phase }, { on := 2, ground := Ground.phase }, { on := 3, ground := Ground.phase }, { on := 4, ground := Ground.phase }, { on := 5, ground := Ground.phase }, { on := 6, ground := Ground.phase }, { on := 7, ground := Ground.phase }, { on := 8, ground := Ground.phase }, { on := 9, ground := Ground.phase }, { on := 10, ground := Ground.phase }], guard := none }) (v := ?_) rfl (by kernel_rfl) (by kernel_rfl) (by kernel_rfl) (fun _ _ _ h => h) (Or.inl ⟨by rfl, ?_⟩) (by assumption) ?_
        rotate_left
        · intro V hSV
          clear hSV
          go_simp
          first | done | with_reducible rfl
        try simp only [Act.put, List.setIfInBounds_toArray, List.set_cons_zero, List.set_cons_succ]
        refine wpAnyH_ready (rs := [13]) (by kernel_rfl) (by simp) ?_
        refine AllReadyH.cons (o := { dst := none, op := Op.store 22 (Operand.tmp 29) (Operand.tmp 27), type := 0, pos := p0, after := #[{ on := 12, ground := Ground.data }, { on := 10, ground := Ground.data }, { on := 10, ground := Ground.chain }, { on := 0, ground := Ground.phase }, { on := 1, ground := Ground.phase }, { on := 2, ground := Ground.phase }, { on := 3, ground := Ground.phase }, { on := 4, ground := Ground.phase }, { on := 5, ground := Ground.phase }, { on := 6, ground := Ground.phase }, { on := 7, ground := Ground.phase }, { on := 8, ground := Ground.phase }, { on := 9, ground := Ground.phase }, { on := 10, ground := Ground.phase }], guard := none }) rfl (fun K hK => ?_) ?_
        · have z : V3.cell? ⟨g, 8, none⟩ = some (.slice va vn vc) := (B3.out.cell 8).trans rfl
          have z2 : V3.frozen? ⟨g, 8, none⟩ = false := by rw [B3.out.frozen]; try simp
          go_simp
          clear z z2
          obtain ⟨V4, hV⟩ : ∃ V, V3.setCell ⟨g, 8, none⟩ (.slice a3 (vn + 1) c3) = V := ⟨_, rfl⟩
          rw [hV]
          have T4 : Hid (V3.grownBy V4 (some g)) := Lib.hid (by rw [← hV]; exact grown_set _ _ _ _)
          have B4 : Hid (Blk V4 g 86 (0, 0) [y0, y1, y2, y3, y4, .int .i64 el, .bool bl, .slice wa wn wc, .slice a3 (vn + 1) c3, y9, y10]) := Lib.hid (by rw [← hV]; exact B3.out.set 8 _)
          have L4 := Lib.hid (own_store L3.out B3.out (by decide) T4.out)
          clear hV B3 L3
          refine hK.out _ _ ⟨(B4.out.cell 5).trans rfl, (B4.out.cell 6).trans rfl, (B4.out.cell 7).trans rfl⟩ (fun hHeld => ?_)
          clear hK K
          refine wpAnyH_done (by kernel_rfl) ?_ _
          refine NoPanic.normal ?_
          exact HQ.out _ _ _ _ _ _ _ _ _ _ _ _ _ _ _ _ _ G3.out T4.out B4.out L4.out
        exact AllReadyH.nil
      exact AllReadyH.nil
    exact AllReadyH.nil
  refine AllReadyH.cons (o := { dst := some 26, op := Op.buildSlice 22 1 #[(0, Operand.tmp 25)], type := 22, pos := p0, after := #[{ on := 8, ground := Ground.data }], guard := none }) rfl (fun K hK => ?_) ?_
  · go_simp
    obtain ⟨V5, e5⟩ : ∃ U, U0.alloc (.cells #[.int .i64 el, .bool bl, .slice wa wn wc] 25) = U := ⟨_, rfl⟩
    have mm : Below U0.heap.size U0 V5 := by rw [← e5]; exact alloc_bel _ _
    have N5 : Hid (Blk V5 U0.heap.size 25 (0, 0) [.int .i64 el, .bool bl, .slice wa wn wc]) := Lib.hid (by rw [← e5]; exact Blk.new U0 25 (0, 0) #[.int .i64 el, .bool bl, .slice wa wn wc])
    have B5 := Lib.hid (B0.out.below mm B0.out.lt)
    have L5 := Lib.hid (LL0.out.ext mm)
    have k5 := Lib.hid (kb0.out.trans (mm.mono kb0.out.size))
    rw [e5]
    clear e5 mm B0 LL0 kb0
    refine hK.out _ _ ⟨(B5.out.cell 5).trans rfl, (B5.out.cell 6).trans rfl, (B5.out.cell 7).trans rfl⟩ (fun hHeld => ?_)
    clear hK K
    try simp only [Act.put, List.setIfInBounds_toArray, List.set_cons_zero, List.set_cons_succ]
    refine wpAnyH_ready (rs := [4]) (by kernel_rfl) (by simp) ?_
    refine AllReadyH.cons (o := { dst := some 21, op := Op.load 22 (Operand.tmp 20), type := 22, pos := p0, after := #[{ on := 3, ground := Ground.data }], guard := none }) rfl (fun K hK => ?_) ?_
    · have z : V5.cell? ⟨g, 8, none⟩ = some (.slice va vn vc) := (B5.out.cell 8).trans rfl
      go_simp
      clear z
      refine hK.out _ _ ⟨(B5.out.cell 5).trans rfl, (B5.out.cell 6).trans rfl, (B5.out.cell 7).trans rfl⟩ (fun hHeld => ?_)
      clear hK K
      try simp only [Act.put, List.setIfInBounds_toArray, List.set_cons_zero, List.set_cons_succ]
      refine wpAnyH_ready (rs := [10]) (by kernel_rfl) (by simp) ?_
      refine AllReadyH.cons (o := { dst := some 27, op := Op.call { callee := Callee.builtin Builtin.append, args := #[Operand.tmp 21, Operand.tmp 26], argTypes := #[22, 22] }, type := 22, pos := p0, after := #[{ on := 4, ground := Ground.data }, { on := 9, ground := Ground.data }], guard := none }) rfl (fun K hK => ?_) ?_
      · have hsrc := (rd_blk (E := enE) (X := [(⟨el, bl, wa, wn, wc⟩ : ED)]) (fz := (0, 0)) N5.out 1 rfl (by decide)).src (P := Try.prog) (tx := 22) Try.underlying22
        refine step_own (E := enE) (l := l) (news := [(⟨el, bl, wa, wn, wc⟩ : ED)]) (base := base) (by rfl) (.tmp 21) (.tmp 26) 22 22 (by rfl) Try.underlying22 hj jz0 jz1 jz2 rfl (by rfl) L5.out (by rfl) hsrc (by rw [hll.out]; simp [maxLen]; omega) (by rw [hll.out]; simp; omega) (Nat.le_trans hbb.out k5.out.size) ?_
        intro v7 V7 ho hg hx
        obtain ⟨a7, c7, rfl⟩ := ho.shape
        have hln : (l ++ [(⟨el, bl, wa, wn, wc⟩ : ED)]).length = vn + 1 := by rw [List.length_append, hll.out]; rfl
        rw [hln] at ho ⊢
        have B7 := Lib.hid (blk_own B5.out L5.out (by decide) hg)
        have L7 := Lib.hid ho
        have G7 := Lib.hid (grown_trans (grown_of_below (r := (Value.slice va vn vc).ownBlock) k5.out) hg)
        clear hsrc ho hg hx hln B5 L5 k5 N5
        refine hK.out _ _ ⟨(B7.out.cell 5).trans rfl, (B7.out.cell 6).trans rfl, (B7.out.cell 7).trans rfl⟩ (fun hHeld => ?_)
        clear hK K
        try simp only [Act.put, List.setIfInBounds_toArray, List.set_cons_zero, List.set_cons_succ]
        refine wpAnyH_take (i := 11) (oi := { dst := some 28, op := Op.nilCheck (Operand.tmp 17), type := 0, pos := p0, after := #[{ on := 0, ground := Ground.data }, { on := 0, ground := Ground.phase }, { on := 1, ground := Ground.phase }, { on := 2, ground := Ground.phase }, { on := 3, ground := Ground.phase }, { on := 4, ground := Ground.phase }, { on := 5, ground := Ground.phase }, { on := 6, ground := Ground.phase }, { on := 7, ground := Ground.phase }, { on := 8, ground := Ground.phase }, { on := 9, ground := Ground.phase }, { on := 10, ground := Ground.phase }], guard := none }) (v := ?_) rfl (by kernel_rfl) (by kernel_rfl) (by kernel_rfl) (fun _ _ _ h => h) (Or.inl ⟨by rfl, ?_⟩) (by assumption) ?_
        rotate_left
        · intro V hSV
          clear hSV
          go_simp
          first | done | with_reducible rfl
        try simp only [Act.put, List.setIfInBounds_toArray, List.set_cons_zero, List.set_cons_succ]
        refine wpAnyH_take (i := 12) (oi := { dst := some 29, op := Op.fieldAddr 86 (Operand.tmp 28) 6, type := 0, pos := p0, after := #[{ on := 11, ground := Ground.data }, { on := 0, ground := Ground.phase }, { on := 1, ground := Ground.phase }, { on := 2, ground := Ground.phase }, { on := 3, ground := Ground.phase }, { on := 4, ground := Ground.phase }, { on := 5, ground := Ground.phase }, { on := 6, ground := Ground.phase }, { on := 7, ground := Ground.phase }, { on := 8, ground := Ground.phase }, { on := 9, ground := Ground.phase }, { on := 10, ground := Ground.phase }], guard := none }) (v := ?_) rfl (by kernel_rfl) (by kernel_rfl) (by kernel_rfl) (fun _ _ _ h => h) (Or.inl ⟨by rfl, ?_⟩) (by assumption) ?_
        rotate_left
        · intro V hSV
          clear hSV
          go_simp
          first | done | with_reducible rfl
        try simp only [Act.put, List.setIfInBounds_toArray, List.set_cons_zero, List.set_cons_succ]
        refine wpAnyH_ready (rs := [13]) (by kernel_rfl) (by simp) ?_
        refine AllReadyH.cons (o := { dst := none, op := Op.store 22 (Operand.tmp 29) (Operand.tmp 27), type := 0, pos := p0, after := #[{ on := 12, ground := Ground.data }, { on := 10, ground := Ground.data }, { on := 10, ground := Ground.chain }, { on := 0, ground := Ground.phase }, { on := 1, ground := Ground.phase }, { on := 2, ground := Ground.phase }, { on := 3, ground := Ground.phase }, { on := 4, ground := Ground.phase }, { on := 5, ground := Ground.phase }, { on := 6, ground := Ground.phase }, { on := 7, ground := Ground.phase }, { on := 8, ground := Ground.phase }, { on := 9, ground := Ground.phase }, { on := 10, ground := Ground.phase }], guard := none }) rfl (fun K hK => ?_) ?_
        · have z : V7.cell? ⟨g, 8, none⟩ = some (.slice va vn vc) := (B7.out.cell 8).trans rfl
          have z2 : V7.frozen? ⟨g, 8, none⟩ = false := by rw [B7.out.frozen]; try simp
          go_simp
          clear z z2
          obtain ⟨V8, hV⟩ : ∃ V, V7.setCell ⟨g, 8, none⟩ (.slice a7 (vn + 1) c7) = V := ⟨_, rfl⟩
          rw [hV]
          have T8 : Hid (V7.grownBy V8 (some g)) := Lib.hid (by rw [← hV]; exact grown_set _ _ _ _)
          have B8 : Hid (Blk V8 g 86 (0, 0) [y0, y1, y2, y3, y4, .int .i64 el, .bool bl, .slice wa wn wc, .slice a7 (vn + 1) c7, y9, y10]) := Lib.hid (by rw [← hV]; exact B7.out.set 8 _)
          have L8 := Lib.hid (own_store L7.out B7.out (by decide) T8.out)
          clear hV B7 L7
          refine hK.out _ _ ⟨(B8.out.cell 5).trans rfl, (B8.out.cell 6).trans rfl, (B8.out.cell 7).trans rfl⟩ (fun hHeld => ?_)
          clear hK K
          refine wpAnyH_done (by kernel_rfl) ?_ _
          refine NoPanic.normal ?_
          exact HQ.out _ _ _ _ _ _ _ _ _ _ _ _ _ _ _ _ _ G7.out T8.out B8.out L8.out
        exact AllReadyH.nil
      exact AllReadyH.nil
    exact AllReadyH.nil
  exact AllReadyH.nil
set_option maxHeartbeats 8000000 in
set_option maxRecDepth 100000 in
theorem rput_reg (p0 : String) {W : World} {Q : Exit → Act → World → Prop} (t1 t2 t4 t5 t6 t7 t8 t9 t10 t11 t12 t13 t14 t15 t16 t17 t18 t19 t20 t21 t22 t23 t24 t25 t26 t27 t28 t29 t30 t31 t32 t33 t34 t35 t36 t37 t38 t39 t40 t41 t42 t43 t44 t45 t46 t47 t48 t49 : Value) (g base h : Nat) {va : Option Addr} {vn vc : Nat} {l : List Trm} (y0 y1 y2 y3 y4 y5 y6 y8 y9 y10 : Value) (tx : List UInt8) (qd : Bool)
    (kb : Blk W g 86 (0, 0) [y0, y1, y2, y3, y4, y5, y6, .slice va vn vc, y8, y9, y10])
    (ho0 : Own trE W base (.slice va vn vc) l)
    (hl : l.length = vn)
    (hb0 : base ≤ W.heap.size)
    (hvn : vn ≤ 70000)
    (hh : Blk W h 27 (0, 0) [.string (mk tx), .bool qd])
    (hq : ∀ (x38 x39 x40 x41 x42 x43 x44 x45 x46 x47 x48 x49 : Value) (V V1 : World) (a c : _) (_ : W.grownBy V1 (Value.slice va vn vc).ownBlock) (_ : V1.grownBy V (some g)) (_ : Blk V g 86 (0, 0) [y0, y1, y2, y3, y4, y5, y6, .slice a (vn + 1) c, y8, y9, y10]) (_ : Own trE V base (.slice a (vn + 1) c) (l ++ [(tx, qd)])), Q .normal { tmps := #[.pointer (some ⟨g, 0, none⟩), t1, t2, .pointer (some ⟨h, 0, none⟩), t4, t5, t6, t7, t8, t9, t10, t11, t12, t13, t14, t15, t16, t17, t18, t19, t20, t21, t22, t23, t24, t25, t26, t27, t28, t29, t30, t31, t32, t33, t34, t35, t36, t37, x38, x39, x40, x41, x42, x43, x44, x45, x46, x47, x48, x49], defers := [] } V) :
    Code.wp Try.prog (Code.region 6 (#[{ dst := some 38, op := Op.move (Operand.tmp 0), type := 84, pos := p0, after := #[], guard := none }, { dst := some 39, op := Op.move (Operand.tmp 0), type := 84, pos := p0, after := #[], guard := none }, { dst := some 40, op := Op.nilCheck (Operand.tmp 39), type := 0, pos := p0, after := #[{ on := 1, ground := Ground.data }], guard := none }, { dst := some 41, op := Op.fieldAddr 86 (Operand.tmp 40) 5, type := 0, pos := p0, after := #[{ on := 2, ground := Ground.data }], guard := none }, { dst := some 42, op := Op.fieldAddr 25 (Operand.tmp 41) 2, type := 0, pos := p0, after := #[{ on := 3, ground := Ground.data }], guard := none }, { dst := some 43, op := Op.load 23 (Operand.tmp 42), type := 23, pos := p0, after := #[{ on := 4, ground := Ground.data }], guard := none }, { dst := some 44, op := Op.load 27 (Operand.tmp 3), type := 27, pos := p0, after := #[], guard := none }, { dst := some 45, op := Op.buildSlice 23 1 #[(0, Operand.tmp 44)], type := 23, pos := p0, after := #[{ on := 6, ground := Ground.data }], guard := none }, { dst := some 46, op := Op.call { callee := Callee.builtin Builtin.append, args := #[Operand.tmp 43, Operand.tmp 45], argTypes := #[23, 23] }, type := 23, pos := p0, after := #[{ on := 5, ground := Ground.data }, { on := 7, ground := Ground.data }], guard := none }, { dst := some 47, op := Op.nilCheck (Operand.tmp 38), type := 0, pos := p0, after := #[{ on := 0, ground := Ground.data }, { on := 0, ground := Ground.phase }, { on := 1, ground := Ground.phase }, { on := 2, ground := Ground.phase }, { on := 3, ground := Ground.phase }, { on := 4, ground := Ground.phase }, { on := 5, ground := Ground.phase }, { on := 6, ground := Ground.phase }, { on := 7, ground := Ground.phase }, { on := 8, ground := Ground.phase }], guard := none }, { dst := some 48, op := Op.fieldAddr 86 (Operand.tmp 47) 5, type := 0, pos := p0, after := #[{ on := 9, ground := Ground.data }, { on := 0, ground := Ground.phase }, { on := 1, ground := Ground.phase }, { on := 2, ground := Ground.phase }, { on := 3, ground := Ground.phase }, { on := 4, ground := Ground.phase }, { on := 5, ground := Ground.phase }, { on := 6, ground := Ground.phase }, { on := 7, ground := Ground.phase }, { on := 8, ground := Ground.phase }], guard := none }, { dst := some 49, op := Op.fieldAddr 25 (Operand.tmp 48) 2, type := 0, pos := p0, after := #[{ on := 10, ground := Ground.data }, { on := 0, ground := Ground.phase }, { on := 1, ground := Ground.phase }, { on := 2, ground := Ground.phase }, { on := 3, ground := Ground.phase }, { on := 4, ground := Ground.phase }, { on := 5, ground := Ground.phase }, { on := 6, ground := Ground.phase }, { on := 7, ground := Ground.phase }, { on := 8, ground := Ground.phase }], guard := none }, { dst := none, op := Op.store 23 (Operand.tmp 49) (Operand.tmp 46), type := 0, pos := p0, after := #[{ on := 11, ground := Ground.data }, { on := 8, ground := Ground.data }, { on := 8, ground := Ground.chain }, { on := 0, ground := Ground.phase }, { on := 1, ground := Ground.phase }, { on := 2, ground := Ground.phase }, { on := 3, ground := Ground.phase }, { on := 4, ground := Ground.phase }, { on := 5, ground := Ground.phase }, { on := 6, ground := Ground.phase }, { on := 7, ground := Ground.phase }, { on := 8, ground := Ground.phase }], guard := none }] : Array Oper) true) Q { tmps := #[.pointer (some ⟨g, 0, none⟩), t1, t2, .pointer (some ⟨h, 0, none⟩), t4, t5, t6, t7, t8, t9, t10, t11, t12, t13, t14, t15, t16, t17, t18, t19, t20, t21, t22, t23, t24, t25, t26, t27, t28, t29, t30, t31, t32, t33, t34, t35, t36, t37, t38, t39, t40, t41, t42, t43, t44, t45, t46, t47, t48, t49], defers := [] } W := by
  have HQ := Lib.hid hq
  clear hq
  have KB := Lib.hid kb
  have L0 := Lib.hid ho0
  have hll := Lib.hid hl
  have hbb := Lib.hid hb0
  clear kb ho0 hl hb0
  have k0 : Hid (W.drew.cell? ⟨g, 0, none⟩ = some (y0)) := Lib.hid ((KB.out.drew.cell 0).trans rfl)
  have kb0 : Hid (Below W.heap.size W W.drew) := Lib.hid (Below.refl _ _).drew
  have B0 := Lib.hid KB.out.drew
  have LL0 := Lib.hid (L0.out.ext kb0.out)
  obtain ⟨j0, hj, jz0, jz1, jz2⟩ := info_parts Try.info27
  have H0 := Lib.hid hh.drew
  refine wp_region_noPanic ?_
  refine wp_region_held_drew (S := fun V => V.cell? ⟨g, 0, none⟩ = some (y0)) (by kernel_rfl) k0.out (fun hHeld => ?_)
  clear hHeld
  obtain ⟨U0, hU0⟩ : ∃ x, W.drew = x := ⟨_, rfl⟩
  rw [hU0] at k0 kb0 B0 LL0 H0 ⊢
  clear hU0
  refine wpAnyH_take (i := 0) (oi := { dst := some 38, op := Op.move (Operand.tmp 0), type := 84, pos := p0, after := #[], guard := none }) (v := ?_) rfl (by kernel_rfl) (by kernel_rfl) (by kernel_rfl) (fun _ _ _ h => h) (Or.inl ⟨by rfl, ?_⟩) (by assumption) ?_
  rotate_left
  · intro V hSV
    clear hSV
    go_simp
    first | done | with_reducible rfl
  try simp only [Act.put, List.setIfInBounds_toArray, List.set_cons_zero, List.set_cons_succ]
  refine wpAnyH_take (i := 1) (oi := { dst := some 39, op := Op.move (Operand.tmp 0), type := 84, pos := p0, after := #[], guard := none }) (v := ?_) rfl (by kernel_rfl) (by kernel_rfl) (by kernel_rfl) (fun _ _ _ h => h) (Or.inl ⟨by rfl, ?_⟩) (by assumption) ?_
  rotate_left
  · intro V hSV
    clear hSV
    go_simp
    first | done | with_reducible rfl
  try simp only [Act.put, List.setIfInBounds_toArray, List.set_cons_zero, List.set_cons_succ]
  refine wpAnyH_take (i := 2) (oi := { dst := some 40, op := Op.nilCheck (Operand.tmp 39), type := 0, pos := p0, after := #[{ on := 1, ground := Ground.data }], guard := none }) (v := ?_) rfl (by kernel_rfl) (by kernel_rfl) (by kernel_rfl) (fun _ _ _ h => h) (Or.inl ⟨by rfl, ?_⟩) (by assumption) ?_
  rotate_left
  · intro V hSV
    clear hSV
    go_simp
    first | done | with_reducible rfl
  try simp only [Act.put, List.setIfInBounds_toArray, List.set_cons_zero, List.set_cons_succ]
  refine wpAnyH_take (i := 3) (oi := { dst := some 41, op := Op.fieldAddr 86 (Operand.tmp 40) 5, type := 0, pos := p0, after := #[{ on := 2, ground := Ground.data }], guard := none }) (v := ?_) rfl (by kernel_rfl) (by kernel_rfl) (by kernel_rfl) (fun _ _ _ h => h) (Or.inl ⟨by rfl, ?_⟩) (by assumption) ?_
  rotate_left
  · intro V hSV
    clear hSV
    go_simp
    first | done | with_reducible rfl
  try simp only [Act.put, List.setIfInBounds_toArray, List.set_cons_zero, List.set_cons_succ]
  refine wpAnyH_take (i := 4) (oi := { dst := some 42, op := Op.fieldAddr 25 (Operand.tmp 41) 2, type := 0, pos := p0, after := #[{ on := 3, ground := Ground.data }], guard := none }) (v := ?_) rfl (by kernel_rfl) (by kernel_rfl) (by kernel_rfl) (fun _ _ _ h => h) (Or.inl ⟨by rfl, ?_⟩) (by assumption) ?_
  rotate_left
  · intro V hSV
    clear hSV
    go_simp
    first | done | with_reducible rfl
  try simp only [Act.put, List.setIfInBounds_toArray, List.set_cons_zero, List.set_cons_succ]
  refine wpAnyH_ready (rs := [5, 6]) (by kernel_rfl) (by simp) ?_
  refine AllReadyH.cons (o := { dst := some 43, op := Op.load 23 (Operand.tmp 42), type := 23, pos := p0, after := #[{ on := 4, ground := Ground.data }], guard := none }) rfl (fun K hK => ?_) ?_
  · have z : U0.cell? ⟨g, 7, none⟩ = some (.slice va vn vc) := (B0.out.cell 7).trans rfl
    go_simp
    clear z
    refine hK.out _ _ ((B0.out.cell 0).trans rfl) (fun hHeld => ?_)
    clear hK K
    try simp only [Act.put, List.setIfInBounds_toArray, List.set_cons_zero, List.set_cons_succ]
    refine wpAnyH_ready (rs := [6]) (by kernel_rfl) (by simp) ?_
    refine AllReadyH.cons (o := { dst := some 44, op := Op.load 27 (Operand.tmp 3), type := 27, pos := p0, after := #[], guard := none }) rfl (fun K hK => ?_) ?_
    · have q0 : U0.cell? ⟨h, 0, none⟩ = some (.string (mk tx)) := (H0.out.cell 0).trans rfl
      have q1 : U0.cell? ⟨h, 1, none⟩ = some (.bool qd) := (H0.out.cell 1).trans rfl
      go_simp
      clear q0 q1
      refine hK.out _ _ ((B0.out.cell 0).trans rfl) (fun hHeld => ?_)
      clear hK K
      try simp only [Act.put, List.setIfInBounds_toArray, List.set_cons_zero, List.set_cons_succ]
      refine wpAnyH_ready (rs := [7]) (by kernel_rfl) (by simp) ?_
      refine AllReadyH.cons (o := { dst := some 45, op := Op.buildSlice 23 1 #[(0, Operand.tmp 44)], type := 23, pos := p0, after := #[{ on := 6, ground := Ground.data }], guard := none }) rfl (fun K hK => ?_) ?_
      · go_simp
        obtain ⟨V3, e3⟩ : ∃ U, U0.alloc (.cells #[.string (mk tx), .bool qd] 27) = U := ⟨_, rfl⟩
        have mm : Below U0.heap.size U0 V3 := by rw [← e3]; exact alloc_bel _ _
        have N3 : Hid (Blk V3 U0.heap.size 27 (0, 0) [.string (mk tx), .bool qd]) := Lib.hid (by rw [← e3]; exact Blk.new U0 27 (0, 0) #[.string (mk tx), .bool qd])
        have B3 := Lib.hid (B0.out.below mm B0.out.lt)
        have L3 := Lib.hid (LL0.out.ext mm)
        have k3 := Lib.hid (kb0.out.trans (mm.mono kb0.out.size))
        rw [e3]
        clear e3 mm B0 LL0 kb0
        refine hK.out _ _ ((B3.out.cell 0).trans rfl) (fun hHeld => ?_)
        clear hK K
        try simp only [Act.put, List.setIfInBounds_toArray, List.set_cons_zero, List.set_cons_succ]
        refine wpAnyH_ready (rs := [8]) (by kernel_rfl) (by simp) ?_
        refine AllReadyH.cons (o := { dst := some 46, op := Op.call { callee := Callee.builtin Builtin.append, args := #[Operand.tmp 43, Operand.tmp 45], argTypes := #[23, 23] }, type := 23, pos := p0, after := #[{ on := 5, ground := Ground.data }, { on := 7, ground := Ground.data }], guard := none }) rfl (fun K hK => ?_) ?_
        · have hsrc := (rd_blk (E := trE) (X := [(tx, qd)]) (fz := (0, 0)) N3.out 1 rfl (by decide)).src (P := Try.prog) (tx := 23) Try.underlying23
          refine step_own (E := trE) (l := l) (news := [(tx, qd)]) (base := base) (by rfl) (.tmp 43) (.tmp 45) 23 23 (by rfl) Try.underlying23 hj jz0 jz1 jz2 rfl (by rfl) L3.out (by rfl) hsrc (by rw [hll.out]; simp [maxLen]; omega) (by rw [hll.out]; simp; omega) (Nat.le_trans hbb.out k3.out.size) ?_
          intro v4 V4 ho hg hx
          obtain ⟨a4, c4, rfl⟩ := ho.shape
          have hln : (l ++ [(tx, qd)]).length = vn + 1 := by rw [List.length_append, hll.out]; rfl
          rw [hln] at ho ⊢
          have B4 := Lib.hid (blk_own B3.out L3.out (by decide) hg)
          have L4 := Lib.hid ho
          have G4 := Lib.hid (grown_trans (grown_of_below (r := (Value.slice va vn vc).ownBlock) k3.out) hg)
          clear hsrc ho hg hx hln B3 L3 k3 N3
          refine hK.out _ _ ((B4.out.cell 0).trans rfl) (fun hHeld => ?_)
          clear hK K
          try simp only [Act.put, List.setIfInBounds_toArray, List.set_cons_zero, List.set_cons_succ]
          refine wpAnyH_take (i := 9) (oi := { dst := some 47, op := Op.nilCheck (Operand.tmp 38), type := 0, pos := p0, after := #[{ on := 0, ground := Ground.data }, { on := 0, ground := Ground.phase }, { on := 1, ground := Ground.phase }, { on := 2, ground := Ground.phase }, { on := 3, ground := Ground.phase }, { on := 4, ground := Ground.phase }, { on := 5, ground := Ground.phase }, { on := 6, ground := Ground.phase }, { on := 7, ground := Ground.phase }, { on := 8, ground := Ground.phase }], guard := none }) (v := ?_) rfl (by kernel_rfl) (by kernel_rfl) (by kernel_rfl) (fun _ _ _ h => h) (Or.inl ⟨by rfl, ?_⟩) (by assumption) ?_
          rotate_left
          · intro V hSV
            clear hSV
            go_simp
            first | done | with_reducible rfl
          try simp only [Act.put, List.setIfInBounds_toArray, List.set_cons_zero, List.set_cons_succ]
          refine wpAnyH_take (i := 10) (oi := { dst := some 48, op := Op.fieldAddr 86 (Operand.tmp 47) 5, type := 0, pos := p0, after := #[{ on := 9, ground := Ground.data }, { on := 0, ground := Ground.phase }, { on := 1, ground := Ground.phase }, { on := 2, ground := Ground.phase }, { on := 3, ground := Ground.phase }, { on := 4, ground := Ground.phase }, { on := 5, ground := Ground.phase }, { on := 6, ground := Ground.phase }, { on := 7, ground := Ground.phase }, { on := 8, ground := Ground.phase }], guard := none }) (v := ?_) rfl (by kernel_rfl) (by kernel_rfl) (by kernel_rfl) (fun _ _ _ h => h) (Or.inl ⟨by rfl, ?_⟩) (by assumption) ?_
          rotate_left
          · intro V hSV
            clear hSV
            go_simp
            first | done | with_reducible rfl
          try simp only [Act.put, List.setIfInBounds_toArray, List.set_cons_zero, List.set_cons_succ]
          refine wpAnyH_take (i := 11) (oi := { dst := some 49, op := Op.fieldAddr 25 (Operand.tmp 48) 2, type := 0, pos := p0, after := #[{ on := 10, ground := Ground.data }, { on := 0, ground := Ground.phase }, { on := 1, ground := Ground.phase }, { on := 2, ground := Ground.phase }, { on := 3, ground := Ground.phase }, { on := 4, ground := Ground.phase }, { on := 5, ground := Ground.phase }, { on := 6, ground := Ground.phase }, { on := 7, ground := Ground.phase }, { on := 8, ground := Ground.phase }], guard := none }) (v := ?_) rfl (by kernel_rfl) (by kernel_rfl) (by kernel_rfl) (fun _ _ _ h => h) (Or.inl ⟨by rfl, ?_⟩) (by assumption) ?_
          rotate_left
          · intro V hSV
            clear hSV
            go_simp
            first | done | with_reducible rfl
          try simp only [Act.put, List.setIfInBounds_toArray, List.set_cons_zero, List.set_cons_succ]
          refine wpAnyH_ready (rs := [12]) (by kernel_rfl) (by simp) ?_
          refine AllReadyH.cons (o := { dst := none, op := Op.store 23 (Operand.tmp 49) (Operand.tmp 46), type := 0, pos := p0, after := #[{ on := 11, ground := Ground.data }, { on := 8, ground := Ground.data }, { on := 8, ground := Ground.chain }, { on := 0, ground := Ground.phase }, { on := 1, ground := Ground.phase }, { on := 2, ground := Ground.phase }, { on := 3, ground := Ground.phase }, { on := 4, ground := Ground.phase }, { on := 5, ground := Ground.phase }, { on := 6, ground := Ground.phase }, { on := 7, ground := Ground.phase }, { on := 8, ground := Ground.phase }], guard := none }) rfl (fun K hK => ?_) ?_
          · have z : V4.cell? ⟨g, 7, none⟩ = some (.slice va vn vc) := (B4.out.cell 7).trans rfl
            have z2 : V4.frozen? ⟨g, 7, none⟩ = false := by rw [B4.out.frozen]; try simp
            go_simp
            clear z z2
            obtain ⟨V5, hV⟩ : ∃ V, V4.setCell ⟨g, 7, none⟩ (.slice a4 (vn + 1) c4) = V := ⟨_, rfl⟩
            rw [hV]
            have T5 : Hid (V4.grownBy V5 (some g)) := Lib.hid (by rw [← hV]; exact grown_set _ _ _ _)
            have B5 : Hid (Blk V5 g 86 (0, 0) [y0, y1, y2, y3, y4, y5, y6, .slice a4 (vn + 1) c4, y8, y9, y10]) := Lib.hid (by rw [← hV]; exact B4.out.set 7 _)
            have L5 := Lib.hid (own_store L4.out B4.out (by decide) T5.out)
            clear hV B4 L4
            refine hK.out _ _ ((B5.out.cell 0).trans rfl) (fun hHeld => ?_)
            clear hK K
            refine wpAnyH_done (by kernel_rfl) ?_ _
            refine NoPanic.normal ?_
            exact HQ.out _ _ _ _ _ _ _ _ _ _ _ _ _ _ _ _ G4.out T5.out B5.out L5.out
          exact AllReadyH.nil
        exact AllReadyH.nil
      exact AllReadyH.nil
    exact AllReadyH.nil
  refine AllReadyH.cons (o := { dst := some 44, op := Op.load 27 (Operand.tmp 3), type := 27, pos := p0, after := #[], guard := none }) rfl (fun K hK => ?_) ?_
  · have q0 : U0.cell? ⟨h, 0, none⟩ = some (.string (mk tx)) := (H0.out.cell 0).trans rfl
    have q1 : U0.cell? ⟨h, 1, none⟩ = some (.bool qd) := (H0.out.cell 1).trans rfl
    go_simp
    clear q0 q1
    refine hK.out _ _ ((B0.out.cell 0).trans rfl) (fun hHeld => ?_)
    clear hK K
    try simp only [Act.put, List.setIfInBounds_toArray, List.set_cons_zero, List.set_cons_succ]
    refine wpAnyH_ready (rs := [5, 7]) (by kernel_rfl) (by simp) ?_
    refine AllReadyH.cons (o := { dst := some 43, op := Op.load 23 (Operand.tmp 42), type := 23, pos := p0, after := #[{ on := 4, ground := Ground.data }], guard := none }) rfl (fun K hK => ?_) ?_
    · have z : U0.cell? ⟨g, 7, none⟩ = some (.slice va vn vc) := (B0.out.cell 7).trans rfl
      go_simp
      clear z
      refine hK.out _ _ ((B0.out.cell 0).trans rfl) (fun hHeld => ?_)
      clear hK K
      try simp only [Act.put, List.setIfInBounds_toArray, List.set_cons_zero, List.set_cons_succ]
      refine wpAnyH_ready (rs := [7]) (by kernel_rfl) (by simp) ?_
      refine AllReadyH.cons (o := { dst := some 45, op := Op.buildSlice 23 1 #[(0, Operand.tmp 44)], type := 23, pos := p0, after := #[{ on := 6, ground := Ground.data }], guard := none }) rfl (fun K hK => ?_) ?_
      · go_simp
        obtain ⟨V8, e8⟩ : ∃ U, U0.alloc (.cells #[.string (mk tx), .bool qd] 27) = U := ⟨_, rfl⟩
        have mm : Below U0.heap.size U0 V8 := by rw [← e8]; exact alloc_bel _ _
        have N8 : Hid (Blk V8 U0.heap.size 27 (0, 0) [.string (mk tx), .bool qd]) := Lib.hid (by rw [← e8]; exact Blk.new U0 27 (0, 0) #[.string (mk tx), .bool qd])
        have B8 := Lib.hid (B0.out.below mm B0.out.lt)
        have L8 := Lib.hid (LL0.out.ext mm)
        have k8 := Lib.hid (kb0.out.trans (mm.mono kb0.out.size))
        rw [e8]
        clear e8 mm B0 LL0 kb0
        refine hK.out _ _ ((B8.out.cell 0).trans rfl) (fun hHeld => ?_)
        clear hK K
        try simp only [Act.put, List.setIfInBounds_toArray, List.set_cons_zero, List.set_cons_succ]
        refine wpAnyH_ready (rs := [8]) (by kernel_rfl) (by simp) ?_
        refine AllReadyH.cons (o := { dst := some 46, op := Op.call { callee := Callee.builtin Builtin.append, args := #[Operand.tmp 43, Operand.tmp 45], argTypes := #[23, 23] }, type := 23, pos := p0, after := #[{ on := 5, ground := Ground.data }, { on := 7, ground := Ground.data }], guard := none }) rfl (fun K hK => ?_) ?_
        · have hsrc := (rd_blk (E := trE) (X := [(tx, qd)]) (fz := (0, 0)) N8.out 1 rfl (by decide)).src (P := Try.prog) (tx := 23) Try.underlying23
          refine step_own (E := trE) (l := l) (news := [(tx, qd)]) (base := base) (by rfl) (.tmp 43) (.tmp 45) 23 23 (by rfl) Try.underlying23 hj jz0 jz1 jz2 rfl (by rfl) L8.out (by rfl) hsrc (by rw [hll.out]; simp [maxLen]; omega) (by rw [hll.out]; simp; omega) (Nat.le_trans hbb.out k8.out.size) ?_
          intro v9 V9 ho hg hx
          obtain ⟨a9, c9, rfl⟩ := ho.shape
          have hln : (l ++ [(tx, qd)]).length = vn + 1 := by rw [List.length_append, hll.out]; rfl
          rw [hln] at ho ⊢
          have B9 := Lib.hid (blk_own B8.out L8.out (by decide) hg)
          have L9 := Lib.hid ho
          have G9 := Lib.hid (grown_trans (grown_of_below (r := (Value.slice va vn vc).ownBlock) k8.out) hg)
          clear hsrc ho hg hx hln B8 L8 k8 N8
          refine hK.out _ _ ((B9.out.cell 0).trans rfl) (fun hHeld => ?_)
          clear hK K
          try simp only [Act.put, List.setIfInBounds_toArray, List.set_cons_zero, List.set_cons_succ]
          refine wpAnyH_take (i := 9) (oi := { dst := some 47, op := Op.nilCheck (Operand.tmp 38), type := 0, pos := p0, after := #[{ on := 0, ground := Ground.data }, { on := 0, ground := Ground.phase }, { on := 1, ground := Ground.phase }, { on := 2, ground := Ground.phase }, { on := 3, ground := Ground.phase }, { on := 4, ground := Ground.phase }, { on := 5, ground := Ground.phase }, { on := 6, ground := Ground.phase }, { on := 7, ground := Ground.phase }, { on := 8, ground := Ground.phase }], guard := none }) (v := ?_) rfl (by kernel_rfl) (by kernel_rfl) (by kernel_rfl) (fun _ _ _ h => h) (Or.inl ⟨by rfl, ?_⟩) (by assumption) ?_
          rotate_left
          · intro V hSV
            clear hSV
            go_simp
            first | done | with_reducible rfl
          try simp only [Act.put, List.setIfInBounds_toArray, List.set_cons_zero, List.set_cons_succ]
          refine wpAnyH_take (i := 10) (oi := { dst := some 48, op := Op.fieldAddr 86 (Operand.tmp 47) 5, type := 0, pos := p0, after := #[{ on := 9, ground := Ground.data }, { on := 0, ground := Ground.phase }, { on := 1, ground := Ground.phase }, { on := 2, ground := Ground.phase }, { on := 3, ground := Ground.phase }, { on := 4, ground := Ground.phase }, { on := 5, ground := Ground.phase }, { on := 6, ground := Ground.phase }, { on := 7, ground := Ground.phase }, { on := 8, ground := Ground.phase }], guard := none }) (v := ?_) rfl (by kernel_rfl) (by kernel_rfl) (by kernel_rfl) (fun _ _ _ h => h) (Or.inl ⟨by rfl, ?_⟩) (by assumption) ?_
          rotate_left
          · intro V hSV
            clear hSV
            go_simp
            first | done | with_reducible rfl
          try simp only [Act.put, List.setIfInBounds_toArray, List.set_cons_zero, List.set_cons_succ]
          refine wpAnyH_take (i := 11) (oi := { dst := some 49, op := Op.fieldAddr 25 (Operand.tmp 48) 2, type := 0, pos := p0, after := #[{ on := 10, ground := Ground.data }, { on := 0, ground := Ground.phase }, { on := 1, ground := Ground.phase }, { on := 2, ground := Ground.phase }, { on := 3, ground := Ground.phase }, { on := 4, ground := Ground.phase }, { on := 5, ground := Ground.phase }, { on := 6, ground := Ground.phase }, { on := 7, ground := Ground.phase }, { on := 8, ground := Ground.phase }], guard := none }) (v := ?_) rfl (by kernel_rfl) (by kernel_rfl) (by kernel_rfl) (fun _ _ _ h => h) (Or.inl ⟨by rfl, ?_⟩) (by assumption) ?_
          rotate_left
          · intro V hSV
            clear hSV
            go_simp
            first | done | with_reducible rfl
          try simp only [Act.put, List.setIfInBounds_toArray, List.set_cons_zero, List.set_cons_succ]
          refine wpAnyH_ready (rs := [12]) (by kernel_rfl) (by simp) ?_
          refine AllReadyH.cons (o := { dst := none, op := Op.store 23 (Operand.tmp 49) (Operand.tmp 46), type := 0, pos := p0, after := #[{ on := 11, ground := Ground.data }, { on := 8, ground := Ground.data }, { on := 8, ground := Ground.chain }, { on := 0, ground := Ground.phase }, { on := 1, ground := Ground.phase }, { on := 2, ground := Ground.phase }, { on := 3, ground := Ground.phase }, { on := 4, ground := Ground.phase }, { on := 5, ground := Ground.phase }, { on := 6, ground := Ground.phase }, { on := 7, ground := Ground.phase }, { on := 8, ground := Ground.phase }], guard := none }) rfl (fun K hK => ?_) ?_
          · have z : V9.cell? ⟨g, 7, none⟩ = some (.slice va vn vc) := (B9.out.cell 7).trans rfl
            have z2 : V9.frozen? ⟨g, 7, none⟩ = false := by rw [B9.out.frozen]; try simp
            go_simp
            clear z z2
            obtain ⟨V10, hV⟩ : ∃ V, V9.setCell ⟨g, 7, none⟩ (.slice a9 (vn + 1) c9) = V := ⟨_, rfl⟩
            rw [hV]
            have T10 : Hid (V9.grownBy V10 (some g)) := Lib.hid (by rw [← hV]; exact grown_set _ _ _ _)
            have B10 : Hid (Blk V10 g 86 (0, 0) [y0, y1, y2, y3, y4, y5, y6, .slice a9 (vn + 1) c9, y8, y9, y10]) := Lib.hid (by rw [← hV]; exact B9.out.set 7 _)
            have L10 := Lib.hid (own_store L9.out B9.out (by decide) T10.out)
            clear hV B9 L9
            refine hK.out _ _ ((B10.out.cell 0).trans rfl) (fun hHeld => ?_)
            clear hK K
            refine wpAnyH_done (by kernel_rfl) ?_ _
            refine NoPanic.normal ?_
            exact HQ.out _ _ _ _ _ _ _ _ _ _ _ _ _ _ _ _ G9.out T10.out B10.out L10.out
          exact AllReadyH.nil
        exact AllReadyH.nil
      exact AllReadyH.nil
    refine AllReadyH.cons (o := { dst := some 45, op := Op.buildSlice 23 1 #[(0, Operand.tmp 44)], type := 23, pos := p0, after := #[{ on := 6, ground := Ground.data }], guard := none }) rfl (fun K hK => ?_) ?_
    · go_simp
      obtain ⟨V11, e11⟩ : ∃ U, U0.alloc (.cells #[.string (mk tx), .bool qd] 27) = U := ⟨_, rfl⟩
      have mm : Below U0.heap.size U0 V11 := by rw [← e11]; exact alloc_bel _ _
      have N11 : Hid (Blk V11 U0.heap.size 27 (0, 0) [.string (mk tx), .bool qd]) := Lib.hid (by rw [← e11]; exact Blk.new U0 27 (0, 0) #[.string (mk tx), .bool qd])
      have B11 := Lib.hid (B0.out.below mm B0.out.lt)
      have L11 := Lib.hid (LL0.out.ext mm)
      have k11 := Lib.hid (kb0.out.trans (mm.mono kb0.out.size))
      rw [e11]
      clear e11 mm B0 LL0 kb0
      refine hK.out _ _ ((B11.out.cell 0).trans rfl) (fun hHeld => ?_)
      clear hK K
      try simp only [Act.put, List.setIfInBounds_toArray, List.set_cons_zero, List.set_cons_succ]
      refine wpAnyH_ready (rs := [5]) (by kernel_rfl) (by simp) ?_
      refine AllReadyH.cons (o := { dst := some 43, op := Op.load 23 (Operand.tmp 42), type := 23, pos := p0, after := #[{ on := 4, ground := Ground.data }], guard := none }) rfl (fun K hK => ?_) ?_
      · have z : V11.cell? ⟨g, 7, none⟩ = some (.slice va vn vc) := (B11.out.cell 7).trans rfl
        go_simp
        clear z
        refine hK.out _ _ ((B11.out.cell 0).trans rfl) (fun hHeld => ?_)
        clear hK K
        try simp only [Act.put, List.setIfInBounds_toArray, List.set_cons_zero, List.set_cons_succ]
        refine wpAnyH_ready (rs := [8]) (by kernel_rfl) (by simp) ?_
        refine AllReadyH.cons (o := { dst := some 46, op := Op.call { callee := Callee.builtin Builtin.append, args := #[Operand.tmp 43, Operand.tmp 45], argTypes := #[23, 23] }, type := 23, pos := p0, after := #[{ on := 5, ground := Ground.data }, { on := 7, ground := Ground.data }], guard := none }) rfl (fun K hK => ?_) ?_
        · have hsrc := (rd_blk (E := trE) (X := [(tx, qd)]) (fz := (0, 0)) N11.out 1 rfl (by decide)).src (P := Try.prog) (tx := 23) Try.underlying23
          refine step_own (E := trE) (l := l) (news := [(tx, qd)]) (base := base) (by rfl) (.tmp 43) (.tmp 45) 23 23 (by rfl) Try.underlying23 hj jz0 jz1 jz2 rfl (by rfl) L11.out (by rfl) hsrc (by rw [hll.out]; simp [maxLen]; omega) (by rw [hll.out]; simp; omega) (Nat.le_trans hbb.out k11.out.size) ?_
          intro v13 V13 ho hg hx
          obtain ⟨a13, c13, rfl⟩ := ho.shape
          have hln : (l ++ [(tx, qd)]).length = vn + 1 := by rw [List.length_append, hll.out]; rfl
          rw [hln] at ho ⊢
          have B13 := Lib.hid (blk_own B11.out L11.out (by decide) hg)
          have L13 := Lib.hid ho
          have G13 := Lib.hid (grown_trans (grown_of_below (r := (Value.slice va vn vc).ownBlock) k11.out) hg)
          clear hsrc ho hg hx hln B11 L11 k11 N11
          refine hK.out _ _ ((B13.out.cell 0).trans rfl) (fun hHeld => ?_)
          clear hK K
          try simp only [Act.put, List.setIfInBounds_toArray, List.set_cons_zero, List.set_cons_succ]
          refine wpAnyH_take (i := 9) (oi := { dst := some 47, op := Op.nilCheck (Operand.tmp 38), type := 0, pos := p0, after := #[{ on := 0, ground := Ground.data }, { on := 0, ground := Ground.phase }, { on := 1, ground := Ground.phase }, { on := 2, ground := Ground.phase }, { on := 3, ground := Ground.phase }, { on := 4, ground := Ground.phase }, { on := 5, ground := Ground.phase }, { on := 6, ground := Ground.phase }, { on := 7, ground := Ground.phase }, { on := 8, ground := Ground.phase }], guard := none }) (v := ?_) rfl (by kernel_rfl) (by kernel_rfl) (by kernel_rfl) (fun _ _ _ h => h) (Or.inl ⟨by rfl, ?_⟩) (by assumption) ?_
          rotate_left
          · intro V hSV
            clear hSV
            go_simp
            first | done | with_reducible rfl
          try simp only [Act.put, List.setIfInBounds_toArray, List.set_cons_zero, List.set_cons_succ]
          refine wpAnyH_take (i := 10) (oi := { dst := some 48, op := Op.fieldAddr 86 (Operand.tmp 47) 5, type := 0, pos := p0, after := #[{ on := 9, ground := Ground.data }, { on := 0, ground := Ground.phase }, { on := 1, ground := Ground.phase }, { on := 2, ground := Ground.phase }, { on := 3, ground := Ground.phase }, { on := 4, ground := Ground.phase }, { on := 5, ground := Ground.phase }, { on := 6, ground := Ground.phase }, { on := 7, ground := Ground.phase }, { on := 8, ground := Ground.phase }], guard := none }) (v := ?_) rfl (by kernel_rfl) (by kernel_rfl) (by kernel_rfl) (fun _ _ _ h => h) (Or.inl ⟨by rfl, ?_⟩) (by assumption) ?_
          rotate_left
          · intro V hSV
            clear hSV
            go_simp
            first | done | with_reducible rfl
          try simp only [Act.put, List.setIfInBounds_toArray, List.set_cons_zero, List.set_cons_succ]
          refine wpAnyH_take (i := 11) (oi := { dst := some 49, op := Op.fieldAddr 25 (Operand.tmp 48) 2, type := 0, pos := p0, after := #[{ on := 10, ground := Ground.data }, { on := 0, ground := Ground.phase }, { on := 1, ground := Ground.phase }, { on := 2, ground := Ground.phase }, { on := 3, ground := Ground.phase }, { on := 4, ground := Ground.phase }, { on := 5, ground := Ground.phase }, { on := 6, ground := Ground.phase }, { on := 7, ground := Ground.phase }, { on := 8, ground := Ground.phase }], guard := none }) (v := ?_) rfl (by kernel_rfl) (by kernel_rfl) (by kernel_rfl) (fun _ _ _ h => h) (Or.inl ⟨by rfl, ?_⟩) (by assumption) ?_
          rotate_left
          · intro V hSV
            clear hSV
            go_simp
            first | done | with_reducible rfl
          try simp only [Act.put, List.setIfInBounds_toArray, List.set_cons_zero, List.set_cons_succ]
          refine wpAnyH_ready (rs := [12]) (by kernel_rfl) (by simp) ?_
          refine AllReadyH.cons (o := { dst := none, op := Op.store 23 (Operand.tmp 49) (Operand.tmp 46), type := 0, pos := p0, after := #[{ on := 11, ground := Ground.data }, { on := 8, ground := Ground.data }, { on := 8, ground := Ground.chain }, { on := 0, ground := Ground.phase }, { on := 1, ground := Ground.phase }, { on := 2, ground := Ground.phase }, { on := 3, ground := Ground.phase }, { on := 4, ground := Ground.phase }, { on := 5, ground := Ground.phase }, { on := 6, ground := Ground.phase }, { on := 7, ground := Ground.phase }, { on := 8, ground := Ground.phase }], guard := none }) rfl (fun K hK => ?_) ?_
          · have z : V13.cell? ⟨g, 7, none⟩ = some (.slice va vn vc) := (B13.out.cell 7).trans rfl
            have z2 : V13.frozen? ⟨g, 7, none⟩ = false := by rw [B13.out.frozen]; try simp
            go_simp
            clear z z2
            obtain ⟨V14, hV⟩ : ∃ V, V13.setCell ⟨g, 7, none⟩ (.slice a13 (vn + 1) c13) = V := ⟨_, rfl⟩
            rw [hV]
            have T14 : Hid (V13.grownBy V14 (some g)) := Lib.hid (by rw [← hV]; exact grown_set _ _ _ _)
            have B14 : Hid (Blk V14 g 86 (0, 0) [y0, y1, y2, y3, y4, y5, y6, .slice a13 (vn + 1) c13, y8, y9, y10]) := Lib.hid (by rw [← hV]; exact B13.out.set 7 _)
            have L14 := Lib.hid (own_store L13.out B13.out (by decide) T14.out)
            clear hV B13 L13
            refine hK.out _ _ ((B14.out.cell 0).trans rfl) (fun hHeld => ?_)
            clear hK K
            refine wpAnyH_done (by kernel_rfl) ?_ _
            refine NoPanic.normal ?_
            exact HQ.out _ _ _ _ _ _ _ _ _ _ _ _ _ _ _ _ G13.out T14.out B14.out L14.out
          exact AllReadyH.nil
        exact AllReadyH.nil
      exact AllReadyH.nil
    exact AllReadyH.nil
  exact AllReadyH.nil
end Go.Proofs.Ytojdjhicjhhblaa
