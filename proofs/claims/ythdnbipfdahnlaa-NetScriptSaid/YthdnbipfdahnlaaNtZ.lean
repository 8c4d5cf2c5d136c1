/- The document's network: Forge 32. Printed by gen_ntz.py. -/
import Derived.Test.YthdnbipfdahnlaaNtY
namespace Go.Proofs.Ythdnbipfdahnlaa
open Go Go.RowKit
set_option maxHeartbeats 8000000 in
set_option maxRecDepth 100000 in
theorem forge_reg (p0 : String) {W : World} {Q : Exit → Act → World → Prop} (t1 t3 t5 t6 t7 t8 t9 t10 t11 t12 t13 t14 t15 t16 t17 t18 t19 t20 t21 t22 t23 t24 t25 t26 t27 t28 t29 t30 t31 t32 t33 t34 t35 t36 t37 t38 t39 t40 t41 : Value) (r g4 : Nat) (h : Hd) {da : Option Addr} {dn dc : Nat} {d : List UInt8} (y : Int) {fa : Option Addr} {fn fc : Nat} {la : Option Addr} {ln lc : Nat} {FL : List FD} (sent lost forged taken : Int)
    (kr : Blk W r 75 (0, 0) [.slice fa fn fc, .slice la ln lc, .int .i64 sent, .int .i64 lost, .int .i64 forged, .int .i64 taken])
    (k4 : Blk W g4 32 (0, 0) [.int .u32 h.from_, .int .u16 h.fport, .int .u32 h.to_, .int .u16 h.tport, .bool h.stream, .slice da dn dc])
    (hr : Rd byteE W da dn dc d)
    (hn : dn ≤ 140737488355328)
    (hl : Rd flE W la ln lc FL)
    (hL : ln ≤ 16384)
    (hq : ∀ (x20 x21 x22 x23 x24 x25 x26 x27 x28 x29 x30 x31 x32 x33 x34 : Value) (V : World) (a9 : Option Addr) (nn c9 : Nat) (a : Option Addr) (c : Nat) (_ : Tch (fun g => g = r) W V) (_ : Blk V r 75 (0, 0) [.slice fa fn fc, .slice a9 nn c9, .int .i64 sent, .int .i64 lost, .int .i64 forged, .int .i64 taken]) (_ : Own flE V W.heap.size (.slice a9 nn c9) (FL ++ [(⟨y, ⟨h, a, dn, c⟩⟩ : FD)])) (_ : Own byteE V W.heap.size (.slice a dn c) d), Q .normal { tmps := #[.pointer (some ⟨r, 0, none⟩), t1, .int .i64 y, t3, .pointer (some ⟨g4, 0, none⟩), t5, t6, t7, t8, t9, t10, t11, t12, t13, t14, t15, t16, t17, t18, t19, x20, x21, x22, x23, x24, x25, x26, x27, x28, x29, x30, x31, x32, x33, x34, t35, t36, t37, t38, t39, t40, t41], defers := [] } V) :
    Code.wp Try.prog (Code.region 6 (#[{ dst := some 20, op := Op.move (Operand.tmp 0), type := 55, pos := p0, after := #[], guard := none }, { dst := some 21, op := Op.buildSlice 61 0 #[], type := 61, pos := p0, after := #[], guard := none }, { dst := some 22, op := Op.move (Operand.tmp 0), type := 55, pos := p0, after := #[], guard := none }, { dst := some 23, op := Op.nilCheck (Operand.tmp 22), type := 0, pos := p0, after := #[{ on := 2, ground := Ground.data }], guard := none }, { dst := some 24, op := Op.fieldAddr 75 (Operand.tmp 23) 1, type := 0, pos := p0, after := #[{ on := 3, ground := Ground.data }], guard := none }, { dst := some 25, op := Op.load 61 (Operand.tmp 24), type := 61, pos := p0, after := #[{ on := 4, ground := Ground.data }], guard := none }, { dst := some 26, op := Op.call { callee := Callee.builtin Builtin.append, args := #[Operand.tmp 21, Operand.tmp 25], argTypes := #[61, 61] }, type := 61, pos := p0, after := #[{ on := 1, ground := Ground.data }, { on := 5, ground := Ground.data }], guard := none }, { dst := some 27, op := Op.move (Operand.tmp 2), type := 3, pos := p0, after := #[], guard := none }, { dst := some 28, op := Op.load 32 (Operand.tmp 4), type := 32, pos := p0, after := #[], guard := none }, { dst := some 29, op := Op.call { callee := Callee.value (Operand.func 45), args := #[Operand.tmp 28, Operand.const (Value.int IntKind.i64 (-1))], argTypes := #[32, 3] }, type := 32, pos := p0, after := #[{ on := 8, ground := Ground.data }, { on := 6, ground := Ground.chain }], guard := none }, { dst := some 30, op := Op.build 71 #[(0, Operand.tmp 27), (1, Operand.tmp 29)], type := 71, pos := p0, after := #[{ on := 7, ground := Ground.data }, { on := 9, ground := Ground.data }], guard := none }, { dst := some 31, op := Op.buildSlice 61 1 #[(0, Operand.tmp 30)], type := 61, pos := p0, after := #[{ on := 10, ground := Ground.data }], guard := none }, { dst := some 32, op := Op.call { callee := Callee.builtin Builtin.append, args := #[Operand.tmp 26, Operand.tmp 31], argTypes := #[61, 61] }, type := 61, pos := p0, after := #[{ on := 6, ground := Ground.data }, { on := 11, ground := Ground.data }, { on := 9, ground := Ground.chain }], guard := none }, { dst := some 33, op := Op.nilCheck (Operand.tmp 20), type := 0, pos := p0, after := #[{ on := 0, ground := Ground.data }, { on := 0, ground := Ground.phase }, { on := 1, ground := Ground.phase }, { on := 2, ground := Ground.phase }, { on := 3, ground := Ground.phase }, { on := 4, ground := Ground.phase }, { on := 5, ground := Ground.phase }, { on := 6, ground := Ground.phase }, { on := 7, ground := Ground.phase }, { on := 8, ground := Ground.phase }, { on := 9, ground := Ground.phase }, { on := 10, ground := Ground.phase }, { on := 11, ground := Ground.phase }, { on := 12, ground := Ground.phase }], guard := none }, { dst := some 34, op := Op.fieldAddr 75 (Operand.tmp 33) 1, type := 0, pos := p0, after := #[{ on := 13, ground := Ground.data }, { on := 0, ground := Ground.phase }, { on := 1, ground := Ground.phase }, { on := 2, ground := Ground.phase }, { on := 3, ground := Ground.phase }, { on := 4, ground := Ground.phase }, { on := 5, ground := Ground.phase }, { on := 6, ground := Ground.phase }, { on := 7, ground := Ground.phase }, { on := 8, ground := Ground.phase }, { on := 9, ground := Ground.phase }, { on := 10, ground := Ground.phase }, { on := 11, ground := Ground.phase }, { on := 12, ground := Ground.phase }], guard := none }, { dst := none, op := Op.store 61 (Operand.tmp 34) (Operand.tmp 32), type := 0, pos := p0, after := #[{ on := 14, ground := Ground.data }, { on := 12, ground := Ground.data }, { on := 12, ground := Ground.chain }, { on := 0, ground := Ground.phase }, { on := 1, ground := Ground.phase }, { on := 2, ground := Ground.phase }, { on := 3, ground := Ground.phase }, { on := 4, ground := Ground.phase }, { on := 5, ground := Ground.phase }, { on := 6, ground := Ground.phase }, { on := 7, ground := Ground.phase }, { on := 8, ground := Ground.phase }, { on := 9, ground := Ground.phase }, { on := 10, ground := Ground.phase }, { on := 11, ground := Ground.phase }, { on := 12, ground := Ground.phase }], guard := none }] : Array Oper) true) Q { tmps := #[.pointer (some ⟨r, 0, none⟩), t1, .int .i64 y, t3, .pointer (some ⟨g4, 0, none⟩), t5, t6, t7, t8, t9, t10, t11, t12, t13, t14, t15, t16, t17, t18, t19, t20, t21, t22, t23, t24, t25, t26, t27, t28, t29, t30, t31, t32, t33, t34, t35, t36, t37, t38, t39, t40, t41], defers := [] } W := by
  have HQ := Lib.hid hq
  clear hq
  have Kr := Lib.hid kr
  have K4 := Lib.hid k4
  have HR := Lib.hid hr
  have HL := Lib.hid hl
  have hln := Lib.hid hl.len
  have hne : Hid (g4 ≠ r) := Lib.hid (fun e => by subst e; exact absurd (blk_type k4 kr) (by decide))
  clear kr k4 hr hl
  have k0 : Hid (Below W.heap.size W W.drew) := Lib.hid (Below.refl _ _).drew
  have k00 := Lib.hid (Tch.of_below (S := fun g => g = r) k0.out)
  obtain ⟨j0, hj, jz0, jz1, jz2⟩ := info_parts Try.info71
  refine wp_region_noPanic ?_
  refine wp_region_held_drew (S := fun V => Tch (fun g => g = r) W V) (by kernel_rfl) k00.out (fun hHeld => ?_)
  clear hHeld
  obtain ⟨U0, hU0⟩ : ∃ x, W.drew = x := ⟨_, rfl⟩
  rw [hU0] at k0 k00 ⊢
  clear hU0
  refine wpAnyH_take (i := 0) (oi := { dst := some 20, op := Op.move (Operand.tmp 0), type := 55, pos := p0, after := #[], guard := none }) (v := ?_) rfl (by kernel_rfl) (by kernel_rfl) (by kernel_rfl) (fun _ _ _ h => h) (Or.inl ⟨by rfl, ?_⟩) (by assumption) ?_
  rotate_left
  · intro V hSV
    clear hSV
    go_simp
    first | done | with_reducible rfl
  try simp only [Act.put, List.setIfInBounds_toArray, List.set_cons_zero, List.set_cons_succ]
  refine wpAnyH_take (i := 2) (oi := { dst := some 22, op := Op.move (Operand.tmp 0), type := 55, pos := p0, after := #[], guard := none }) (v := ?_) rfl (by kernel_rfl) (by kernel_rfl) (by kernel_rfl) (fun _ _ _ h => h) (Or.inl ⟨by rfl, ?_⟩) (by assumption) ?_
  rotate_left
  · intro V hSV
    clear hSV
    go_simp
    first | done | with_reducible rfl
  try simp only [Act.put, List.setIfInBounds_toArray, List.set_cons_zero, List.set_cons_succ]
  refine wpAnyH_take (i := 3) (oi := { dst := some 23, op := Op.nilCheck (Operand.tmp 22), type := 0, pos := p0, after := #[{ on := 2, ground := Ground.data }], guard := none }) (v := ?_) rfl (by kernel_rfl) (by kernel_rfl) (by kernel_rfl) (fun _ _ _ h => h) (Or.inl ⟨by rfl, ?_⟩) (by assumption) ?_
  rotate_left
  · intro V hSV
    clear hSV
    go_simp
    first | done | with_reducible rfl
  try simp only [Act.put, List.setIfInBounds_toArray, List.set_cons_zero, List.set_cons_succ]
  refine wpAnyH_take (i := 4) (oi := { dst := some 24, op := Op.fieldAddr 75 (Operand.tmp 23) 1, type := 0, pos := p0, after := #[{ on := 3, ground := Ground.data }], guard := none }) (v := ?_) rfl (by kernel_rfl) (by kernel_rfl) (by kernel_rfl) (fun _ _ _ h => h) (Or.inl ⟨by rfl, ?_⟩) (by assumption) ?_
  rotate_left
  · intro V hSV
    clear hSV
    go_simp
    first | done | with_reducible rfl
  try simp only [Act.put, List.setIfInBounds_toArray, List.set_cons_zero, List.set_cons_succ]
  refine wpAnyH_take (i := 7) (oi := { dst := some 27, op := Op.move (Operand.tmp 2), type := 3, pos := p0, after := #[], guard := none }) (v := ?_) rfl (by kernel_rfl) (by kernel_rfl) (by kernel_rfl) (fun _ _ _ h => h) (Or.inl ⟨by rfl, ?_⟩) (by assumption) ?_
  rotate_left
  · intro V hSV
    clear hSV
    go_simp
    first | done | with_reducible rfl
  try simp only [Act.put, List.setIfInBounds_toArray, List.set_cons_zero, List.set_cons_succ]
  refine wpAnyH_take (i := 8) (oi := { dst := some 28, op := Op.load 32 (Operand.tmp 4), type := 32, pos := p0, after := #[], guard := none }) (v := ?_) rfl (by kernel_rfl) (by kernel_rfl) (by kernel_rfl) (fun _ _ _ h => h) (Or.inl ⟨by rfl, ?_⟩) (by assumption) ?_
  rotate_left
  · intro V hSV
    have z0 : V.cell? ⟨g4, 0, none⟩ = some (.int .u32 h.from_) := ((hSV.blk K4.out hne.out).cell 0).trans rfl
    have z1 : V.cell? ⟨g4, 1, none⟩ = some (.int .u16 h.fport) := ((hSV.blk K4.out hne.out).cell 1).trans rfl
    have z2 : V.cell? ⟨g4, 2, none⟩ = some (.int .u32 h.to_) := ((hSV.blk K4.out hne.out).cell 2).trans rfl
    have z3 : V.cell? ⟨g4, 3, none⟩ = some (.int .u16 h.tport) := ((hSV.blk K4.out hne.out).cell 3).trans rfl
    have z4 : V.cell? ⟨g4, 4, none⟩ = some (.bool h.stream) := ((hSV.blk K4.out hne.out).cell 4).trans rfl
    have z5 : V.cell? ⟨g4, 5, none⟩ = some (.slice da dn dc) := ((hSV.blk K4.out hne.out).cell 5).trans rfl
    clear hSV
    go_simp
    first | done | with_reducible rfl
  try simp only [Act.put, List.setIfInBounds_toArray, List.set_cons_zero, List.set_cons_succ]
  refine wpAnyH_ready (rs := [1, 5]) (by kernel_rfl) (by simp) ?_
  refine AllReadyH.cons (o := { dst := some 21, op := Op.buildSlice 61 0 #[], type := 61, pos := p0, after := #[], guard := none }) rfl (fun K hK => ?_) ?_
  · go_simp
    obtain ⟨V1, e1⟩ : ∃ U, U0.alloc (.cells #[] 71) = U := ⟨_, rfl⟩
    have mm : Below U0.heap.size U0 V1 := by rw [← e1]; exact alloc_bel _ _
    have L1 : Hid (Own flE V1 W.heap.size (.slice (some ⟨U0.heap.size, 0, none⟩) 0 0) []) := Lib.hid (by rw [← e1]; exact (Own.made flE U0 #[] [] 0 rfl rfl (by decide)).mono k0.out.size)
    rw [e1]
    clear e1
    have k1 := Lib.hid (k0.out.trans (mm.mono k0.out.size))
    clear mm k0
    refine hK.out _ _ (Tch.of_below k1.out) (fun hHeld => ?_)
    clear hK K
    try simp only [Act.put, List.setIfInBounds_toArray, List.set_cons_zero, List.set_cons_succ]
    refine wpAnyH_ready (rs := [5]) (by kernel_rfl) (by simp) ?_
    refine AllReadyH.cons (o := { dst := some 25, op := Op.load 61 (Operand.tmp 24), type := 61, pos := p0, after := #[{ on := 4, ground := Ground.data }], guard := none }) rfl (fun K hK => ?_) ?_
    · have z : V1.cell? ⟨r, 1, none⟩ = some (.slice la ln lc) := ((Kr.out.below k1.out Kr.out.lt).cell 1).trans rfl
      go_simp
      clear z
      refine hK.out _ _ (Tch.of_below k1.out) (fun hHeld => ?_)
      clear hK K
      try simp only [Act.put, List.setIfInBounds_toArray, List.set_cons_zero, List.set_cons_succ]
      refine wpAnyH_ready (rs := [6]) (by kernel_rfl) (by simp) ?_
      refine AllReadyH.cons (o := { dst := some 26, op := Op.call { callee := Callee.builtin Builtin.append, args := #[Operand.tmp 21, Operand.tmp 25], argTypes := #[61, 61] }, type := 61, pos := p0, after := #[{ on := 1, ground := Ground.data }, { on := 5, ground := Ground.data }], guard := none }) rfl (fun K hK => ?_) ?_
      · have hsrc := (HL.out.ext k1.out).src (P := Try.prog) (tx := 61) Try.underlying61
        refine step_own (E := flE) (l := []) (news := FL) (base := W.heap.size) (by rfl) (.tmp 21) (.tmp 25) 61 61 (by rfl) Try.underlying61 hj jz0 jz1 jz2 rfl (by rfl) L1.out (by rfl) hsrc (by have h1 := hln.out; simp [maxLen]; omega) (by have h1 := hln.out; simp; omega) k1.out.size ?_
        intro v3 V3 ho hg hx
        obtain ⟨a3, c3, rfl⟩ := ho.shape
        clear hsrc
        try rw [List.nil_append] at ho
        try rw [List.nil_append]
        rw [hln.out] at ho ⊢
        have L3 := Lib.hid ho
        have k3 := Lib.hid (own_below k1.out hg L1.out k1.out.size (Nat.le_refl _))
        clear ho hg hx L1 k1
        refine hK.out _ _ (Tch.of_below k3.out) (fun hHeld => ?_)
        clear hK K
        try simp only [Act.put, List.setIfInBounds_toArray, List.set_cons_zero, List.set_cons_succ]
        refine wpAnyH_ready (rs := [9]) (by kernel_rfl) (by simp) ?_
        refine AllReadyH.cons (o := { dst := some 29, op := Op.call { callee := Callee.value (Operand.func 45), args := #[Operand.tmp 28, Operand.const (Value.int IntKind.i64 (-1))], argTypes := #[32, 3] }, type := 32, pos := p0, after := #[{ on := 8, ground := Ground.data }, { on := 6, ground := Ground.chain }], guard := none }) rfl (fun K hK => ?_) ?_
        · refine step_call2 (by rfl) (.tmp 28) (.const (.int .i64 (-1))) 32 3 (by rfl) (by rfl) (by rfl) enter45 ?_
          have hc := copied_any h (HR.out.ext k3.out) hn (-1) (by decide)
          unfold pkV at hc
          refine hc.mono ?_
          clear hc
          rintro e V4 ⟨⟨a, c, rfl, ho⟩, mm⟩
          refine ⟨_, rfl, ?_⟩
          have O4 : Hid (Own byteE V4 W.heap.size (.slice a dn c) d) := Lib.hid (ho.mono k3.out.size)
          have k4 := Lib.hid (k3.out.trans (mm.mono k3.out.size))
          have L4 := Lib.hid (L3.out.ext mm)
          clear L3
          clear ho mm k3
          refine hK.out _ _ (Tch.of_below k4.out) (fun hHeld => ?_)
          clear hK K
          try simp only [Act.put, List.setIfInBounds_toArray, List.set_cons_zero, List.set_cons_succ]
          refine wpAnyH_take (i := 10) (oi := { dst := some 30, op := Op.build 71 #[(0, Operand.tmp 27), (1, Operand.tmp 29)], type := 71, pos := p0, after := #[{ on := 7, ground := Ground.data }, { on := 9, ground := Ground.data }], guard := none }) (v := ?_) rfl (by kernel_rfl) (by kernel_rfl) (by kernel_rfl) (fun _ _ _ h => h) (Or.inl ⟨by rfl, ?_⟩) (by assumption) ?_
          rotate_left
          · intro V hSV
            clear hSV
            go_simp
            first | done | with_reducible rfl
          try simp only [Act.put, List.setIfInBounds_toArray, List.set_cons_zero, List.set_cons_succ]
          refine wpAnyH_ready (rs := [11]) (by kernel_rfl) (by simp) ?_
          refine AllReadyH.cons (o := { dst := some 31, op := Op.buildSlice 61 1 #[(0, Operand.tmp 30)], type := 61, pos := p0, after := #[{ on := 10, ground := Ground.data }], guard := none }) rfl (fun K hK => ?_) ?_
          · go_simp
            obtain ⟨V5, e5⟩ : ∃ U, V4.alloc (.cells #[.int .i64 y, .int .u32 h.from_, .int .u16 h.fport, .int .u32 h.to_, .int .u16 h.tport, .bool h.stream, .slice a dn c] 71) = U := ⟨_, rfl⟩
            have mm : Below V4.heap.size V4 V5 := by rw [← e5]; exact alloc_bel _ _
            have Bn5 : Hid (Blk V5 V4.heap.size 71 (0, 0) [.int .i64 y, .int .u32 h.from_, .int .u16 h.fport, .int .u32 h.to_, .int .u16 h.tport, .bool h.stream, .slice a dn c]) := Lib.hid (by rw [← e5]; exact Blk.new V4 71 (0, 0) #[.int .i64 y, .int .u32 h.from_, .int .u16 h.fport, .int .u32 h.to_, .int .u16 h.tport, .bool h.stream, .slice a dn c])
            have AP5 : Hid (∀ k, (Value.slice a3 ln c3).ownBlock = some k → k ≠ V4.heap.size) := Lib.hid (fun k hk => Nat.ne_of_lt (L4.out.lt k hk).2)
            have L5 := Lib.hid (L4.out.ext mm)
            clear L4
            have O5 := Lib.hid (O4.out.ext mm)
            clear O4
            rw [e5]
            clear e5
            have k5 := Lib.hid (k4.out.trans (mm.mono k4.out.size))
            clear mm k4
            refine hK.out _ _ (Tch.of_below k5.out) (fun hHeld => ?_)
            clear hK K
            try simp only [Act.put, List.setIfInBounds_toArray, List.set_cons_zero, List.set_cons_succ]
            refine wpAnyH_ready (rs := [12]) (by kernel_rfl) (by simp) ?_
            refine AllReadyH.cons (o := { dst := some 32, op := Op.call { callee := Callee.builtin Builtin.append, args := #[Operand.tmp 26, Operand.tmp 31], argTypes := #[61, 61] }, type := 61, pos := p0, after := #[{ on := 6, ground := Ground.data }, { on := 11, ground := Ground.data }, { on := 9, ground := Ground.chain }], guard := none }) rfl (fun K hK => ?_) ?_
            · have hsrc := (rd_blk (E := flE) (X := [(⟨y, ⟨h, a, dn, c⟩⟩ : FD)]) (fz := (0, 0)) Bn5.out 1 rfl (by decide)).src (P := Try.prog) (tx := 61) Try.underlying61
              refine step_own (E := flE) (l := FL) (news := [(⟨y, ⟨h, a, dn, c⟩⟩ : FD)]) (base := W.heap.size) (by rfl) (.tmp 26) (.tmp 31) 61 61 (by rfl) Try.underlying61 hj jz0 jz1 jz2 rfl (by rfl) L5.out (by rfl) hsrc (by have h1 := hln.out; simp [maxLen]; omega) (by have h1 := hln.out; simp; omega) k5.out.size ?_
              intro v6 V6 ho hg hx
              obtain ⟨a6, c6, rfl⟩ := ho.shape
              clear hsrc
              obtain ⟨nn, hnn⟩ : ∃ x, (FL ++ [(⟨y, ⟨h, a, dn, c⟩⟩ : FD)]).length = x := ⟨_, rfl⟩
              rw [hnn] at ho ⊢
              clear hnn
              have L6 := Lib.hid ho
              have k6 := Lib.hid (own_below k5.out hg L5.out k5.out.size (Nat.le_refl _))
              have O6 := Lib.hid (own_grown O5.out L5.out (by decide) hg)
              clear ho hg hx L5 k5 O5 Bn5 AP5
              refine hK.out _ _ (Tch.of_below k6.out) (fun hHeld => ?_)
              clear hK K
              try simp only [Act.put, List.setIfInBounds_toArray, List.set_cons_zero, List.set_cons_succ]
              refine wpAnyH_take (i := 13) (oi := { dst := some 33, op := Op.nilCheck (Operand.tmp 20), type := 0, pos := p0, after := #[{ on := 0, ground := Ground.data }, { on := 0, ground := Ground.phase }, { on := 1, ground := Ground.phase }, { on := 2, ground := Ground.phase }, { on := 3, ground := Ground.phase }, { on := 4, ground := Ground.phase }, { on := 5, ground := Ground.phase }, { on := 6, ground := Ground.phase }, { on := 7, ground := Ground.phase }, { on := 8, ground := Ground.phase }, { on := 9, ground := Ground.phase }, { on := 10, ground := Ground.phase }, { on := 11, ground := Ground.phase }, { on := 12, ground := Ground.phase }], guard := none }) (v := ?_) rfl (by kernel_rfl) (by kernel_rfl) (by kernel_rfl) (fun _ _ _ h => h) (Or.inl ⟨by rfl, ?_⟩) (by assumption) ?_
              rotate_left
              · intro V hSV
                clear hSV
                go_simp
                first | done | with_reducible rfl
              try simp only [Act.put, List.setIfInBounds_toArray, List.set_cons_zero, List.set_cons_succ]
              refine wpAnyH_take (i := 14) (oi := { dst := some 34, op := Op.fieldAddr 75 (Operand.tmp 33) 1, type := 0, pos := p0, after := #[{ on := 13, ground := Ground.data }, { on := 0, ground := Ground.phase }, { on := 1, ground := Ground.phase }, { on := 2, ground := Ground.phase }, { on := 3, ground := Ground.phase }, { on := 4, ground := Ground.phase }, { on := 5, ground := Ground.phase }, { on := 6, ground := Ground.phase }, { on := 7, ground := Ground.phase }, { on := 8, ground := Ground.phase }, { on := 9, ground := Ground.phase }, { on := 10, ground := Ground.phase }, { on := 11, ground := Ground.phase }, { on := 12, ground := Ground.phase }], guard := none }) (v := ?_) rfl (by kernel_rfl) (by kernel_rfl) (by kernel_rfl) (fun _ _ _ h => h) (Or.inl ⟨by rfl, ?_⟩) (by assumption) ?_
              rotate_left
              · intro V hSV
                clear hSV
                go_simp
                first | done | with_reducible rfl
              try simp only [Act.put, List.setIfInBounds_toArray, List.set_cons_zero, List.set_cons_succ]
              refine wpAnyH_ready (rs := [15]) (by kernel_rfl) (by simp) ?_
              refine AllReadyH.cons (o := { dst := none, op := Op.store 61 (Operand.tmp 34) (Operand.tmp 32), type := 0, pos := p0, after := #[{ on := 14, ground := Ground.data }, { on := 12, ground := Ground.data }, { on := 12, ground := Ground.chain }, { on := 0, ground := Ground.phase }, { on := 1, ground := Ground.phase }, { on := 2, ground := Ground.phase }, { on := 3, ground := Ground.phase }, { on := 4, ground := Ground.phase }, { on := 5, ground := Ground.phase }, { on := 6, ground := Ground.phase }, { on := 7, ground := Ground.phase }, { on := 8, ground := Ground.phase }, { on := 9, ground := Ground.phase }, { on := 10, ground := Ground.phase }, { on := 11, ground := Ground.phase }, { on := 12, ground := Ground.phase }], guard := none }) rfl (fun K hK => ?_) ?_
              · have B := Kr.out.below k6.out Kr.out.lt
                have z : V6.cell? ⟨r, 1, none⟩ = some (.slice la ln lc) := (B.cell 1).trans rfl
                have z2 : V6.frozen? ⟨r, 1, none⟩ = false := by rw [B.frozen]; try simp
                have B' := Lib.hid B
                clear B
                go_simp
                clear z z2
                obtain ⟨V7, hV⟩ : ∃ V, V6.setCell ⟨r, 1, none⟩ (.slice a6 nn c6) = V := ⟨_, rfl⟩
                rw [hV]
                have T7 : Hid (Tch (fun g => g = r) W V7) := Lib.hid (by rw [← hV]; exact (Tch.of_below (S := fun g => g = r) k6.out).trans (Tch.setCell (S := fun g => g = r) V6 (p := ⟨r, 1, none⟩) rfl _) (fun _ _ e => e))
                have B7 : Hid (Blk V7 r 75 (0, 0) [.slice fa fn fc, .slice a6 nn c6, .int .i64 sent, .int .i64 lost, .int .i64 forged, .int .i64 taken]) := Lib.hid (by rw [← hV]; exact B'.out.set 1 _)
                have t1 : Tch (fun g => g = r) V6 V7 := by rw [← hV]; exact Tch.setCell (S := fun g => g = r) V6 (p := ⟨r, 1, none⟩) rfl _
                have L7 := Lib.hid (t1.own L6.out (fun b hb e => by have h1 := (L6.out.lt b hb).1; have h2 := Kr.out.lt; omega))
                have O7 := Lib.hid (t1.own O6.out (fun b hb e => by have h1 := (O6.out.lt b hb).1; have h2 := Kr.out.lt; omega))
                clear hV t1 B' k6 L6 O6
                refine hK.out _ _ T7.out (fun hHeld => ?_)
                clear hK K
                refine wpAnyH_done (by kernel_rfl) ?_ _
                refine NoPanic.normal ?_
                exact HQ.out _ _ _ _ _ _ _ _ _ _ _ _ _ _ _ _ _ _ _ _ _ T7.out B7.out L7.out O7.out
              exact AllReadyH.nil
            exact AllReadyH.nil
          exact AllReadyH.nil
        exact AllReadyH.nil
      exact AllReadyH.nil
    exact AllReadyH.nil
  refine AllReadyH.cons (o := { dst := some 25, op := Op.load 61 (Operand.tmp 24), type := 61, pos := p0, after := #[{ on := 4, ground := Ground.data }], guard := none }) rfl (fun K hK => ?_) ?_
  · have z : U0.cell? ⟨r, 1, none⟩ = some (.slice la ln lc) := ((Kr.out.below k0.out Kr.out.lt).cell 1).trans rfl
    go_simp
    clear z
    refine hK.out _ _ (Tch.of_below k0.out) (fun hHeld => ?_)
    clear hK K
    try simp only [Act.put, List.setIfInBounds_toArray, List.set_cons_zero, List.set_cons_succ]
    refine wpAnyH_ready (rs := [1]) (by kernel_rfl) (by simp) ?_
    refine AllReadyH.cons (o := { dst := some 21, op := Op.buildSlice 61 0 #[], type := 61, pos := p0, after := #[], guard := none }) rfl (fun K hK => ?_) ?_
    · go_simp
      obtain ⟨V9, e9⟩ : ∃ U, U0.alloc (.cells #[] 71) = U := ⟨_, rfl⟩
      have mm : Below U0.heap.size U0 V9 := by rw [← e9]; exact alloc_bel _ _
      have L9 : Hid (Own flE V9 W.heap.size (.slice (some ⟨U0.heap.size, 0, none⟩) 0 0) []) := Lib.hid (by rw [← e9]; exact (Own.made flE U0 #[] [] 0 rfl rfl (by decide)).mono k0.out.size)
      rw [e9]
      clear e9
      have k9 := Lib.hid (k0.out.trans (mm.mono k0.out.size))
      clear mm k0
      refine hK.out _ _ (Tch.of_below k9.out) (fun hHeld => ?_)
      clear hK K
      try simp only [Act.put, List.setIfInBounds_toArray, List.set_cons_zero, List.set_cons_succ]
      refine wpAnyH_ready (rs := [6]) (by kernel_rfl) (by simp) ?_
      refine AllReadyH.cons (o := { dst := some 26, op := Op.call { callee := Callee.builtin Builtin.append, args := #[Operand.tmp 21, Operand.tmp 25], argTypes := #[61, 61] }, type := 61, pos := p0, after := #[{ on := 1, ground := Ground.data }, { on := 5, ground := Ground.data }], guard := none }) rfl (fun K hK => ?_) ?_
      · have hsrc := (HL.out.ext k9.out).src (P := Try.prog) (tx := 61) Try.underlying61
        refine step_own (E := flE) (l := []) (news := FL) (base := W.heap.size) (by rfl) (.tmp 21) (.tmp 25) 61 61 (by rfl) Try.underlying61 hj jz0 jz1 jz2 rfl (by rfl) L9.out (by rfl) hsrc (by have h1 := hln.out; simp [maxLen]; omega) (by have h1 := hln.out; simp; omega) k9.out.size ?_
        intro v10 V10 ho hg hx
        obtain ⟨a10, c10, rfl⟩ := ho.shape
        clear hsrc
        try rw [List.nil_append] at ho
        try rw [List.nil_append]
        rw [hln.out] at ho ⊢
        have L10 := Lib.hid ho
        have k10 := Lib.hid (own_below k9.out hg L9.out k9.out.size (Nat.le_refl _))
        clear ho hg hx L9 k9
        refine hK.out _ _ (Tch.of_below k10.out) (fun hHeld => ?_)
        clear hK K
        try simp only [Act.put, List.setIfInBounds_toArray, List.set_cons_zero, List.set_cons_succ]
        refine wpAnyH_ready (rs := [9]) (by kernel_rfl) (by simp) ?_
        refine AllReadyH.cons (o := { dst := some 29, op := Op.call { callee := Callee.value (Operand.func 45), args := #[Operand.tmp 28, Operand.const (Value.int IntKind.i64 (-1))], argTypes := #[32, 3] }, type := 32, pos := p0, after := #[{ on := 8, ground := Ground.data }, { on := 6, ground := Ground.chain }], guard := none }) rfl (fun K hK => ?_) ?_
        · refine step_call2 (by rfl) (.tmp 28) (.const (.int .i64 (-1))) 32 3 (by rfl) (by rfl) (by rfl) enter45 ?_
          have hc := copied_any h (HR.out.ext k10.out) hn (-1) (by decide)
          unfold pkV at hc
          refine hc.mono ?_
          clear hc
          rintro e V11 ⟨⟨a, c, rfl, ho⟩, mm⟩
          refine ⟨_, rfl, ?_⟩
          have O11 : Hid (Own byteE V11 W.heap.size (.slice a dn c) d) := Lib.hid (ho.mono k10.out.size)
          have k11 := Lib.hid (k10.out.trans (mm.mono k10.out.size))
          have L11 := Lib.hid (L10.out.ext mm)
          clear L10
          clear ho mm k10
          refine hK.out _ _ (Tch.of_below k11.out) (fun hHeld => ?_)
          clear hK K
          try simp only [Act.put, List.setIfInBounds_toArray, List.set_cons_zero, List.set_cons_succ]
          refine wpAnyH_take (i := 10) (oi := { dst := some 30, op := Op.build 71 #[(0, Operand.tmp 27), (1, Operand.tmp 29)], type := 71, pos := p0, after := #[{ on := 7, ground := Ground.data }, { on := 9, ground := Ground.data }], guard := none }) (v := ?_) rfl (by kernel_rfl) (by kernel_rfl) (by kernel_rfl) (fun _ _ _ h => h) (Or.inl ⟨by rfl, ?_⟩) (by assumption) ?_
          rotate_left
          · intro V hSV
            clear hSV
            go_simp
            first | done | with_reducible rfl
          try simp only [Act.put, List.setIfInBounds_toArray, List.set_cons_zero, List.set_cons_succ]
          refine wpAnyH_ready (rs := [11]) (by kernel_rfl) (by simp) ?_
          refine AllReadyH.cons (o := { dst := some 31, op := Op.buildSlice 61 1 #[(0, Operand.tmp 30)], type := 61, pos := p0, after := #[{ on := 10, ground := Ground.data }], guard := none }) rfl (fun K hK => ?_) ?_
          · go_simp
            obtain ⟨V12, e12⟩ : ∃ U, V11.alloc (.cells #[.int .i64 y, .int .u32 h.from_, .int .u16 h.fport, .int .u32 h.to_, .int .u16 h.tport, .bool h.stream, .slice a dn c] 71) = U := ⟨_, rfl⟩
            have mm : Below V11.heap.size V11 V12 := by rw [← e12]; exact alloc_bel _ _
            have Bn12 : Hid (Blk V12 V11.heap.size 71 (0, 0) [.int .i64 y, .int .u32 h.from_, .int .u16 h.fport, .int .u32 h.to_, .int .u16 h.tport, .bool h.stream, .slice a dn c]) := Lib.hid (by rw [← e12]; exact Blk.new V11 71 (0, 0) #[.int .i64 y, .int .u32 h.from_, .int .u16 h.fport, .int .u32 h.to_, .int .u16 h.tport, .bool h.stream, .slice a dn c])
            have AP12 : Hid (∀ k, (Value.slice a10 ln c10).ownBlock = some k → k ≠ V11.heap.size) := Lib.hid (fun k hk => Nat.ne_of_lt (L11.out.lt k hk).2)
            have L12 := Lib.hid (L11.out.ext mm)
            clear L11
            have O12 := Lib.hid (O11.out.ext mm)
            clear O11
            rw [e12]
            clear e12
            have k12 := Lib.hid (k11.out.trans (mm.mono k11.out.size))
            clear mm k11
            refine hK.out _ _ (Tch.of_below k12.out) (fun hHeld => ?_)
            clear hK K
            try simp only [Act.put, List.setIfInBounds_toArray, List.set_cons_zero, List.set_cons_succ]
            refine wpAnyH_ready (rs := [12]) (by kernel_rfl) (by simp) ?_
            refine AllReadyH.cons (o := { dst := some 32, op := Op.call { callee := Callee.builtin Builtin.append, args := #[Operand.tmp 26, Operand.tmp 31], argTypes := #[61, 61] }, type := 61, pos := p0, after := #[{ on := 6, ground := Ground.data }, { on := 11, ground := Ground.data }, { on := 9, ground := Ground.chain }], guard := none }) rfl (fun K hK => ?_) ?_
            · have hsrc := (rd_blk (E := flE) (X := [(⟨y, ⟨h, a, dn, c⟩⟩ : FD)]) (fz := (0, 0)) Bn12.out 1 rfl (by decide)).src (P := Try.prog) (tx := 61) Try.underlying61
              refine step_own (E := flE) (l := FL) (news := [(⟨y, ⟨h, a, dn, c⟩⟩ : FD)]) (base := W.heap.size) (by rfl) (.tmp 26) (.tmp 31) 61 61 (by rfl) Try.underlying61 hj jz0 jz1 jz2 rfl (by rfl) L12.out (by rfl) hsrc (by have h1 := hln.out; simp [maxLen]; omega) (by have h1 := hln.out; simp; omega) k12.out.size ?_
              intro v13 V13 ho hg hx
              obtain ⟨a13, c13, rfl⟩ := ho.shape
              clear hsrc
              obtain ⟨nn, hnn⟩ : ∃ x, (FL ++ [(⟨y, ⟨h, a, dn, c⟩⟩ : FD)]).length = x := ⟨_, rfl⟩
              rw [hnn] at ho ⊢
              clear hnn
              have L13 := Lib.hid ho
              have k13 := Lib.hid (own_below k12.out hg L12.out k12.out.size (Nat.le_refl _))
              have O13 := Lib.hid (own_grown O12.out L12.out (by decide) hg)
              clear ho hg hx L12 k12 O12 Bn12 AP12
              refine hK.out _ _ (Tch.of_below k13.out) (fun hHeld => ?_)
              clear hK K
              try simp only [Act.put, List.setIfInBounds_toArray, List.set_cons_zero, List.set_cons_succ]
              refine wpAnyH_take (i := 13) (oi := { dst := some 33, op := Op.nilCheck (Operand.tmp 20), type := 0, pos := p0, after := #[{ on := 0, ground := Ground.data }, { on := 0, ground := Ground.phase }, { on := 1, ground := Ground.phase }, { on := 2, ground := Ground.phase }, { on := 3, ground := Ground.phase }, { on := 4, ground := Ground.phase }, { on := 5, ground := Ground.phase }, { on := 6, ground := Ground.phase }, { on := 7, ground := Ground.phase }, { on := 8, ground := Ground.phase }, { on := 9, ground := Ground.phase }, { on := 10, ground := Ground.phase }, { on := 11, ground := Ground.phase }, { on := 12, ground := Ground.phase }], guard := none }) (v := ?_) rfl (by kernel_rfl) (by kernel_rfl) (by kernel_rfl) (fun _ _ _ h => h) (Or.inl ⟨by rfl, ?_⟩) (by assumption) ?_
              rotate_left
              · intro V hSV
                clear hSV
                go_simp
                first | done | with_reducible rfl
              try simp only [Act.put, List.setIfInBounds_toArray, List.set_cons_zero, List.set_cons_succ]
              refine wpAnyH_take (i := 14) (oi := { dst := some 34, op := Op.fieldAddr 75 (Operand.tmp 33) 1, type := 0, pos := p0, after := #[{ on := 13, ground := Ground.data }, { on := 0, ground := Ground.phase }, { on := 1, ground := Ground.phase }, { on := 2, ground := Ground.phase }, { on := 3, ground := Ground.phase }, { on := 4, ground := Ground.phase }, { on := 5, ground := Ground.phase }, { on := 6, ground := Ground.phase }, { on := 7, ground := Ground.phase }, { on := 8, ground := Ground.phase }, { on := 9, ground := Ground.phase }, { on := 10, ground := Ground.phase }, { on := 11, ground := Ground.phase }, { on := 12, ground := Ground.phase }], guard := none }) (v := ?_) rfl (by kernel_rfl) (by kernel_rfl) (by kernel_rfl) (fun _ _ _ h => h) (Or.inl ⟨by rfl, ?_⟩) (by assumption) ?_
              rotate_left
              · intro V hSV
                clear hSV
                go_simp
                first | done | with_reducible rfl
              try simp only [Act.put, List.setIfInBounds_toArray, List.set_cons_zero, List.set_cons_succ]
              refine wpAnyH_ready (rs := [15]) (by kernel_rfl) (by simp) ?_
              refine AllReadyH.cons (o := { dst := none, op := Op.store 61 (Operand.tmp 34) (Operand.tmp 32), type := 0, pos := p0, after := #[{ on := 14, ground := Ground.data }, { on := 12, ground := Ground.data }, { on := 12, ground := Ground.chain }, { on := 0, ground := Ground.phase }, { on := 1, ground := Ground.phase }, { on := 2, ground := Ground.phase }, { on := 3, ground := Ground.phase }, { on := 4, ground := Ground.phase }, { on := 5, ground := Ground.phase }, { on := 6, ground := Ground.phase }, { on := 7, ground := Ground.phase }, { on := 8, ground := Ground.phase }, { on := 9, ground := Ground.phase }, { on := 10, ground := Ground.phase }, { on := 11, ground := Ground.phase }, { on := 12, ground := Ground.phase }], guard := none }) rfl (fun K hK => ?_) ?_
              · have B := Kr.out.below k13.out Kr.out.lt
                have z : V13.cell? ⟨r, 1, none⟩ = some (.slice la ln lc) := (B.cell 1).trans rfl
                have z2 : V13.frozen? ⟨r, 1, none⟩ = false := by rw [B.frozen]; try simp
                have B' := Lib.hid B
                clear B
                go_simp
                clear z z2
                obtain ⟨V14, hV⟩ : ∃ V, V13.setCell ⟨r, 1, none⟩ (.slice a13 nn c13) = V := ⟨_, rfl⟩
                rw [hV]
                have T14 : Hid (Tch (fun g => g = r) W V14) := Lib.hid (by rw [← hV]; exact (Tch.of_below (S := fun g => g = r) k13.out).trans (Tch.setCell (S := fun g => g = r) V13 (p := ⟨r, 1, none⟩) rfl _) (fun _ _ e => e))
                have B14 : Hid (Blk V14 r 75 (0, 0) [.slice fa fn fc, .slice a13 nn c13, .int .i64 sent, .int .i64 lost, .int .i64 forged, .int .i64 taken]) := Lib.hid (by rw [← hV]; exact B'.out.set 1 _)
                have t1 : Tch (fun g => g = r) V13 V14 := by rw [← hV]; exact Tch.setCell (S := fun g => g = r) V13 (p := ⟨r, 1, none⟩) rfl _
                have L14 := Lib.hid (t1.own L13.out (fun b hb e => by have h1 := (L13.out.lt b hb).1; have h2 := Kr.out.lt; omega))
                have O14 := Lib.hid (t1.own O13.out (fun b hb e => by have h1 := (O13.out.lt b hb).1; have h2 := Kr.out.lt; omega))
                clear hV t1 B' k13 L13 O13
                refine hK.out _ _ T14.out (fun hHeld => ?_)
                clear hK K
                refine wpAnyH_done (by kernel_rfl) ?_ _
                refine NoPanic.normal ?_
                exact HQ.out _ _ _ _ _ _ _ _ _ _ _ _ _ _ _ _ _ _ _ _ _ T14.out B14.out L14.out O14.out
              exact AllReadyH.nil
            exact AllReadyH.nil
          exact AllReadyH.nil
        exact AllReadyH.nil
      exact AllReadyH.nil
    exact AllReadyH.nil
  exact AllReadyH.nil
/-- what the document's Forge does -/
def rforgeS (L : List Fl) (c : Cn) (h : Hd) (d : List UInt8) (y : Int) : Int × List Fl × Cn :=
  if chk d.length y ≠ 0 then (chk d.length y, L, c) else if 16384 < L.length + 1 then (14, L, c) else (0, L ++ [⟨y, h, d⟩], { c with forged := c.forged + 1 })
def RFB (w : World) (S : Nat → Prop) (r : Nat) (F : List Fate) (x : Int × List Fl × Cn) (e : Ending) (w' : World) : Prop := e = .returned (.int .i64 x.1) ∧ RefP w' S r F x.2.1 x.2.2 ∧ Tch (fun g => g = r) w w'
set_option maxHeartbeats 8000000 in
set_option maxRecDepth 100000 in
theorem rforge_any {w : World} {S : Nat → Prop} {r : Nat} {F : List Fate} {L : List Fl} {c : Cn} (hP : RefP w S r F L c) (hL : L.length ≤ 16384) (hc : 0 ≤ c.forged ∧ c.forged ≤ 1000000000000) (hSw : ∀ g, S g → g < w.heap.size) (h : Hd) {da : Option Addr} {dn dc : Nat} {d : List UInt8} (hp : Rd byteE w da dn dc d) (hn : dn ≤ 140737488355328) (y : Int) :
    Calls Try.prog 32 #[.pointer (some ⟨r, 0, none⟩), pkV h (.slice da dn dc), .int .i64 y] w fun e w' => RFB w S r F (rforgeS L c h d y) e w' := by
  obtain ⟨fa, fn, fc, la, ln, lc, FL, hQ⟩ := hP
  obtain ⟨sent, lost, forged, taken⟩ := c
  dsimp only at hc
  obtain ⟨s0, s1⟩ := hc
  have hdl := Lib.hid hp.len
  have hlL1 : ln ≤ L.length := by have h1 := hQ.ls.len; have h2 := hQ.len; omega
  have hlL2 : L.length ≤ ln := by have h1 := hQ.ls.len; have h2 := hQ.len; omega
  obtain ⟨X, hX⟩ : ∃ X, rforgeS L ⟨sent, lost, forged, taken⟩ h d y = X := ⟨_, rfl⟩
  rw [hX]
  unfold rforgeS at hX
  replace hX := Lib.hid hX
  have hS := Lib.hid hSw
  clear hSw
  unfold pkV
  obtain ⟨W1, hW1⟩ : ∃ W, w.alloc (.cells #[.int .u32 h.from_, .int .u16 h.fport, .int .u32 h.to_, .int .u16 h.tport, .bool h.stream, .slice da dn dc] 32) = W := ⟨_, rfl⟩
  have B1 : Hid (Blk W1 w.heap.size 32 (0, 0) [.int .u32 h.from_, .int .u16 h.fport, .int .u32 h.to_, .int .u16 h.tport, .bool h.stream, .slice da dn dc]) := Lib.hid (by rw [← hW1]; exact Blk.new w 32 (0, 0) #[.int .u32 h.from_, .int .u16 h.fport, .int .u32 h.to_, .int .u16 h.tport, .bool h.stream, .slice da dn dc])
  have k1 : Hid (Below w.heap.size w W1) := Lib.hid (by rw [← hW1]; exact alloc_bel _ _)
  have HQ := Lib.hid hQ
  have HP := Lib.hid hp
  clear hQ hp
  have hwr := Lib.hid (wrong_any W1 h da (dc := dc) hn y)
  unfold pkV at hwr
  have p0 : W1.cell? ⟨w.heap.size, 0, none⟩ = some (.int .u32 h.from_) := (B1.out.cell 0).trans rfl
  have p1 : W1.cell? ⟨w.heap.size, 1, none⟩ = some (.int .u16 h.fport) := (B1.out.cell 1).trans rfl
  have p2 : W1.cell? ⟨w.heap.size, 2, none⟩ = some (.int .u32 h.to_) := (B1.out.cell 2).trans rfl
  have p3 : W1.cell? ⟨w.heap.size, 3, none⟩ = some (.int .u16 h.tport) := (B1.out.cell 3).trans rfl
  have p4 : W1.cell? ⟨w.heap.size, 4, none⟩ = some (.bool h.stream) := (B1.out.cell 4).trans rfl
  have p5 : W1.cell? ⟨w.heap.size, 5, none⟩ = some (.slice da dn dc) := (B1.out.cell 5).trans rfl
  go_enter Try.func32, Try.ntmps32
  go_upto_region 1 with (fail)
  try rw [hW1]
  clear hW1
  go_wp2_with fail
  refine hwr.out.mono ?_
  rintro e w2 ⟨rfl, hb⟩
  have k2 := Lib.hid (k1.out.trans (hb.mono k1.out.size))
  have B2 := Lib.hid (B1.out.below hb B1.out.lt)
  have Q2 := Lib.hid (HQ.out.tch (Tch.of_below (S := fun _ => False) k2.out) (fun _ _ e => e.elim) (fun _ _ e => e))
  have hrl : Hid (r < w.heap.size) := Lib.hid HQ.out.blk.lt
  clear hb hwr p0 p1 p2 p3 p4 p5 B1 k1
  by_cases hc1 : chk dn y = 0
  case neg =>
    have hX1 : Hid (X = (chk dn y, L, ⟨sent, lost, forged, taken⟩)) := Lib.hid (by rw [← hX.out, hdl.out, if_pos hc1])
    have hci : (chk dn y == 0) = false := by simpa using hc1
    clear hX
    obtain ⟨z, hz⟩ : ∃ z, chk dn y = z := ⟨_, rfl⟩
    rw [hz] at hX1 hci hc1 ⊢
    go_wp2_with fail
    go_ret
    rw [hX1.out]
    exact ⟨rfl, ⟨_, _, _, _, _, _, _, Q2.out⟩, Tch.of_below k2.out⟩
  case pos =>
    rw [hc1]
    have c1 : w2.cell? ⟨r, 1, none⟩ = some (.slice la ln lc) := (Q2.out.blk.cell 1).trans rfl
    by_cases hfull : 16384 ≤ ln
    · have hX1 : Hid (X = (14, L, ⟨sent, lost, forged, taken⟩)) := Lib.hid (by rw [← hX.out, hdl.out, if_neg (by simp [hc1]), if_pos (by omega)])
      have hfI : (16384 : Int) ≤ (ln : Int) := by omega
      go_wp2_with fail
      go_ret
      rw [hX1.out]
      exact ⟨rfl, ⟨_, _, _, _, _, _, _, Q2.out⟩, Tch.of_below k2.out⟩
    have hX1 : Hid (X = (0, L ++ [⟨y, h, d⟩], ⟨sent, lost, forged + 1, taken⟩)) := Lib.hid (by rw [← hX.out, hdl.out, if_neg (by simp [hc1]), if_neg (by omega)])
    have hfI : ¬ (16384 : Int) ≤ (ln : Int) := by omega
    go_upto_region 6 with (fail)
    refine forge_reg _ _ _ _ _ _ _ _ _ _ _ _ _ _ _ _ _ _ _ _ _ _ _ _ _ _ _ _ _ _ _ _ _ _ _ _ _ _ _ _ _ _ h y sent lost forged taken Q2.out.blk B2.out (HP.out.ext k2.out) hn Q2.out.ls (by omega) ?_
    intro x20 x21 x22 x23 x24 x25 x26 x27 x28 x29 x30 x31 x32 x33 x34 V a9 nn c9 a c t1 BV oV dV_
    dsimp only
    have T1 := Lib.hid t1
    have BV1 := Lib.hid BV
    have O1 := Lib.hid oV
    have D1 := Lib.hid dV_
    clear t1 BV oV dV_ c1
    have z4 : V.frozen? ⟨r, 4, none⟩ = false := by rw [BV1.out.frozen]; try simp
    have c4 : V.cell? ⟨r, 4, none⟩ = some (.int .i64 forged) := (BV1.out.cell 4).trans rfl
    go_upto_region 8 with (fail)
    obtain ⟨Z, hZ⟩ : ∃ Z, V.setCell ⟨r, 4, none⟩ (.int .i64 (forged + 1)) = Z := ⟨_, rfl⟩
    try rw [hZ]
    have S1 : Hid (Tch (fun g => g = r) V Z) := Lib.hid (by rw [← hZ]; exact Tch.setCell (S := fun g => g = r) V (p := ⟨r, 4, none⟩) rfl _)
    have BZ : Hid (Blk Z r 75 (0, 0) [.slice fa fn fc, .slice a9 nn c9, .int .i64 sent, .int .i64 lost, .int .i64 (forged + 1), .int .i64 taken]) := Lib.hid (by rw [← hZ]; exact BV1.out.set 4 _)
    have T2 := Lib.hid (T1.out.trans S1.out (fun _ _ e => e))
    have O2 := Lib.hid (S1.out.own O1.out (fun b hb e => by have h1 := (O1.out.lt b hb).1; have h2 := hrl.out; have h3 := k2.out.size; omega))
    have D2 := Lib.hid (S1.out.own D1.out (fun b hb e => by have h1 := (D1.out.lt b hb).1; have h2 := hrl.out; have h3 := k2.out.size; omega))
    clear hZ c4 z4
    go_wp2_with fail
    go_ret
    rw [hX1.out]
    refine ⟨rfl, ?_, (Tch.of_below (S := fun g => g = r) k2.out).trans T2.out (fun _ _ e => e)⟩
    exact ref_app Q2.out T2.out (B := w.heap.size) hS.out hrl.out (T2.out.rdn Q2.out.fates (fun b o s h0 e => (Q2.out.fo b o s h0 e).2)) Q2.out.fo (O2.out.mono k2.out.size) (RepN.one (D2.out.mono k2.out.size)) BZ.out
end Go.Proofs.Ythdnbipfdahnlaa
