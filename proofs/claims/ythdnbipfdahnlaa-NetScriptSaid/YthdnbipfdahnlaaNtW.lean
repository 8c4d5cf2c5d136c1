/- The document's network: two regions of flights 44. Printed by gen_ntw.py. -/
import Derived.Test.YthdnbipfdahnlaaNtU
import Derived.Test.YthdnbipfdahnlaaNtV
namespace Go.Proofs.Ythdnbipfdahnlaa
open Go Go.RowKit
theorem enter45 (args : Array Value) (w : World) : (callFunc 45 args).run Try.prog w = .ok (.enter 45 args) w := Go.MuLone.run_callFunc_enter Try.func45 (by kernel_rfl) (by rfl) args w
set_option maxHeartbeats 8000000 in
set_option maxRecDepth 100000 in
theorem fls_one (p0 : String) {W : World} {Q : Exit → Act → World → Prop} (t0 t1 t5 t6 t7 t8 t9 t10 t11 t12 t13 t14 t15 t16 t17 t18 t19 t20 t21 t22 t23 t24 t25 t26 t27 t28 t29 t30 t31 t32 t33 t34 t35 t36 t37 t38 t39 t40 t41 : Value) (g3 g4 : Nat) (h : Hd) {da : Option Addr} {dn dc : Nat} {d : List UInt8} (fk fd fm y : Int)
    (k3 : Blk W g3 32 (0, 0) [.int .u32 h.from_, .int .u16 h.fport, .int .u32 h.to_, .int .u16 h.tport, .bool h.stream, .slice da dn dc])
    (k4 : Blk W g4 51 (0, 0) [.int .i64 fk, .int .i64 fd, .int .i64 fm])
    (hr : Rd byteE W da dn dc d)
    (hn : dn ≤ 140737488355328)
    (hy : 0 ≤ y ∧ y ≤ 1099511627776)
    (hf : 0 ≤ fd ∧ fd ≤ 86400)
    (hq : ∀ (x8 x9 x10 x11 x12 x13 x14 : Value) (V : World) (gb : Nat) (a : Option Addr) (c : Nat) (_ : Below W.heap.size W V) (_ : Blk V gb 71 (0, 0) [.int .i64 (y + fd), .int .u32 h.from_, .int .u16 h.fport, .int .u32 h.to_, .int .u16 h.tport, .bool h.stream, .slice a dn c]) (_ : W.heap.size ≤ gb) (_ : Own byteE V W.heap.size (.slice a dn c) d), Q .normal { tmps := #[t0, t1, .int .i64 y, .pointer (some ⟨g3, 0, none⟩), .pointer (some ⟨g4, 0, none⟩), t5, t6, .pointer (some ⟨gb, 0, none⟩), x8, x9, x10, x11, x12, x13, x14, t15, t16, t17, t18, t19, t20, t21, t22, t23, t24, t25, t26, t27, t28, t29, t30, t31, t32, t33, t34, t35, t36, t37, t38, t39, t40, t41], defers := [] } V) :
    Code.wp Try.prog (Code.region 1 (#[{ dst := some 8, op := Op.move (Operand.tmp 2), type := 3, pos := p0, after := #[], guard := none }, { dst := some 9, op := Op.fieldAddr 51 (Operand.tmp 4) 1, type := 0, pos := p0, after := #[], guard := none }, { dst := some 10, op := Op.load 3 (Operand.tmp 9), type := 3, pos := p0, after := #[{ on := 1, ground := Ground.data }], guard := none }, { dst := some 11, op := Op.binOp BinOp.add 3 (Operand.tmp 8) (Operand.tmp 10) 3, type := 3, pos := p0, after := #[{ on := 0, ground := Ground.data }, { on := 2, ground := Ground.data }], guard := none }, { dst := some 12, op := Op.load 32 (Operand.tmp 3), type := 32, pos := p0, after := #[], guard := none }, { dst := some 13, op := Op.call { callee := Callee.value (Operand.func 45), args := #[Operand.tmp 12, Operand.const (Value.int IntKind.i64 (-1))], argTypes := #[32, 3] }, type := 32, pos := p0, after := #[{ on := 4, ground := Ground.data }], guard := none }, { dst := some 14, op := Op.build 71 #[(0, Operand.tmp 11), (1, Operand.tmp 13)], type := 71, pos := p0, after := #[{ on := 3, ground := Ground.data }, { on := 5, ground := Ground.data }], guard := none }, { dst := some 7, op := Op.alloc 71, type := 0, pos := p0, after := #[], guard := none }, { dst := none, op := Op.store 71 (Operand.tmp 7) (Operand.tmp 14), type := 0, pos := p0, after := #[{ on := 7, ground := Ground.data }, { on := 6, ground := Ground.data }, { on := 5, ground := Ground.chain }, { on := 0, ground := Ground.phase }, { on := 1, ground := Ground.phase }, { on := 2, ground := Ground.phase }, { on := 3, ground := Ground.phase }, { on := 4, ground := Ground.phase }, { on := 5, ground := Ground.phase }, { on := 6, ground := Ground.phase }, { on := 7, ground := Ground.phase }], guard := none }] : Array Oper) true) Q { tmps := #[t0, t1, .int .i64 y, .pointer (some ⟨g3, 0, none⟩), .pointer (some ⟨g4, 0, none⟩), t5, t6, t7, t8, t9, t10, t11, t12, t13, t14, t15, t16, t17, t18, t19, t20, t21, t22, t23, t24, t25, t26, t27, t28, t29, t30, t31, t32, t33, t34, t35, t36, t37, t38, t39, t40, t41], defers := [] } W := by
  have HQ := Lib.hid hq
  clear hq
  have K3 := Lib.hid k3
  have K4 := Lib.hid k4
  have HR := Lib.hid hr
  clear k3 k4 hr
  have k0 : Hid (Below W.heap.size W W.drew) := Lib.hid (Below.refl _ _).drew
  obtain ⟨y0, y1⟩ := hy
  obtain ⟨f0, f1⟩ := hf
  have hw1 : Hid (IntKind.i64.wrap (y + fd) = y + fd) := Lib.hid (IntWalk.i64_in _ (by omega))
  refine wp_region_noPanic ?_
  refine wp_region_held_drew (S := fun V => Below W.heap.size W V) (by kernel_rfl) k0.out (fun hHeld => ?_)
  clear hHeld
  obtain ⟨U0, hU0⟩ : ∃ x, W.drew = x := ⟨_, rfl⟩
  rw [hU0] at k0 ⊢
  clear hU0
  refine wpAnyH_take (i := 0) (oi := { dst := some 8, op := Op.move (Operand.tmp 2), type := 3, pos := p0, after := #[], guard := none }) (v := ?_) rfl (by kernel_rfl) (by kernel_rfl) (by kernel_rfl) (fun _ _ _ h => h) (Or.inl ⟨by rfl, ?_⟩) (by assumption) ?_
  rotate_left
  · intro V hSV
    clear hSV
    go_simp
    first | done | with_reducible rfl
  try simp only [Act.put, List.setIfInBounds_toArray, List.set_cons_zero, List.set_cons_succ]
  refine wpAnyH_take (i := 1) (oi := { dst := some 9, op := Op.fieldAddr 51 (Operand.tmp 4) 1, type := 0, pos := p0, after := #[], guard := none }) (v := ?_) rfl (by kernel_rfl) (by kernel_rfl) (by kernel_rfl) (fun _ _ _ h => h) (Or.inl ⟨by rfl, ?_⟩) (by assumption) ?_
  rotate_left
  · intro V hSV
    clear hSV
    go_simp
    first | done | with_reducible rfl
  try simp only [Act.put, List.setIfInBounds_toArray, List.set_cons_zero, List.set_cons_succ]
  refine wpAnyH_take (i := 2) (oi := { dst := some 10, op := Op.load 3 (Operand.tmp 9), type := 3, pos := p0, after := #[{ on := 1, ground := Ground.data }], guard := none }) (v := ?_) rfl (by kernel_rfl) (by kernel_rfl) (by kernel_rfl) (fun _ _ _ h => h) (Or.inl ⟨by rfl, ?_⟩) (by assumption) ?_
  rotate_left
  · intro V hSV
    have z0 : V.cell? ⟨g4, 0, none⟩ = some (.int .i64 fk) := ((K4.out.below hSV K4.out.lt).cell 0).trans rfl
    have z1 : V.cell? ⟨g4, 1, none⟩ = some (.int .i64 fd) := ((K4.out.below hSV K4.out.lt).cell 1).trans rfl
    have z2 : V.cell? ⟨g4, 2, none⟩ = some (.int .i64 fm) := ((K4.out.below hSV K4.out.lt).cell 2).trans rfl
    clear hSV
    go_simp
    first | done | with_reducible rfl
  try simp only [Act.put, List.setIfInBounds_toArray, List.set_cons_zero, List.set_cons_succ]
  refine wpAnyH_take (i := 3) (oi := { dst := some 11, op := Op.binOp BinOp.add 3 (Operand.tmp 8) (Operand.tmp 10) 3, type := 3, pos := p0, after := #[{ on := 0, ground := Ground.data }, { on := 2, ground := Ground.data }], guard := none }) (v := ?_) rfl (by kernel_rfl) (by kernel_rfl) (by kernel_rfl) (fun _ _ _ h => h) (Or.inl ⟨by rfl, ?_⟩) (by assumption) ?_
  rotate_left
  · intro V hSV
    clear hSV
    go_simp
    first | done | with_reducible rfl
  try simp only [Act.put, List.setIfInBounds_toArray, List.set_cons_zero, List.set_cons_succ]
  refine wpAnyH_take (i := 4) (oi := { dst := some 12, op := Op.load 32 (Operand.tmp 3), type := 32, pos := p0, after := #[], guard := none }) (v := ?_) rfl (by kernel_rfl) (by kernel_rfl) (by kernel_rfl) (fun _ _ _ h => h) (Or.inl ⟨by rfl, ?_⟩) (by assumption) ?_
  rotate_left
  · intro V hSV
    have z0 : V.cell? ⟨g3, 0, none⟩ = some (.int .u32 h.from_) := ((K3.out.below hSV K3.out.lt).cell 0).trans rfl
    have z1 : V.cell? ⟨g3, 1, none⟩ = some (.int .u16 h.fport) := ((K3.out.below hSV K3.out.lt).cell 1).trans rfl
    have z2 : V.cell? ⟨g3, 2, none⟩ = some (.int .u32 h.to_) := ((K3.out.below hSV K3.out.lt).cell 2).trans rfl
    have z3 : V.cell? ⟨g3, 3, none⟩ = some (.int .u16 h.tport) := ((K3.out.below hSV K3.out.lt).cell 3).trans rfl
    have z4 : V.cell? ⟨g3, 4, none⟩ = some (.bool h.stream) := ((K3.out.below hSV K3.out.lt).cell 4).trans rfl
    have z5 : V.cell? ⟨g3, 5, none⟩ = some (.slice da dn dc) := ((K3.out.below hSV K3.out.lt).cell 5).trans rfl
    clear hSV
    go_simp
    first | done | with_reducible rfl
  try simp only [Act.put, List.setIfInBounds_toArray, List.set_cons_zero, List.set_cons_succ]
  refine wpAnyH_ready (rs := [5, 7]) (by kernel_rfl) (by simp) ?_
  refine AllReadyH.cons (o := { dst := some 13, op := Op.call { callee := Callee.value (Operand.func 45), args := #[Operand.tmp 12, Operand.const (Value.int IntKind.i64 (-1))], argTypes := #[32, 3] }, type := 32, pos := p0, after := #[{ on := 4, ground := Ground.data }], guard := none }) rfl (fun K hK => ?_) ?_
  · refine step_call2 (by rfl) (.tmp 12) (.const (.int .i64 (-1))) 32 3 (by rfl) (by rfl) (by rfl) enter45 ?_
    have hc := copied_any h (HR.out.ext k0.out) hn (-1) (by decide)
    unfold pkV at hc
    refine hc.mono ?_
    clear hc
    rintro e V1 ⟨⟨a, c, rfl, ho⟩, mm⟩
    refine ⟨_, rfl, ?_⟩
    have O1 : Hid (Own byteE V1 W.heap.size (.slice a dn c) d) := Lib.hid (ho.mono k0.out.size)
    have k1 := Lib.hid (k0.out.trans (mm.mono k0.out.size))
    clear ho mm k0
    refine hK.out _ _ k1.out (fun hHeld => ?_)
    clear hK K
    try simp only [Act.put, List.setIfInBounds_toArray, List.set_cons_zero, List.set_cons_succ]
    refine wpAnyH_take (i := 6) (oi := { dst := some 14, op := Op.build 71 #[(0, Operand.tmp 11), (1, Operand.tmp 13)], type := 71, pos := p0, after := #[{ on := 3, ground := Ground.data }, { on := 5, ground := Ground.data }], guard := none }) (v := ?_) rfl (by kernel_rfl) (by kernel_rfl) (by kernel_rfl) (fun _ _ _ h => h) (Or.inl ⟨by rfl, ?_⟩) (by assumption) ?_
    rotate_left
    · intro V hSV
      clear hSV
      go_simp
      first | done | with_reducible rfl
    try simp only [Act.put, List.setIfInBounds_toArray, List.set_cons_zero, List.set_cons_succ]
    refine wpAnyH_ready (rs := [7]) (by kernel_rfl) (by simp) ?_
    refine AllReadyH.cons (o := { dst := some 7, op := Op.alloc 71, type := 0, pos := p0, after := #[], guard := none }) rfl (fun K hK => ?_) ?_
    · go_simp
      obtain ⟨V2, e2⟩ : ∃ U, V1.alloc (.cells #[.int .i64 0, .int .u32 0, .int .u16 0, .int .u32 0, .int .u16 0, .bool false, .slice none 0 0] 71) = U := ⟨_, rfl⟩
      have mm : Below V1.heap.size V1 V2 := by rw [← e2]; exact alloc_bel _ _
      have B2 : Hid (Blk V2 V1.heap.size 71 (0, 0) [.int .i64 0, .int .u32 0, .int .u16 0, .int .u32 0, .int .u16 0, .bool false, .slice none 0 0]) := Lib.hid (by rw [← e2]; exact Blk.new V1 71 (0, 0) #[.int .i64 0, .int .u32 0, .int .u16 0, .int .u32 0, .int .u16 0, .bool false, .slice none 0 0])
      rw [e2]
      clear e2
      have gg2 : Hid (W.heap.size ≤ V1.heap.size) := Lib.hid k1.out.size
      have k2 := Lib.hid (k1.out.trans (mm.mono k1.out.size))
      have O2 := Lib.hid (O1.out.ext mm)
      clear O1
      clear mm k1
      refine hK.out _ _ k2.out (fun hHeld => ?_)
      clear hK K
      try simp only [Act.put, List.setIfInBounds_toArray, List.set_cons_zero, List.set_cons_succ]
      refine wpAnyH_ready (rs := [8]) (by kernel_rfl) (by simp) ?_
      refine AllReadyH.cons (o := { dst := none, op := Op.store 71 (Operand.tmp 7) (Operand.tmp 14), type := 0, pos := p0, after := #[{ on := 7, ground := Ground.data }, { on := 6, ground := Ground.data }, { on := 5, ground := Ground.chain }, { on := 0, ground := Ground.phase }, { on := 1, ground := Ground.phase }, { on := 2, ground := Ground.phase }, { on := 3, ground := Ground.phase }, { on := 4, ground := Ground.phase }, { on := 5, ground := Ground.phase }, { on := 6, ground := Ground.phase }, { on := 7, ground := Ground.phase }], guard := none }) rfl (fun K hK => ?_) ?_
      · rw [hw1.out]
        refine step_store (by rfl) 71 (.tmp 7) (.tmp 14) (by rfl) (cells := #[.int .i64 (y + fd), .int .u32 h.from_, .int .u16 h.fport, .int .u32 h.to_, .int .u16 h.tport, .bool h.stream, .slice a dn c]) (by rfl) (by rfl) B2.out (by rfl) (by kernel_rfl) (by first | kernel_rfl | rfl) ?_
        intro V3 hB0 hg0 hz0
        have k3 := Lib.hid (k2.out.grown hg0 k2.out.size (fun k hk => by have e2 := Option.some.inj hk; have := gg2.out; omega))
        have B3 := Lib.hid hB0
        have O3 := Lib.hid (own_store O2.out B2.out (by decide) hg0)
        clear hB0 hg0 hz0 k2 B2 O2
        refine hK.out _ _ k3.out (fun hHeld => ?_)
        clear hK K
        refine wpAnyH_done (by kernel_rfl) ?_ _
        refine NoPanic.normal ?_
        exact HQ.out _ _ _ _ _ _ _ _ _ _ _ k3.out B3.out gg2.out O3.out
      exact AllReadyH.nil
    exact AllReadyH.nil
  refine AllReadyH.cons (o := { dst := some 7, op := Op.alloc 71, type := 0, pos := p0, after := #[], guard := none }) rfl (fun K hK => ?_) ?_
  · go_simp
    obtain ⟨V4, e4⟩ : ∃ U, U0.alloc (.cells #[.int .i64 0, .int .u32 0, .int .u16 0, .int .u32 0, .int .u16 0, .bool false, .slice none 0 0] 71) = U := ⟨_, rfl⟩
    have mm : Below U0.heap.size U0 V4 := by rw [← e4]; exact alloc_bel _ _
    have B4 : Hid (Blk V4 U0.heap.size 71 (0, 0) [.int .i64 0, .int .u32 0, .int .u16 0, .int .u32 0, .int .u16 0, .bool false, .slice none 0 0]) := Lib.hid (by rw [← e4]; exact Blk.new U0 71 (0, 0) #[.int .i64 0, .int .u32 0, .int .u16 0, .int .u32 0, .int .u16 0, .bool false, .slice none 0 0])
    rw [e4]
    clear e4
    have gg4 : Hid (W.heap.size ≤ U0.heap.size) := Lib.hid k0.out.size
    have k4 := Lib.hid (k0.out.trans (mm.mono k0.out.size))
    clear mm k0
    refine hK.out _ _ k4.out (fun hHeld => ?_)
    clear hK K
    try simp only [Act.put, List.setIfInBounds_toArray, List.set_cons_zero, List.set_cons_succ]
    refine wpAnyH_ready (rs := [5]) (by kernel_rfl) (by simp) ?_
    refine AllReadyH.cons (o := { dst := some 13, op := Op.call { callee := Callee.value (Operand.func 45), args := #[Operand.tmp 12, Operand.const (Value.int IntKind.i64 (-1))], argTypes := #[32, 3] }, type := 32, pos := p0, after := #[{ on := 4, ground := Ground.data }], guard := none }) rfl (fun K hK => ?_) ?_
    · refine step_call2 (by rfl) (.tmp 12) (.const (.int .i64 (-1))) 32 3 (by rfl) (by rfl) (by rfl) enter45 ?_
      have hc := copied_any h (HR.out.ext k4.out) hn (-1) (by decide)
      unfold pkV at hc
      refine hc.mono ?_
      clear hc
      rintro e V5 ⟨⟨a, c, rfl, ho⟩, mm⟩
      refine ⟨_, rfl, ?_⟩
      have O5 : Hid (Own byteE V5 W.heap.size (.slice a dn c) d) := Lib.hid (ho.mono k4.out.size)
      have k5 := Lib.hid (k4.out.trans (mm.mono k4.out.size))
      have B5 := Lib.hid (B4.out.below mm B4.out.lt)
      clear B4
      clear ho mm k4
      refine hK.out _ _ k5.out (fun hHeld => ?_)
      clear hK K
      try simp only [Act.put, List.setIfInBounds_toArray, List.set_cons_zero, List.set_cons_succ]
      refine wpAnyH_take (i := 6) (oi := { dst := some 14, op := Op.build 71 #[(0, Operand.tmp 11), (1, Operand.tmp 13)], type := 71, pos := p0, after := #[{ on := 3, ground := Ground.data }, { on := 5, ground := Ground.data }], guard := none }) (v := ?_) rfl (by kernel_rfl) (by kernel_rfl) (by kernel_rfl) (fun _ _ _ h => h) (Or.inl ⟨by rfl, ?_⟩) (by assumption) ?_
      rotate_left
      · intro V hSV
        clear hSV
        go_simp
        first | done | with_reducible rfl
      try simp only [Act.put, List.setIfInBounds_toArray, List.set_cons_zero, List.set_cons_succ]
      refine wpAnyH_ready (rs := [8]) (by kernel_rfl) (by simp) ?_
      refine AllReadyH.cons (o := { dst := none, op := Op.store 71 (Operand.tmp 7) (Operand.tmp 14), type := 0, pos := p0, after := #[{ on := 7, ground := Ground.data }, { on := 6, ground := Ground.data }, { on := 5, ground := Ground.chain }, { on := 0, ground := Ground.phase }, { on := 1, ground := Ground.phase }, { on := 2, ground := Ground.phase }, { on := 3, ground := Ground.phase }, { on := 4, ground := Ground.phase }, { on := 5, ground := Ground.phase }, { on := 6, ground := Ground.phase }, { on := 7, ground := Ground.phase }], guard := none }) rfl (fun K hK => ?_) ?_
      · rw [hw1.out]
        refine step_store (by rfl) 71 (.tmp 7) (.tmp 14) (by rfl) (cells := #[.int .i64 (y + fd), .int .u32 h.from_, .int .u16 h.fport, .int .u32 h.to_, .int .u16 h.tport, .bool h.stream, .slice a dn c]) (by rfl) (by rfl) B5.out (by rfl) (by kernel_rfl) (by first | kernel_rfl | rfl) ?_
        intro V6 hB0 hg0 hz0
        have k6 := Lib.hid (k5.out.grown hg0 k5.out.size (fun k hk => by have e2 := Option.some.inj hk; have := gg4.out; omega))
        have B6 := Lib.hid hB0
        have O6 := Lib.hid (own_store O5.out B5.out (by decide) hg0)
        clear hB0 hg0 hz0 k5 B5 O5
        refine hK.out _ _ k6.out (fun hHeld => ?_)
        clear hK K
        refine wpAnyH_done (by kernel_rfl) ?_ _
        refine NoPanic.normal ?_
        exact HQ.out _ _ _ _ _ _ _ _ _ _ _ k6.out B6.out gg4.out O6.out
      exact AllReadyH.nil
    exact AllReadyH.nil
  exact AllReadyH.nil
set_option maxHeartbeats 8000000 in
set_option maxRecDepth 100000 in
theorem fls_two (p0 : String) {W : World} {Q : Exit → Act → World → Prop} (t0 t1 t5 t6 t8 t9 t10 t11 t12 t13 t14 t15 t16 t17 t18 t19 t20 t21 t22 t23 t24 t25 t26 t27 t28 t29 t30 t31 t32 t33 t34 t35 t36 t37 t38 t39 t40 t41 : Value) (g3 g4 : Nat) (h : Hd) {da : Option Addr} {dn dc : Nat} {d : List UInt8} (fk fd fm y : Int) (g7 : Nat) (a0 : Int) (a1 : Option Addr) (c1 : Nat)
    (k3 : Blk W g3 32 (0, 0) [.int .u32 h.from_, .int .u16 h.fport, .int .u32 h.to_, .int .u16 h.tport, .bool h.stream, .slice da dn dc])
    (k4 : Blk W g4 51 (0, 0) [.int .i64 fk, .int .i64 fd, .int .i64 fm])
    (hr : Rd byteE W da dn dc d)
    (hn : dn ≤ 140737488355328)
    (hy : 0 ≤ y ∧ y ≤ 1099511627776)
    (hf : 0 ≤ fd ∧ fd ≤ 86400)
    (hm : 0 ≤ fm ∧ fm ≤ 86400)
    (k7 : Blk W g7 71 (0, 0) [.int .i64 a0, .int .u32 h.from_, .int .u16 h.fport, .int .u32 h.to_, .int .u16 h.tport, .bool h.stream, .slice a1 dn c1])
    (hq : ∀ (x21 x22 x23 x24 x25 x26 x27 x28 x29 x30 x31 x32 : Value) (V : World) (gb : Nat) (a : Option Addr) (c : Nat) (_ : Below W.heap.size W V) (_ : Blk V gb 71 (0, 0) [.int .i64 a0, .int .u32 h.from_, .int .u16 h.fport, .int .u32 h.to_, .int .u16 h.tport, .bool h.stream, .slice a1 dn c1, .int .i64 (y + fd + fm), .int .u32 h.from_, .int .u16 h.fport, .int .u32 h.to_, .int .u16 h.tport, .bool h.stream, .slice a dn c]) (_ : W.heap.size ≤ gb) (_ : Own byteE V W.heap.size (.slice a dn c) d), Q .normal { tmps := #[t0, t1, .int .i64 y, .pointer (some ⟨g3, 0, none⟩), .pointer (some ⟨g4, 0, none⟩), t5, .slice (some ⟨gb, 0, none⟩) 2 2, .pointer (some ⟨g7, 0, none⟩), t8, t9, t10, t11, t12, t13, t14, t15, t16, t17, t18, t19, t20, x21, x22, x23, x24, x25, x26, x27, x28, x29, x30, x31, x32, t33, t34, t35, t36, t37, t38, t39, t40, t41], defers := [] } V) :
    Code.wp Try.prog (Code.region 6 (#[{ dst := some 21, op := Op.load 71 (Operand.tmp 7), type := 71, pos := p0, after := #[], guard := none }, { dst := some 22, op := Op.move (Operand.tmp 2), type := 3, pos := p0, after := #[], guard := none }, { dst := some 23, op := Op.fieldAddr 51 (Operand.tmp 4) 1, type := 0, pos := p0, after := #[], guard := none }, { dst := some 24, op := Op.load 3 (Operand.tmp 23), type := 3, pos := p0, after := #[{ on := 2, ground := Ground.data }], guard := none }, { dst := some 25, op := Op.binOp BinOp.add 3 (Operand.tmp 22) (Operand.tmp 24) 3, type := 3, pos := p0, after := #[{ on := 1, ground := Ground.data }, { on := 3, ground := Ground.data }], guard := none }, { dst := some 26, op := Op.fieldAddr 51 (Operand.tmp 4) 2, type := 0, pos := p0, after := #[], guard := none }, { dst := some 27, op := Op.load 3 (Operand.tmp 26), type := 3, pos := p0, after := #[{ on := 5, ground := Ground.data }], guard := none }, { dst := some 28, op := Op.binOp BinOp.add 3 (Operand.tmp 25) (Operand.tmp 27) 3, type := 3, pos := p0, after := #[{ on := 4, ground := Ground.data }, { on := 6, ground := Ground.data }], guard := none }, { dst := some 29, op := Op.load 32 (Operand.tmp 3), type := 32, pos := p0, after := #[], guard := none }, { dst := some 30, op := Op.call { callee := Callee.value (Operand.func 45), args := #[Operand.tmp 29, Operand.const (Value.int IntKind.i64 (-1))], argTypes := #[32, 3] }, type := 32, pos := p0, after := #[{ on := 8, ground := Ground.data }], guard := none }, { dst := some 31, op := Op.build 71 #[(0, Operand.tmp 28), (1, Operand.tmp 30)], type := 71, pos := p0, after := #[{ on := 7, ground := Ground.data }, { on := 9, ground := Ground.data }], guard := none }, { dst := some 32, op := Op.buildSlice 61 2 #[(0, Operand.tmp 21), (1, Operand.tmp 31)], type := 61, pos := p0, after := #[{ on := 0, ground := Ground.data }, { on := 10, ground := Ground.data }], guard := none }, { dst := some 6, op := Op.assign (Operand.tmp 32), type := 61, pos := p0, after := #[{ on := 11, ground := Ground.data }, { on := 9, ground := Ground.chain }, { on := 0, ground := Ground.phase }, { on := 1, ground := Ground.phase }, { on := 2, ground := Ground.phase }, { on := 3, ground := Ground.phase }, { on := 4, ground := Ground.phase }, { on := 5, ground := Ground.phase }, { on := 6, ground := Ground.phase }, { on := 7, ground := Ground.phase }, { on := 8, ground := Ground.phase }, { on := 9, ground := Ground.phase }, { on := 10, ground := Ground.phase }, { on := 11, ground := Ground.phase }], guard := none }] : Array Oper) true) Q { tmps := #[t0, t1, .int .i64 y, .pointer (some ⟨g3, 0, none⟩), .pointer (some ⟨g4, 0, none⟩), t5, t6, .pointer (some ⟨g7, 0, none⟩), t8, t9, t10, t11, t12, t13, t14, t15, t16, t17, t18, t19, t20, t21, t22, t23, t24, t25, t26, t27, t28, t29, t30, t31, t32, t33, t34, t35, t36, t37, t38, t39, t40, t41], defers := [] } W := by
  have HQ := Lib.hid hq
  clear hq
  have K3 := Lib.hid k3
  have K4 := Lib.hid k4
  have HR := Lib.hid hr
  clear k3 k4 hr
  have k0 : Hid (Below W.heap.size W W.drew) := Lib.hid (Below.refl _ _).drew
  obtain ⟨y0, y1⟩ := hy
  obtain ⟨f0, f1⟩ := hf
  have hw1 : Hid (IntKind.i64.wrap (y + fd) = y + fd) := Lib.hid (IntWalk.i64_in _ (by omega))
  have K7 := Lib.hid k7
  clear k7
  obtain ⟨m0, m1⟩ := hm
  have hw2 : Hid (IntKind.i64.wrap (y + fd + fm) = y + fd + fm) := Lib.hid (IntWalk.i64_in _ (by omega))
  refine wp_region_noPanic ?_
  refine wp_region_held_drew (S := fun V => Below W.heap.size W V) (by kernel_rfl) k0.out (fun hHeld => ?_)
  clear hHeld
  obtain ⟨U0, hU0⟩ : ∃ x, W.drew = x := ⟨_, rfl⟩
  rw [hU0] at k0 ⊢
  clear hU0
  refine wpAnyH_take (i := 0) (oi := { dst := some 21, op := Op.load 71 (Operand.tmp 7), type := 71, pos := p0, after := #[], guard := none }) (v := ?_) rfl (by kernel_rfl) (by kernel_rfl) (by kernel_rfl) (fun _ _ _ h => h) (Or.inl ⟨by rfl, ?_⟩) (by assumption) ?_
  rotate_left
  · intro V hSV
    have z0 : V.cell? ⟨g7, 0, none⟩ = some (.int .i64 a0) := ((K7.out.below hSV K7.out.lt).cell 0).trans rfl
    have z1 : V.cell? ⟨g7, 1, none⟩ = some (.int .u32 h.from_) := ((K7.out.below hSV K7.out.lt).cell 1).trans rfl
    have z2 : V.cell? ⟨g7, 2, none⟩ = some (.int .u16 h.fport) := ((K7.out.below hSV K7.out.lt).cell 2).trans rfl
    have z3 : V.cell? ⟨g7, 3, none⟩ = some (.int .u32 h.to_) := ((K7.out.below hSV K7.out.lt).cell 3).trans rfl
    have z4 : V.cell? ⟨g7, 4, none⟩ = some (.int .u16 h.tport) := ((K7.out.below hSV K7.out.lt).cell 4).trans rfl
    have z5 : V.cell? ⟨g7, 5, none⟩ = some (.bool h.stream) := ((K7.out.below hSV K7.out.lt).cell 5).trans rfl
    have z6 : V.cell? ⟨g7, 6, none⟩ = some (.slice a1 dn c1) := ((K7.out.below hSV K7.out.lt).cell 6).trans rfl
    clear hSV
    go_simp
    first | done | with_reducible rfl
  try simp only [Act.put, List.setIfInBounds_toArray, List.set_cons_zero, List.set_cons_succ]
  refine wpAnyH_take (i := 1) (oi := { dst := some 22, op := Op.move (Operand.tmp 2), type := 3, pos := p0, after := #[], guard := none }) (v := ?_) rfl (by kernel_rfl) (by kernel_rfl) (by kernel_rfl) (fun _ _ _ h => h) (Or.inl ⟨by rfl, ?_⟩) (by assumption) ?_
  rotate_left
  · intro V hSV
    clear hSV
    go_simp
    first | done | with_reducible rfl
  try simp only [Act.put, List.setIfInBounds_toArray, List.set_cons_zero, List.set_cons_succ]
  refine wpAnyH_take (i := 2) (oi := { dst := some 23, op := Op.fieldAddr 51 (Operand.tmp 4) 1, type := 0, pos := p0, after := #[], guard := none }) (v := ?_) rfl (by kernel_rfl) (by kernel_rfl) (by kernel_rfl) (fun _ _ _ h => h) (Or.inl ⟨by rfl, ?_⟩) (by assumption) ?_
  rotate_left
  · intro V hSV
    clear hSV
    go_simp
    first | done | with_reducible rfl
  try simp only [Act.put, List.setIfInBounds_toArray, List.set_cons_zero, List.set_cons_succ]
  refine wpAnyH_take (i := 3) (oi := { dst := some 24, op := Op.load 3 (Operand.tmp 23), type := 3, pos := p0, after := #[{ on := 2, ground := Ground.data }], guard := none }) (v := ?_) rfl (by kernel_rfl) (by kernel_rfl) (by kernel_rfl) (fun _ _ _ h => h) (Or.inl ⟨by rfl, ?_⟩) (by assumption) ?_
  rotate_left
  · intro V hSV
    have z0 : V.cell? ⟨g4, 0, none⟩ = some (.int .i64 fk) := ((K4.out.below hSV K4.out.lt).cell 0).trans rfl
    have z1 : V.cell? ⟨g4, 1, none⟩ = some (.int .i64 fd) := ((K4.out.below hSV K4.out.lt).cell 1).trans rfl
    have z2 : V.cell? ⟨g4, 2, none⟩ = some (.int .i64 fm) := ((K4.out.below hSV K4.out.lt).cell 2).trans rfl
    clear hSV
    go_simp
    first | done | with_reducible rfl
  try simp only [Act.put, List.setIfInBounds_toArray, List.set_cons_zero, List.set_cons_succ]
  refine wpAnyH_take (i := 4) (oi := { dst := some 25, op := Op.binOp BinOp.add 3 (Operand.tmp 22) (Operand.tmp 24) 3, type := 3, pos := p0, after := #[{ on := 1, ground := Ground.data }, { on := 3, ground := Ground.data }], guard := none }) (v := ?_) rfl (by kernel_rfl) (by kernel_rfl) (by kernel_rfl) (fun _ _ _ h => h) (Or.inl ⟨by rfl, ?_⟩) (by assumption) ?_
  rotate_left
  · intro V hSV
    clear hSV
    go_simp
    first | done | with_reducible rfl
  try simp only [Act.put, List.setIfInBounds_toArray, List.set_cons_zero, List.set_cons_succ]
  refine wpAnyH_take (i := 5) (oi := { dst := some 26, op := Op.fieldAddr 51 (Operand.tmp 4) 2, type := 0, pos := p0, after := #[], guard := none }) (v := ?_) rfl (by kernel_rfl) (by kernel_rfl) (by kernel_rfl) (fun _ _ _ h => h) (Or.inl ⟨by rfl, ?_⟩) (by assumption) ?_
  rotate_left
  · intro V hSV
    clear hSV
    go_simp
    first | done | with_reducible rfl
  try simp only [Act.put, List.setIfInBounds_toArray, List.set_cons_zero, List.set_cons_succ]
  refine wpAnyH_take (i := 6) (oi := { dst := some 27, op := Op.load 3 (Operand.tmp 26), type := 3, pos := p0, after := #[{ on := 5, ground := Ground.data }], guard := none }) (v := ?_) rfl (by kernel_rfl) (by kernel_rfl) (by kernel_rfl) (fun _ _ _ h => h) (Or.inl ⟨by rfl, ?_⟩) (by assumption) ?_
  rotate_left
  · intro V hSV
    have z0 : V.cell? ⟨g4, 0, none⟩ = some (.int .i64 fk) := ((K4.out.below hSV K4.out.lt).cell 0).trans rfl
    have z1 : V.cell? ⟨g4, 1, none⟩ = some (.int .i64 fd) := ((K4.out.below hSV K4.out.lt).cell 1).trans rfl
    have z2 : V.cell? ⟨g4, 2, none⟩ = some (.int .i64 fm) := ((K4.out.below hSV K4.out.lt).cell 2).trans rfl
    clear hSV
    go_simp
    first | done | with_reducible rfl
  try simp only [Act.put, List.setIfInBounds_toArray, List.set_cons_zero, List.set_cons_succ]
  refine wpAnyH_take (i := 7) (oi := { dst := some 28, op := Op.binOp BinOp.add 3 (Operand.tmp 25) (Operand.tmp 27) 3, type := 3, pos := p0, after := #[{ on := 4, ground := Ground.data }, { on := 6, ground := Ground.data }], guard := none }) (v := ?_) rfl (by kernel_rfl) (by kernel_rfl) (by kernel_rfl) (fun _ _ _ h => h) (Or.inl ⟨by rfl, ?_⟩) (by assumption) ?_
  rotate_left
  · intro V hSV
    clear hSV
    go_simp
    first | done | with_reducible rfl
  try simp only [Act.put, List.setIfInBounds_toArray, List.set_cons_zero, List.set_cons_succ]
  refine wpAnyH_take (i := 8) (oi := { dst := some 29, op := Op.load 32 (Operand.tmp 3), type := 32, pos := p0, after := #[], guard := none }) (v := ?_) rfl (by kernel_rfl) (by kernel_rfl) (by kernel_rfl) (fun _ _ _ h => h) (Or.inl ⟨by rfl, ?_⟩) (by assumption) ?_
  rotate_left
  · intro V hSV
    have z0 : V.cell? ⟨g3, 0, none⟩ = some (.int .u32 h.from_) := ((K3.out.below hSV K3.out.lt).cell 0).trans rfl
    have z1 : V.cell? ⟨g3, 1, none⟩ = some (.int .u16 h.fport) := ((K3.out.below hSV K3.out.lt).cell 1).trans rfl
    have z2 : V.cell? ⟨g3, 2, none⟩ = some (.int .u32 h.to_) := ((K3.out.below hSV K3.out.lt).cell 2).trans rfl
    have z3 : V.cell? ⟨g3, 3, none⟩ = some (.int .u16 h.tport) := ((K3.out.below hSV K3.out.lt).cell 3).trans rfl
    have z4 : V.cell? ⟨g3, 4, none⟩ = some (.bool h.stream) := ((K3.out.below hSV K3.out.lt).cell 4).trans rfl
    have z5 : V.cell? ⟨g3, 5, none⟩ = some (.slice da dn dc) := ((K3.out.below hSV K3.out.lt).cell 5).trans rfl
    clear hSV
    go_simp
    first | done | with_reducible rfl
  try simp only [Act.put, List.setIfInBounds_toArray, List.set_cons_zero, List.set_cons_succ]
  refine wpAnyH_ready (rs := [9]) (by kernel_rfl) (by simp) ?_
  refine AllReadyH.cons (o := { dst := some 30, op := Op.call { callee := Callee.value (Operand.func 45), args := #[Operand.tmp 29, Operand.const (Value.int IntKind.i64 (-1))], argTypes := #[32, 3] }, type := 32, pos := p0, after := #[{ on := 8, ground := Ground.data }], guard := none }) rfl (fun K hK => ?_) ?_
  · refine step_call2 (by rfl) (.tmp 29) (.const (.int .i64 (-1))) 32 3 (by rfl) (by rfl) (by rfl) enter45 ?_
    have hc := copied_any h (HR.out.ext k0.out) hn (-1) (by decide)
    unfold pkV at hc
    refine hc.mono ?_
    clear hc
    rintro e V1 ⟨⟨a, c, rfl, ho⟩, mm⟩
    refine ⟨_, rfl, ?_⟩
    have O1 : Hid (Own byteE V1 W.heap.size (.slice a dn c) d) := Lib.hid (ho.mono k0.out.size)
    have k1 := Lib.hid (k0.out.trans (mm.mono k0.out.size))
    clear ho mm k0
    refine hK.out _ _ k1.out (fun hHeld => ?_)
    clear hK K
    try simp only [Act.put, List.setIfInBounds_toArray, List.set_cons_zero, List.set_cons_succ]
    refine wpAnyH_take (i := 10) (oi := { dst := some 31, op := Op.build 71 #[(0, Operand.tmp 28), (1, Operand.tmp 30)], type := 71, pos := p0, after := #[{ on := 7, ground := Ground.data }, { on := 9, ground := Ground.data }], guard := none }) (v := ?_) rfl (by kernel_rfl) (by kernel_rfl) (by kernel_rfl) (fun _ _ _ h => h) (Or.inl ⟨by rfl, ?_⟩) (by assumption) ?_
    rotate_left
    · intro V hSV
      clear hSV
      go_simp
      first | done | with_reducible rfl
    try simp only [Act.put, List.setIfInBounds_toArray, List.set_cons_zero, List.set_cons_succ]
    refine wpAnyH_ready (rs := [11]) (by kernel_rfl) (by simp) ?_
    refine AllReadyH.cons (o := { dst := some 32, op := Op.buildSlice 61 2 #[(0, Operand.tmp 21), (1, Operand.tmp 31)], type := 61, pos := p0, after := #[{ on := 0, ground := Ground.data }, { on := 10, ground := Ground.data }], guard := none }) rfl (fun K hK => ?_) ?_
    · rw [hw1.out, hw2.out]
      go_simp
      obtain ⟨V2, e2⟩ : ∃ U, V1.alloc (.cells #[.int .i64 a0, .int .u32 h.from_, .int .u16 h.fport, .int .u32 h.to_, .int .u16 h.tport, .bool h.stream, .slice a1 dn c1, .int .i64 (y + fd + fm), .int .u32 h.from_, .int .u16 h.fport, .int .u32 h.to_, .int .u16 h.tport, .bool h.stream, .slice a dn c] 71) = U := ⟨_, rfl⟩
      have mm : Below V1.heap.size V1 V2 := by rw [← e2]; exact alloc_bel _ _
      have B2 : Hid (Blk V2 V1.heap.size 71 (0, 0) [.int .i64 a0, .int .u32 h.from_, .int .u16 h.fport, .int .u32 h.to_, .int .u16 h.tport, .bool h.stream, .slice a1 dn c1, .int .i64 (y + fd + fm), .int .u32 h.from_, .int .u16 h.fport, .int .u32 h.to_, .int .u16 h.tport, .bool h.stream, .slice a dn c]) := Lib.hid (by rw [← e2]; exact Blk.new V1 71 (0, 0) #[.int .i64 a0, .int .u32 h.from_, .int .u16 h.fport, .int .u32 h.to_, .int .u16 h.tport, .bool h.stream, .slice a1 dn c1, .int .i64 (y + fd + fm), .int .u32 h.from_, .int .u16 h.fport, .int .u32 h.to_, .int .u16 h.tport, .bool h.stream, .slice a dn c])
      rw [e2]
      clear e2
      have gg2 : Hid (W.heap.size ≤ V1.heap.size) := Lib.hid k1.out.size
      have k2 := Lib.hid (k1.out.trans (mm.mono k1.out.size))
      have O2 := Lib.hid (O1.out.ext mm)
      clear O1 mm k1
      refine hK.out _ _ k2.out (fun hHeld => ?_)
      clear hK K
      try simp only [Act.put, List.setIfInBounds_toArray, List.set_cons_zero, List.set_cons_succ]
      refine wpAnyH_take (i := 12) (oi := { dst := some 6, op := Op.assign (Operand.tmp 32), type := 61, pos := p0, after := #[{ on := 11, ground := Ground.data }, { on := 9, ground := Ground.chain }, { on := 0, ground := Ground.phase }, { on := 1, ground := Ground.phase }, { on := 2, ground := Ground.phase }, { on := 3, ground := Ground.phase }, { on := 4, ground := Ground.phase }, { on := 5, ground := Ground.phase }, { on := 6, ground := Ground.phase }, { on := 7, ground := Ground.phase }, { on := 8, ground := Ground.phase }, { on := 9, ground := Ground.phase }, { on := 10, ground := Ground.phase }, { on := 11, ground := Ground.phase }], guard := none }) (v := ?_) rfl (by kernel_rfl) (by kernel_rfl) (by kernel_rfl) (fun _ _ _ h => h) (Or.inl ⟨by rfl, ?_⟩) (by assumption) ?_
      rotate_left
      · intro V hSV
        clear hSV
        go_simp
        first | done | with_reducible rfl
      try simp only [Act.put, List.setIfInBounds_toArray, List.set_cons_zero, List.set_cons_succ]
      refine wpAnyH_done (by kernel_rfl) ?_ _
      refine NoPanic.normal ?_
      exact HQ.out _ _ _ _ _ _ _ _ _ _ _ _ _ _ _ _ k2.out B2.out gg2.out O2.out
    exact AllReadyH.nil
  exact AllReadyH.nil
end Go.Proofs.Ythdnbipfdahnlaa
