/- The law's flights 20. Printed by gen_nud.py. -/
import Derived.Test.YthdnbipfdahnlaaNuC
namespace Go.Proofs.Ythdnbipfdahnlaa
open Go Go.RowKit
theorem enter27 (args : Array Value) (w : World) : (callFunc 27 args).run Try.prog w = .ok (.enter 27 args) w := Go.MuLone.run_callFunc_enter Try.func27 (by kernel_rfl) (by rfl) args w
set_option maxHeartbeats 8000000 in
set_option maxRecDepth 100000 in
theorem lfl_reg (p0 : String) {W : World} {Q : Exit → Act → World → Prop} (t0 t1 t2 t3 t4 t8 t9 t10 t11 t12 t13 t14 t15 t16 t17 t18 t19 t20 t21 t22 t23 t24 t25 t26 t27 t28 t29 t30 t31 t32 t33 t34 t35 t36 t37 t38 t39 t40 t41 t42 t43 t44 t45 t46 t47 t48 t49 t50 t51 t52 t53 t54 t55 t56 t57 t58 t59 t60 t61 t62 t63 t64 t65 t66 t67 t68 t69 t70 t71 t72 t73 t74 t75 t76 t77 t78 t79 t80 t81 t82 t83 t84 t85 : Value) (ga oa gb ob i nn xc yc : Nat) (h : Hd) {da ea : Option Addr} {dn dc ec : Nat} {d : List UInt8} (y : Int)
    (a0 : W.cell? ⟨ga, oa + i * 7, none⟩ = some (.int .i64 y))
    (a1 : W.cell? ⟨ga, oa + i * 7 + 1, none⟩ = some (.int .u32 h.from_))
    (a2 : W.cell? ⟨ga, oa + i * 7 + 2, none⟩ = some (.int .u16 h.fport))
    (a3 : W.cell? ⟨ga, oa + i * 7 + 3, none⟩ = some (.int .u32 h.to_))
    (a4 : W.cell? ⟨ga, oa + i * 7 + 4, none⟩ = some (.int .u16 h.tport))
    (a5 : W.cell? ⟨ga, oa + i * 7 + 5, none⟩ = some (.bool h.stream))
    (a6 : W.cell? ⟨ga, oa + i * 7 + 6, none⟩ = some (.slice da dn dc))
    (b0 : W.cell? ⟨gb, ob + i * 7, none⟩ = some (.int .i64 y))
    (b1 : W.cell? ⟨gb, ob + i * 7 + 1, none⟩ = some (.int .u32 h.from_))
    (b2 : W.cell? ⟨gb, ob + i * 7 + 2, none⟩ = some (.int .u16 h.fport))
    (b3 : W.cell? ⟨gb, ob + i * 7 + 3, none⟩ = some (.int .u32 h.to_))
    (b4 : W.cell? ⟨gb, ob + i * 7 + 4, none⟩ = some (.int .u16 h.tport))
    (b5 : W.cell? ⟨gb, ob + i * 7 + 5, none⟩ = some (.bool h.stream))
    (b6 : W.cell? ⟨gb, ob + i * 7 + 6, none⟩ = some (.slice ea dn ec))
    (hr : Rd byteE W da dn dc d)
    (hr2 : Rd byteE W ea dn ec d)
    (hi : (i : Int) < nn)
    (hq : ∀ (x25 x26 x27 x28 x29 x30 x31 x32 x33 x34 x35 x36 x37 x38 x39 x40 x41 x42 x43 x44 x45 x46 x47 x48 : Value) (V : World) (_ : Below W.heap.size W V), Q .normal { tmps := #[t0, t1, t2, t3, t4, .slice (some ⟨ga, oa, none⟩) nn xc, .slice (some ⟨gb, ob, none⟩) nn yc, .int .i64 i, t8, t9, t10, t11, t12, t13, t14, t15, t16, t17, t18, t19, t20, t21, t22, t23, t24, x25, x26, x27, x28, x29, x30, x31, x32, x33, x34, x35, x36, x37, x38, x39, x40, x41, x42, x43, x44, x45, x46, x47, x48, .bool false, t50, t51, t52, t53, t54, t55, t56, t57, t58, t59, t60, t61, t62, t63, t64, t65, t66, t67, t68, t69, t70, t71, t72, t73, t74, t75, t76, t77, t78, t79, t80, t81, t82, t83, t84, t85], defers := [] } V) :
    Code.wp Try.prog (Code.region 7 (#[{ dst := some 25, op := Op.move (Operand.tmp 5), type := 61, pos := p0, after := #[], guard := none }, { dst := some 26, op := Op.move (Operand.tmp 7), type := 3, pos := p0, after := #[], guard := none }, { dst := some 27, op := Op.indexAddr 61 (Operand.tmp 25) (Operand.tmp 26), type := 0, pos := p0, after := #[{ on := 0, ground := Ground.data }, { on := 1, ground := Ground.data }], guard := none }, { dst := some 28, op := Op.fieldAddr 71 (Operand.tmp 27) 0, type := 0, pos := p0, after := #[{ on := 2, ground := Ground.data }], guard := none }, { dst := some 29, op := Op.load 3 (Operand.tmp 28), type := 3, pos := p0, after := #[{ on := 3, ground := Ground.data }], guard := none }, { dst := some 30, op := Op.move (Operand.tmp 6), type := 61, pos := p0, after := #[], guard := none }, { dst := some 31, op := Op.move (Operand.tmp 7), type := 3, pos := p0, after := #[], guard := none }, { dst := some 32, op := Op.indexAddr 61 (Operand.tmp 30) (Operand.tmp 31), type := 0, pos := p0, after := #[{ on := 5, ground := Ground.data }, { on := 6, ground := Ground.data }], guard := none }, { dst := some 33, op := Op.fieldAddr 71 (Operand.tmp 32) 0, type := 0, pos := p0, after := #[{ on := 7, ground := Ground.data }], guard := none }, { dst := some 34, op := Op.load 3 (Operand.tmp 33), type := 3, pos := p0, after := #[{ on := 8, ground := Ground.data }], guard := none }, { dst := some 35, op := Op.binOp BinOp.neq 3 (Operand.tmp 29) (Operand.tmp 34) 3, type := 4, pos := p0, after := #[{ on := 4, ground := Ground.data }, { on := 9, ground := Ground.data }], guard := none }, { dst := some 36, op := Op.move (Operand.tmp 35), type := 4, pos := p0, after := #[{ on := 10, ground := Ground.data }], guard := none }, { dst := some 37, op := Op.move (Operand.tmp 5), type := 61, pos := p0, after := #[{ on := 11, ground := Ground.guard }], guard := some (11, false) }, { dst := some 38, op := Op.move (Operand.tmp 7), type := 3, pos := p0, after := #[{ on := 11, ground := Ground.guard }], guard := some (11, false) }, { dst := some 39, op := Op.indexAddr 61 (Operand.tmp 37) (Operand.tmp 38), type := 0, pos := p0, after := #[{ on := 12, ground := Ground.data }, { on := 13, ground := Ground.data }, { on := 11, ground := Ground.guard }], guard := some (11, false) }, { dst := some 40, op := Op.fieldAddr 71 (Operand.tmp 39) 1, type := 0, pos := p0, after := #[{ on := 14, ground := Ground.data }, { on := 11, ground := Ground.guard }], guard := some (11, false) }, { dst := some 41, op := Op.load 32 (Operand.tmp 40), type := 32, pos := p0, after := #[{ on := 15, ground := Ground.data }, { on := 11, ground := Ground.guard }], guard := some (11, false) }, { dst := some 42, op := Op.move (Operand.tmp 6), type := 61, pos := p0, after := #[{ on := 11, ground := Ground.guard }], guard := some (11, false) }, { dst := some 43, op := Op.move (Operand.tmp 7), type := 3, pos := p0, after := #[{ on := 11, ground := Ground.guard }], guard := some (11, false) }, { dst := some 44, op := Op.indexAddr 61 (Operand.tmp 42) (Operand.tmp 43), type := 0, pos := p0, after := #[{ on := 17, ground := Ground.data }, { on := 18, ground := Ground.data }, { on := 11, ground := Ground.guard }], guard := some (11, false) }, { dst := some 45, op := Op.fieldAddr 71 (Operand.tmp 44) 1, type := 0, pos := p0, after := #[{ on := 19, ground := Ground.data }, { on := 11, ground := Ground.guard }], guard := some (11, false) }, { dst := some 46, op := Op.load 32 (Operand.tmp 45), type := 32, pos := p0, after := #[{ on := 20, ground := Ground.data }, { on := 11, ground := Ground.guard }], guard := some (11, false) }, { dst := some 47, op := Op.call { callee := Callee.value (Operand.func 27), args := #[Operand.tmp 41, Operand.tmp 46], argTypes := #[32, 32] }, type := 4, pos := p0, after := #[{ on := 16, ground := Ground.data }, { on := 21, ground := Ground.data }, { on := 11, ground := Ground.chain }, { on := 11, ground := Ground.guard }], guard := some (11, false) }, { dst := some 48, op := Op.unOp UnOp.not 4 (Operand.tmp 47), type := 4, pos := p0, after := #[{ on := 22, ground := Ground.data }, { on := 11, ground := Ground.guard }], guard := some (11, false) }, { dst := some 49, op := Op.pick (Operand.tmp 36) (Operand.const (Value.bool true)) (Operand.tmp 48), type := 4, pos := p0, after := #[{ on := 11, ground := Ground.data }, { on := 23, ground := Ground.data }], guard := none }] : Array Oper) true) Q { tmps := #[t0, t1, t2, t3, t4, .slice (some ⟨ga, oa, none⟩) nn xc, .slice (some ⟨gb, ob, none⟩) nn yc, .int .i64 i, t8, t9, t10, t11, t12, t13, t14, t15, t16, t17, t18, t19, t20, t21, t22, t23, t24, t25, t26, t27, t28, t29, t30, t31, t32, t33, t34, t35, t36, t37, t38, t39, t40, t41, t42, t43, t44, t45, t46, t47, t48, t49, t50, t51, t52, t53, t54, t55, t56, t57, t58, t59, t60, t61, t62, t63, t64, t65, t66, t67, t68, t69, t70, t71, t72, t73, t74, t75, t76, t77, t78, t79, t80, t81, t82, t83, t84, t85], defers := [] } W := by
  have HQ := Lib.hid hq
  clear hq
  have HR := Lib.hid hr
  have HR2 := Lib.hid hr2
  have A0 := Lib.hid a0
  have A1 := Lib.hid a1
  have A2 := Lib.hid a2
  have A3 := Lib.hid a3
  have A4 := Lib.hid a4
  have A5 := Lib.hid a5
  have A6 := Lib.hid a6
  have B0 := Lib.hid b0
  have B1 := Lib.hid b1
  have B2 := Lib.hid b2
  have B3 := Lib.hid b3
  have B4 := Lib.hid b4
  have B5 := Lib.hid b5
  have B6 := Lib.hid b6
  clear hr hr2 a0 a1 a2 a3 a4 a5 a6 b0 b1 b2 b3 b4 b5 b6
  have k0 : Hid (Below W.heap.size W W.drew) := Lib.hid (Below.refl _ _).drew
  have hi0 : (0 : Int) ≤ i := by omega
  refine wp_region_noPanic ?_
  refine wp_region_held_drew (S := fun V => Below W.heap.size W V) (by kernel_rfl) k0.out (fun hHeld => ?_)
  clear hHeld
  obtain ⟨U0, hU0⟩ : ∃ x, W.drew = x := ⟨_, rfl⟩
  rw [hU0] at k0 ⊢
  clear hU0
  refine wpAnyH_take (i := 0) (oi := { dst := some 25, op := Op.move (Operand.tmp 5), type := 61, pos := p0, after := #[], guard := none }) (v := ?_) rfl (by kernel_rfl) (by kernel_rfl) (by kernel_rfl) (fun _ _ _ h => h) (Or.inl ⟨by rfl, ?_⟩) (by assumption) ?_
  rotate_left
  · intro V hSV
    clear hSV
    go_simp
    first | done | with_reducible rfl
  try simp only [Act.put, List.setIfInBounds_toArray, List.set_cons_zero, List.set_cons_succ]
  refine wpAnyH_take (i := 1) (oi := { dst := some 26, op := Op.move (Operand.tmp 7), type := 3, pos := p0, after := #[], guard := none }) (v := ?_) rfl (by kernel_rfl) (by kernel_rfl) (by kernel_rfl) (fun _ _ _ h => h) (Or.inl ⟨by rfl, ?_⟩) (by assumption) ?_
  rotate_left
  · intro V hSV
    clear hSV
    go_simp
    first | done | with_reducible rfl
  try simp only [Act.put, List.setIfInBounds_toArray, List.set_cons_zero, List.set_cons_succ]
  refine wpAnyH_take (i := 2) (oi := { dst := some 27, op := Op.indexAddr 61 (Operand.tmp 25) (Operand.tmp 26), type := 0, pos := p0, after := #[{ on := 0, ground := Ground.data }, { on := 1, ground := Ground.data }], guard := none }) (v := ?_) rfl (by kernel_rfl) (by kernel_rfl) (by kernel_rfl) (fun _ _ _ h => h) (Or.inl ⟨by rfl, ?_⟩) (by assumption) ?_
  rotate_left
  · intro V hSV
    clear hSV
    go_simp
    first | done | with_reducible rfl
  try simp only [Act.put, List.setIfInBounds_toArray, List.set_cons_zero, List.set_cons_succ]
  refine wpAnyH_take (i := 3) (oi := { dst := some 28, op := Op.fieldAddr 71 (Operand.tmp 27) 0, type := 0, pos := p0, after := #[{ on := 2, ground := Ground.data }], guard := none }) (v := ?_) rfl (by kernel_rfl) (by kernel_rfl) (by kernel_rfl) (fun _ _ _ h => h) (Or.inl ⟨by rfl, ?_⟩) (by assumption) ?_
  rotate_left
  · intro V hSV
    clear hSV
    go_simp
    first | done | with_reducible rfl
  try simp only [Act.put, List.setIfInBounds_toArray, List.set_cons_zero, List.set_cons_succ]
  refine wpAnyH_take (i := 4) (oi := { dst := some 29, op := Op.load 3 (Operand.tmp 28), type := 3, pos := p0, after := #[{ on := 3, ground := Ground.data }], guard := none }) (v := ?_) rfl (by kernel_rfl) (by kernel_rfl) (by kernel_rfl) (fun _ _ _ h => h) (Or.inl ⟨by rfl, ?_⟩) (by assumption) ?_
  rotate_left
  · intro V hSV
    have z := cell_old A0.out hSV
    clear hSV
    go_simp
    first | done | with_reducible rfl
  try simp only [Act.put, List.setIfInBounds_toArray, List.set_cons_zero, List.set_cons_succ]
  refine wpAnyH_take (i := 5) (oi := { dst := some 30, op := Op.move (Operand.tmp 6), type := 61, pos := p0, after := #[], guard := none }) (v := ?_) rfl (by kernel_rfl) (by kernel_rfl) (by kernel_rfl) (fun _ _ _ h => h) (Or.inl ⟨by rfl, ?_⟩) (by assumption) ?_
  rotate_left
  · intro V hSV
    clear hSV
    go_simp
    first | done | with_reducible rfl
  try simp only [Act.put, List.setIfInBounds_toArray, List.set_cons_zero, List.set_cons_succ]
  refine wpAnyH_take (i := 6) (oi := { dst := some 31, op := Op.move (Operand.tmp 7), type := 3, pos := p0, after := #[], guard := none }) (v := ?_) rfl (by kernel_rfl) (by kernel_rfl) (by kernel_rfl) (fun _ _ _ h => h) (Or.inl ⟨by rfl, ?_⟩) (by assumption) ?_
  rotate_left
  · intro V hSV
    clear hSV
    go_simp
    first | done | with_reducible rfl
  try simp only [Act.put, List.setIfInBounds_toArray, List.set_cons_zero, List.set_cons_succ]
  refine wpAnyH_take (i := 7) (oi := { dst := some 32, op := Op.indexAddr 61 (Operand.tmp 30) (Operand.tmp 31), type := 0, pos := p0, after := #[{ on := 5, ground := Ground.data }, { on := 6, ground := Ground.data }], guard := none }) (v := ?_) rfl (by kernel_rfl) (by kernel_rfl) (by kernel_rfl) (fun _ _ _ h => h) (Or.inl ⟨by rfl, ?_⟩) (by assumption) ?_
  rotate_left
  · intro V hSV
    clear hSV
    go_simp
    first | done | with_reducible rfl
  try simp only [Act.put, List.setIfInBounds_toArray, List.set_cons_zero, List.set_cons_succ]
  refine wpAnyH_take (i := 8) (oi := { dst := some 33, op := Op.fieldAddr 71 (Operand.tmp 32) 0, type := 0, pos := p0, after := #[{ on := 7, ground := Ground.data }], guard := none }) (v := ?_) rfl (by kernel_rfl) (by kernel_rfl) (by kernel_rfl) (fun _ _ _ h => h) (Or.inl ⟨by rfl, ?_⟩) (by assumption) ?_
  rotate_left
  · intro V hSV
    clear hSV
    go_simp
    first | done | with_reducible rfl
  try simp only [Act.put, List.setIfInBounds_toArray, List.set_cons_zero, List.set_cons_succ]
  refine wpAnyH_take (i := 9) (oi := { dst := some 34, op := Op.load 3 (Operand.tmp 33), type := 3, pos := p0, after := #[{ on := 8, ground := Ground.data }], guard := none }) (v := ?_) rfl (by kernel_rfl) (by kernel_rfl) (by kernel_rfl) (fun _ _ _ h => h) (Or.inl ⟨by rfl, ?_⟩) (by assumption) ?_
  rotate_left
  · intro V hSV
    have z := cell_old B0.out hSV
    clear hSV
    go_simp
    first | done | with_reducible rfl
  try simp only [Act.put, List.setIfInBounds_toArray, List.set_cons_zero, List.set_cons_succ]
  refine wpAnyH_take (i := 10) (oi := { dst := some 35, op := Op.binOp BinOp.neq 3 (Operand.tmp 29) (Operand.tmp 34) 3, type := 4, pos := p0, after := #[{ on := 4, ground := Ground.data }, { on := 9, ground := Ground.data }], guard := none }) (v := ?_) rfl (by kernel_rfl) (by kernel_rfl) (by kernel_rfl) (fun _ _ _ h => h) (Or.inl ⟨by rfl, ?_⟩) (by assumption) ?_
  rotate_left
  · intro V hSV
    clear hSV
    go_simp
    first | done | with_reducible rfl
  try simp only [Act.put, List.setIfInBounds_toArray, List.set_cons_zero, List.set_cons_succ]
  refine wpAnyH_take (i := 11) (oi := { dst := some 36, op := Op.move (Operand.tmp 35), type := 4, pos := p0, after := #[{ on := 10, ground := Ground.data }], guard := none }) (v := ?_) rfl (by kernel_rfl) (by kernel_rfl) (by kernel_rfl) (fun _ _ _ h => h) (Or.inl ⟨by rfl, ?_⟩) (by assumption) ?_
  rotate_left
  · intro V hSV
    clear hSV
    go_simp
    first | done | with_reducible rfl
  try simp only [Act.put, List.setIfInBounds_toArray, List.set_cons_zero, List.set_cons_succ]
  refine wpAnyH_take (i := 12) (oi := { dst := some 37, op := Op.move (Operand.tmp 5), type := 61, pos := p0, after := #[{ on := 11, ground := Ground.guard }], guard := some (11, false) }) (v := ?_) rfl (by kernel_rfl) (by kernel_rfl) (by kernel_rfl) (fun _ _ _ h => h) (Or.inl ⟨by rfl, ?_⟩) (by assumption) ?_
  rotate_left
  · intro V hSV
    clear hSV
    go_simp
    first | done | with_reducible rfl
  try simp only [Act.put, List.setIfInBounds_toArray, List.set_cons_zero, List.set_cons_succ]
  refine wpAnyH_take (i := 13) (oi := { dst := some 38, op := Op.move (Operand.tmp 7), type := 3, pos := p0, after := #[{ on := 11, ground := Ground.guard }], guard := some (11, false) }) (v := ?_) rfl (by kernel_rfl) (by kernel_rfl) (by kernel_rfl) (fun _ _ _ h => h) (Or.inl ⟨by rfl, ?_⟩) (by assumption) ?_
  rotate_left
  · intro V hSV
    clear hSV
    go_simp
    first | done | with_reducible rfl
  try simp only [Act.put, List.setIfInBounds_toArray, List.set_cons_zero, List.set_cons_succ]
  refine wpAnyH_take (i := 14) (oi := { dst := some 39, op := Op.indexAddr 61 (Operand.tmp 37) (Operand.tmp 38), type := 0, pos := p0, after := #[{ on := 12, ground := Ground.data }, { on := 13, ground := Ground.data }, { on := 11, ground := Ground.guard }], guard := some (11, false) }) (v := ?_) rfl (by kernel_rfl) (by kernel_rfl) (by kernel_rfl) (fun _ _ _ h => h) (Or.inl ⟨by rfl, ?_⟩) (by assumption) ?_
  rotate_left
  · intro V hSV
    clear hSV
    go_simp
    first | done | with_reducible rfl
  try simp only [Act.put, List.setIfInBounds_toArray, List.set_cons_zero, List.set_cons_succ]
  refine wpAnyH_take (i := 15) (oi := { dst := some 40, op := Op.fieldAddr 71 (Operand.tmp 39) 1, type := 0, pos := p0, after := #[{ on := 14, ground := Ground.data }, { on := 11, ground := Ground.guard }], guard := some (11, false) }) (v := ?_) rfl (by kernel_rfl) (by kernel_rfl) (by kernel_rfl) (fun _ _ _ h => h) (Or.inl ⟨by rfl, ?_⟩) (by assumption) ?_
  rotate_left
  · intro V hSV
    clear hSV
    go_simp
    first | done | with_reducible rfl
  try simp only [Act.put, List.setIfInBounds_toArray, List.set_cons_zero, List.set_cons_succ]
  refine wpAnyH_take (i := 16) (oi := { dst := some 41, op := Op.load 32 (Operand.tmp 40), type := 32, pos := p0, after := #[{ on := 15, ground := Ground.data }, { on := 11, ground := Ground.guard }], guard := some (11, false) }) (v := ?_) rfl (by kernel_rfl) (by kernel_rfl) (by kernel_rfl) (fun _ _ _ h => h) (Or.inl ⟨by rfl, ?_⟩) (by assumption) ?_
  rotate_left
  · intro V hSV
    have z1 := cell_old A1.out hSV
    have z2 := cell_old A2.out hSV
    have z3 := cell_old A3.out hSV
    have z4 := cell_old A4.out hSV
    have z5 := cell_old A5.out hSV
    have z6 := cell_old A6.out hSV
    clear hSV
    go_simp
    first | done | with_reducible rfl
  try simp only [Act.put, List.setIfInBounds_toArray, List.set_cons_zero, List.set_cons_succ]
  refine wpAnyH_take (i := 17) (oi := { dst := some 42, op := Op.move (Operand.tmp 6), type := 61, pos := p0, after := #[{ on := 11, ground := Ground.guard }], guard := some (11, false) }) (v := ?_) rfl (by kernel_rfl) (by kernel_rfl) (by kernel_rfl) (fun _ _ _ h => h) (Or.inl ⟨by rfl, ?_⟩) (by assumption) ?_
  rotate_left
  · intro V hSV
    clear hSV
    go_simp
    first | done | with_reducible rfl
  try simp only [Act.put, List.setIfInBounds_toArray, List.set_cons_zero, List.set_cons_succ]
  refine wpAnyH_take (i := 18) (oi := { dst := some 43, op := Op.move (Operand.tmp 7), type := 3, pos := p0, after := #[{ on := 11, ground := Ground.guard }], guard := some (11, false) }) (v := ?_) rfl (by kernel_rfl) (by kernel_rfl) (by kernel_rfl) (fun _ _ _ h => h) (Or.inl ⟨by rfl, ?_⟩) (by assumption) ?_
  rotate_left
  · intro V hSV
    clear hSV
    go_simp
    first | done | with_reducible rfl
  try simp only [Act.put, List.setIfInBounds_toArray, List.set_cons_zero, List.set_cons_succ]
  refine wpAnyH_take (i := 19) (oi := { dst := some 44, op := Op.indexAddr 61 (Operand.tmp 42) (Operand.tmp 43), type := 0, pos := p0, after := #[{ on := 17, ground := Ground.data }, { on := 18, ground := Ground.data }, { on := 11, ground := Ground.guard }], guard := some (11, false) }) (v := ?_) rfl (by kernel_rfl) (by kernel_rfl) (by kernel_rfl) (fun _ _ _ h => h) (Or.inl ⟨by rfl, ?_⟩) (by assumption) ?_
  rotate_left
  · intro V hSV
    clear hSV
    go_simp
    first | done | with_reducible rfl
  try simp only [Act.put, List.setIfInBounds_toArray, List.set_cons_zero, List.set_cons_succ]
  refine wpAnyH_take (i := 20) (oi := { dst := some 45, op := Op.fieldAddr 71 (Operand.tmp 44) 1, type := 0, pos := p0, after := #[{ on := 19, ground := Ground.data }, { on := 11, ground := Ground.guard }], guard := some (11, false) }) (v := ?_) rfl (by kernel_rfl) (by kernel_rfl) (by kernel_rfl) (fun _ _ _ h => h) (Or.inl ⟨by rfl, ?_⟩) (by assumption) ?_
  rotate_left
  · intro V hSV
    clear hSV
    go_simp
    first | done | with_reducible rfl
  try simp only [Act.put, List.setIfInBounds_toArray, List.set_cons_zero, List.set_cons_succ]
  refine wpAnyH_take (i := 21) (oi := { dst := some 46, op := Op.load 32 (Operand.tmp 45), type := 32, pos := p0, after := #[{ on := 20, ground := Ground.data }, { on := 11, ground := Ground.guard }], guard := some (11, false) }) (v := ?_) rfl (by kernel_rfl) (by kernel_rfl) (by kernel_rfl) (fun _ _ _ h => h) (Or.inl ⟨by rfl, ?_⟩) (by assumption) ?_
  rotate_left
  · intro V hSV
    have z1 := cell_old B1.out hSV
    have z2 := cell_old B2.out hSV
    have z3 := cell_old B3.out hSV
    have z4 := cell_old B4.out hSV
    have z5 := cell_old B5.out hSV
    have z6 := cell_old B6.out hSV
    clear hSV
    go_simp
    first | done | with_reducible rfl
  try simp only [Act.put, List.setIfInBounds_toArray, List.set_cons_zero, List.set_cons_succ]
  refine wpAnyH_ready (rs := [22]) (by kernel_rfl) (by simp) ?_
  refine AllReadyH.cons (o := { dst := some 47, op := Op.call { callee := Callee.value (Operand.func 27), args := #[Operand.tmp 41, Operand.tmp 46], argTypes := #[32, 32] }, type := 4, pos := p0, after := #[{ on := 16, ground := Ground.data }, { on := 21, ground := Ground.data }, { on := 11, ground := Ground.chain }, { on := 11, ground := Ground.guard }], guard := some (11, false) }) rfl (fun K hK => ?_) ?_
  · refine step_call2 (by rfl) (.tmp 41) (.tmp 46) 32 32 (by rfl) (by rfl) (by rfl) enter27 ?_
    have hc := same_any (HR.out.ext k0.out) (HR2.out.ext k0.out) h h
    rw [sameB_refl] at hc
    unfold pkV at hc
    refine hc.mono ?_
    clear hc
    rintro e V1 ⟨rfl, mm⟩
    refine ⟨_, rfl, ?_⟩
    have k1 := Lib.hid (k0.out.trans (mm.mono k0.out.size))
    clear mm k0
    refine hK.out _ _ k1.out (fun hHeld => ?_)
    clear hK K
    try simp only [Act.put, List.setIfInBounds_toArray, List.set_cons_zero, List.set_cons_succ]
    refine wpAnyH_take (i := 23) (oi := { dst := some 48, op := Op.unOp UnOp.not 4 (Operand.tmp 47), type := 4, pos := p0, after := #[{ on := 22, ground := Ground.data }, { on := 11, ground := Ground.guard }], guard := some (11, false) }) (v := ?_) rfl (by kernel_rfl) (by kernel_rfl) (by kernel_rfl) (fun _ _ _ h => h) (Or.inl ⟨by rfl, ?_⟩) (by assumption) ?_
    rotate_left
    · intro V hSV
      clear hSV
      go_simp
      first | done | with_reducible rfl
    try simp only [Act.put, List.setIfInBounds_toArray, List.set_cons_zero, List.set_cons_succ]
    refine wpAnyH_take (i := 24) (oi := { dst := some 49, op := Op.pick (Operand.tmp 36) (Operand.const (Value.bool true)) (Operand.tmp 48), type := 4, pos := p0, after := #[{ on := 11, ground := Ground.data }, { on := 23, ground := Ground.data }], guard := none }) (v := ?_) rfl (by kernel_rfl) (by kernel_rfl) (by kernel_rfl) (fun _ _ _ h => h) (Or.inl ⟨by rfl, ?_⟩) (by assumption) ?_
    rotate_left
    · intro V hSV
      clear hSV
      go_simp
      first | done | with_reducible rfl
    try simp only [Act.put, List.setIfInBounds_toArray, List.set_cons_zero, List.set_cons_succ]
    refine wpAnyH_done (by kernel_rfl) ?_ _
    refine NoPanic.normal ?_
    exact HQ.out _ _ _ _ _ _ _ _ _ _ _ _ _ _ _ _ _ _ _ _ _ _ _ _ _ k1.out
  exact AllReadyH.nil
set_option maxHeartbeats 8000000 in
set_option maxRecDepth 100000 in
theorem lflights_any {w : World} {n : Nat} {S : Nat → Prop} {s : NS} {r : Nat} {F : List Fate} {L : List Fl} {c : Cn} (hP : NetP w n S s) (hR : RefP w S r F L c) (he : s.A = srtL L) (hroom : s.A.length ≤ 16384) (hdat : ∀ f ∈ s.A, f.d.length ≤ 140737488355328) :
    Calls Try.prog 20 #[.pointer (some ⟨n, 0, none⟩), .pointer (some ⟨r, 0, none⟩)] w fun e w' => e = .returned (.bool true) ∧ Below w.heap.size w w' := by
  obtain ⟨fa, fn, fc, la, ln, lc, FL, hQ⟩ := hR
  have hAl : s.A.length = L.length := by rw [he]; unfold srtL; rw [srtK_len]
  have hLn : ln = L.length := by rw [← hQ.ls.len, hQ.len]
  have hrep : Hid (∀ (j : Nat) (q : FD) (f : Fl), (srtD FL)[j]? = some q → s.A[j]? = some f → RepR w q f) := Lib.hid (fun j q f hq hf => rep_srt (P := RepR w) hQ.len hQ.rep (fun q f h => h.1) j q f hq (by rw [← he]; exact hf))
  have hDl : (srtD FL).length = ln := by rw [srtD_len, hQ.ls.len]
  obtain ⟨D, hD⟩ : ∃ D, srtD FL = D := ⟨_, rfl⟩
  rw [hD] at hrep hDl
  have hpf := Lib.hid (flying_any hP hroom hdat)
  have HP := Lib.hid hP
  have HQ := Lib.hid hQ
  have hA16 := hroom
  obtain ⟨nn, hnn⟩ : ∃ x, s.A.length = x := ⟨_, rfl⟩
  have hln2 : Hid (ln = nn ∧ D.length = nn ∧ s.A.length = nn ∧ nn ≤ 16384 ∧ srtD FL = D) := Lib.hid ⟨by omega, by omega, hnn, by omega, hD⟩
  clear hP hQ he hroom hdat hAl hLn hDl hD hA16 hnn
  go_enter Try.func20, Try.ntmps20
  go_wp2_with fail
  refine hpf.out.mono ?_
  rintro e w1 ⟨⟨v, OP, rfl, hO⟩, hb⟩
  obtain ⟨xa, xc, rfl⟩ := hO.own.shape
  have hOl : OP.length = nn := by have h1 := hO.rep.len; have h2 := hln2.out.2.2.1; omega
  rw [hOl] at hO ⊢
  have hOl' := Lib.hid hOl
  clear hOl
  have OA := Lib.hid hO
  have k1 := Lib.hid hb
  have hrf := Lib.hid (rflying_any (HQ.out.tch (Tch.of_below (S := fun _ => False) hb) (fun _ _ e => e.elim) (fun _ _ e => e)) (by have h1 := hln2.out; omega))
  clear hO hb hpf
  go_wp2_with fail
  refine hrf.out.mono ?_
  rintro e w2 ⟨⟨v, rfl, ho⟩, hb⟩
  rw [hln2.out.2.2.2.2] at ho
  obtain ⟨ya, yc, rfl⟩ := ho.shape
  rw [hln2.out.2.1] at ho ⊢
  have OB := Lib.hid (ho.mono k1.out.size)
  have OA2 := Lib.hid (OA.out.ext hb)
  have k2 := Lib.hid (k1.out.trans (hb.mono k1.out.size))
  clear ho hb hrf OA k1
  have RP : Hid (∀ (j : Nat) (q : FD) (f : Fl), 0 ≤ j → OP[j]? = some q → s.A[j]? = some f → q.at_ = f.at_ ∧ q.p.h = f.h ∧ Own byteE w2 w.heap.size (dV q) f.d) := Lib.hid (fun j q f _ hq hf => by
    have h1 := OA2.out.rep.rep j q f hq hf
    refine ⟨h1.1, h1.2.1, ?_⟩
    rcases h1.2.2 with e1 | ⟨g, cap, X, e1, e2, e3⟩
    · exact .inl e1
    · refine .inr ⟨g, cap, X, e1, OA2.out.lo q (List.mem_of_getElem? hq) g (by rw [e1]; rfl), e3⟩)
  have AP : Hid (∀ (i j : Nat), i ≠ j → ∀ (p q : FD), OP[i]? = some p → OP[j]? = some q → Apt (dV p) (dV q)) := Lib.hid OA2.out.rep.ap
  have OAo := Lib.hid OA2.out.own
  clear OA2
  go_wp2_with fail
  go_loopw [7] (fun i wr => ∃ k : Nat, k ≤ nn ∧ i = .int .i64 k ∧ Hid (Own flE wr w.heap.size (.slice xa nn xc) OP) ∧ Hid (Own flE wr w.heap.size (.slice ya nn yc) D) ∧ Hid (∀ (j : Nat) (q : FD) (f : Fl), k ≤ j → OP[j]? = some q → s.A[j]? = some f → q.at_ = f.at_ ∧ q.p.h = f.h ∧ Own byteE wr w.heap.size (dV q) f.d) ∧ Hid (Below w.heap.size w wr)) (fun i _ => nn - (intOf i).toNat)
  case atStart => exact ⟨0, Nat.zero_le _, rfl, OAo, OB, RP, k2⟩
  case round =>
    have hn16 : nn ≤ 16384 := hln2.out.2.2.2.1
    clear OAo OB RP k2
    obtain ⟨k, hk, rfl, OA, OB, RP, kr⟩ := hrel
    by_cases hlt : k < nn
    case pos =>
      have hkI : (k : Int) < nn := by omega
      have hk0 : (0 : Int) ≤ k := by omega
      obtain ⟨q, hq⟩ : ∃ q, OP[k]? = some q := ⟨OP[k]'(by rw [hOl'.out]; exact hlt), List.getElem?_eq_getElem _⟩
      obtain ⟨q2, hq2⟩ : ∃ q, D[k]? = some q := ⟨D[k]'(by rw [hln2.out.2.1]; exact hlt), List.getElem?_eq_getElem _⟩
      obtain ⟨f, hf⟩ : ∃ f, s.A[k]? = some f := ⟨s.A[k]'(by rw [hln2.out.2.2.1]; exact hlt), List.getElem?_eq_getElem _⟩
      obtain ⟨e1, e2, oq⟩ := RP.out k q f (Nat.le_refl _) hq hf
      obtain ⟨e3, e4, rq⟩ := hrep.out k q2 f hq2 hf
      obtain ⟨ga, oa, rfl, a0, a1, a2, a3, a4, a5, a6⟩ := fd_cells (own_rd_at OA.out).1 hq
      obtain ⟨gb, ob, rfl, b0, b1, b2, b3, b4, b5, b6⟩ := fd_cells (own_rd_at OB.out).1 hq2
      obtain ⟨qa, h, da, dn, dc⟩ := q
      obtain ⟨qb, h2, ea, en, ec⟩ := q2
      dsimp only at e1 e2 e3 e4 a0 a1 a2 a3 a4 a5 a6 b0 b1 b2 b3 b4 b5 b6 rq
      subst e1 e2 e3 e4
      unfold dV at oq
      dsimp only at oq
      have rq2 := rq.ext kr.out
      have hen : en = dn := by rw [← rq.len, (own_rd_at oq).2]
      subst hen
      have oq' := Lib.hid oq
      have hq' := Lib.hid hq
      have rq' := Lib.hid rq2
      clear hq hq2 hf rq rq2 oq
      go_upto_region 7 with (fail)
      refine lfl_reg _ _ _ _ _ _ _ _ _ _ _ _ _ _ _ _ _ _ _ _ _ _ _ _ _ _ _ _ _ _ _ _ _ _ _ _ _ _ _ _ _ _ _ _ _ _ _ _ _ _ _ _ _ _ _ _ _ _ _ _ _ _ _ _ _ _ _ _ _ _ _ _ _ _ _ _ _ _ _ _ _ _ _ _ ga oa gb ob k nn xc yc f.h f.at_ a0 a1 a2 a3 a4 a5 a6 b0 b1 b2 b3 b4 b5 b6 (own_rd_at oq'.out).1 rq'.out hkI ?_
      intro x25 x26 x27 x28 x29 x30 x31 x32 x33 x34 x35 x36 x37 x38 x39 x40 x41 x42 x43 x44 x45 x46 x47 x48 V kV
      try dsimp only
      have OA1 := Lib.hid (OA.out.ext kV)
      have OB1 := Lib.hid (OB.out.ext kV)
      have oq1 := Lib.hid (oq'.out.ext kV)
      have K1 := Lib.hid (kr.out.trans (kV.mono kr.out.size))
      have RP1 : Hid (∀ (j : Nat) (q : FD) (f : Fl), k ≤ j → OP[j]? = some q → s.A[j]? = some f → q.at_ = f.at_ ∧ q.p.h = f.h ∧ Own byteE V w.heap.size (dV q) f.d) := Lib.hid (fun j q f hj hq hf => ⟨(RP.out j q f hj hq hf).1, (RP.out j q f hj hq hf).2.1, (RP.out j q f hj hq hf).2.2.ext kV⟩)
      have c6 := cell_old a6 kV
      clear a0 a1 a2 a3 a4 a5 a6 b0 b1 b2 b3 b4 b5 b6 OA OB RP kr kV
      have hov := Lib.hid (over_own oq1.out)
      go_wp2_with fail
      refine hov.out.mono ?_
      rintro e w9 ⟨rfl, -, hg⟩
      clear hov c6
      have OA2 := Lib.hid (own_grown OA1.out oq1.out (by decide) hg)
      have OB2 := Lib.hid (own_grown OB1.out oq1.out (by decide) hg)
      have K2 := Lib.hid (K1.out.grown hg K1.out.size (fun j hj => (oq1.out.lt j hj).1))
      have RP2 : Hid (∀ (j : Nat) (q : FD) (f : Fl), k + 1 ≤ j → OP[j]? = some q → s.A[j]? = some f → q.at_ = f.at_ ∧ q.p.h = f.h ∧ Own byteE w9 w.heap.size (dV q) f.d) := Lib.hid (fun j q f hj hq hf => ⟨(RP1.out j q f (by omega) hq hf).1, (RP1.out j q f (by omega) hq hf).2.1, (RP1.out j q f (by omega) hq hf).2.2.keep (fun b hb => hg.block b ((RP1.out j q f (by omega) hq hf).2.2.lt b hb).2 (fun e => AP.out k j (by omega) _ q hq'.out hq b e.symm hb))⟩)
      clear hg OA1 OB1 oq1 RP1 K1
      go_wp2_with fail
      go_roundw
      case rel => exact ⟨k + 1, by omega, by go_num, OA2, OB2, RP2, K2⟩
      case measure => simp [intOf]; omega
    case neg =>
      have hkI : ¬ (k : Int) < nn := by omega
      have hnx := Lib.hid (next_any (HP.out.ext kr.out))
      unfold nextS at hnx
      rcases hA : s.A with _ | ⟨f0, A⟩
      case nil =>
        have hn0 : nn = 0 := by have h1 := hln2.out.2.2.1; rw [hA] at h1; exact h1.symm
        rw [hA] at hnx
        dsimp only at hnx
        clear hA
        subst hn0
        go_wp2_with fail
        refine hnx.out.mono ?_
        rintro e w9 ⟨rfl, rfl⟩
        go_wp2_with fail
        go_ret
        exact ⟨rfl, kr.out⟩
      case cons =>
        have hn0 : 0 < nn := by have h1 := hln2.out.2.2.1; rw [hA] at h1; simp only [List.length_cons] at h1; omega
        have hn0I : (0 : Int) < nn := by omega
        rw [hA] at hnx
        dsimp only at hnx
        obtain ⟨q2, hq2⟩ : ∃ q, D[0]? = some q := ⟨D[0]'(by rw [hln2.out.2.1]; exact hn0), List.getElem?_eq_getElem _⟩
        have hat := (hrep.out 0 q2 f0 hq2 (by rw [hA]; rfl)).1
        obtain ⟨gb, ob, rfl, b0, -, -, -, -, -, -⟩ := fd_cells (own_rd_at OB.out).1 hq2
        rw [hat, Nat.zero_mul, Nat.add_zero] at b0
        clear hq2 hat hA
        go_wp2_with fail
        refine hnx.out.mono ?_
        rintro e w9 ⟨rfl, rfl⟩
        go_wp2_with fail
        go_ret
        exact ⟨rfl, kr.out⟩
end Go.Proofs.Ythdnbipfdahnlaa
