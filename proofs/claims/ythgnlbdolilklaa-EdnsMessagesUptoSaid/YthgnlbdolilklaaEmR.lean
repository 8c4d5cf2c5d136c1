/- EdnsMessages: region 11 of function 6, by itself; printed by gen_em11.py. -/
import Derived.Test.YthgnlbdolilklaaEmP
namespace Go.Proofs.Ythgnlbdolilklaa
open Go Go.RowKit
set_option maxHeartbeats 16000000 in
set_option maxRecDepth 100000 in
theorem reg11 (p0 : String) {W : World} {Q : Exit → Act → World → Prop} (t0 t1 t2 t4 t5 t6 t7 t8 t24 t25 t26 t27 t28 t29 t30 t31 t32 t33 t34 t35 t36 t37 t38 t39 t40 t41 t42 t43 t44 t45 t46 t47 t48 t49 t50 t51 t52 t53 t54 t55 t56 t57 t58 t59 t60 t61 t62 t63 t64 t65 t66 t67 t68 t69 t70 t71 t72 t73 t74 t75 t76 t77 t78 t79 t80 t81 t82 t83 t84 t85 t86 t87 t88 t89 t90 t91 t92 t93 t94 t95 t96 t97 t98 t99 t100 t101 t102 t103 t104 t105 t106 t107 t108 t109 t110 t111 t112 t113 t114 t115 t116 t117 t118 t119 t120 t121 t122 t123 t124 t125 t126 t127 t128 : Value) (g3 g9 g12 g15 g17 g19 : Nat) (is : Bool) (ee hh nn jj : Int)
 (a0 a1 a2 a3 a4 : Value) (ka : Blk W g9 24 (0, 0) [a0, a1, a2, a3, a4])
 (b0 b1 b2 b3 b4 : Value) (kb : Blk W g12 24 (0, 0) [b0, b1, b2, b3, b4])
 (c0 c1 c2 c3 c4 c5 c6 c7 c8 c9 c10 c11 c12 c13 : Value) (kc : Blk W g15 60 (0, 0) [c0, c1, c2, c3, c4, c5, c6, c7, c8, c9, c10, c11, c12, c13])
 (d0 d1 d2 d3 d4 d5 d6 d7 d8 d9 d10 d11 d12 d13 : Value) (kd : Blk W g17 60 (0, 0) [d0, d1, d2, d3, d4, d5, d6, d7, d8, d9, d10, d11, d12, d13])
 (u0 u1 u2 u3 u4 u5 u6 u7 u8 u9 u10 u11 u12 u13 : Value) (ku : Blk W g19 60 (0, 0) [u0, u1, u2, u3, u4, u5, u6, u7, u8, u9, u10, u11, u12, u13])
 (m0 m1 m2 m3 m4 m5 m6 m7 m8 m9 m10 m11 m12 m13 : Value) (km : Blk W g3 60 (0, 0) [m0, m1, m2, m3, m4, m5, m6, m7, m8, m9, m10, m11, m12, m13])
 (h16 : ∀ U, Below W.heap.size W U → Calls Try.prog 16 #[.agg #[a0, a1, a2, a3, a4], .agg #[b0, b1, b2, b3, b4]] U fun e w' => e = .returned (.bool true) ∧ Below U.heap.size U w')
 (h30 : ∀ U, Below W.heap.size W U → Calls Try.prog 30 #[.agg #[c0, c1, c2, c3, c4, c5, c6, c7, c8, c9, c10, c11, c12, c13], .agg #[d0, d1, d2, d3, d4, d5, d6, d7, d8, d9, d10, d11, d12, d13]] U fun e w' => e = .returned (.bool true) ∧ Below U.heap.size U w')
 (h31 : ∀ U, Below W.heap.size W U → Calls Try.prog 31 #[.agg #[m0, m1, m2, m3, m4, m5, m6, m7, m8, m9, m10, m11, m12, m13]] U fun e w' => ∃ v, (e = .returned v ∧ Below U.heap.size U w') ∧ (Calls Try.prog 30 #[.agg #[u0, u1, u2, u3, u4, u5, u6, u7, u8, u9, u10, u11, u12, u13], v] w' fun e w'' => e = .returned (.bool true) ∧ Below w'.heap.size w' w''))
 (hq : ∀ (x73 x74 x75 x76 x77 x78 x79 x80 x81 x82 x83 x84 x85 x86 x87 x88 x89 x90 x91 x92 x93 x94 x95 x96 x97 x98 x99 x100 x101 x102 x103 x104 x105 x106 x107 x108 x109 x110 x111 : Value) (U : World), Below W.heap.size W U → Q .normal { tmps := #[t0, t1, t2, .pointer (some ⟨g3, 0, none⟩), t4, t5, t6, t7, t8, .pointer (some ⟨g9, 0, none⟩), .bool is, .int .i64 ee, .pointer (some ⟨g12, 0, none⟩), .bool is, .int .i64 ee, .pointer (some ⟨g15, 0, none⟩), .int .i64 hh, .pointer (some ⟨g17, 0, none⟩), .int .i64 hh, .pointer (some ⟨g19, 0, none⟩), .int .i64 nn, .int .i64 jj, .int .i64 nn, .int .i64 jj, .bool true, t25, t26, t27, t28, t29, t30, t31, t32, t33, t34, t35, t36, t37, t38, t39, t40, t41, t42, t43, t44, t45, t46, t47, t48, t49, t50, t51, t52, t53, t54, t55, t56, t57, t58, t59, t60, t61, t62, t63, t64, t65, t66, t67, t68, t69, t70, t71, t72, x73, x74, x75, x76, x77, x78, x79, x80, x81, x82, x83, x84, x85, x86, x87, x88, x89, x90, x91, x92, x93, x94, x95, x96, x97, x98, x99, x100, x101, x102, x103, x104, x105, x106, x107, x108, x109, x110, x111, t112, t113, t114, t115, t116, t117, t118, t119, t120, t121, t122, t123, t124, t125, t126, t127, t128], defers := [] } U) :
 Code.wp Try.prog (Code.region 11 (#[{ dst := some 73, op := Op.load 24 (Operand.tmp 9), type := 24, pos := p0, after := #[], guard := none }, { dst := some 74, op := Op.load 24 (Operand.tmp 12), type := 24, pos := p0, after := #[], guard := none }, { dst := some 75, op := Op.call { callee := Callee.value (Operand.func 16), args := #[Operand.tmp 73, Operand.tmp 74], argTypes := #[24, 24] }, type := 4, pos := p0, after := #[{ on := 0, ground := Ground.data }, { on := 1, ground := Ground.data }], guard := none }, { dst := some 76, op := Op.move (Operand.tmp 75), type := 4, pos := p0, after := #[{ on := 2, ground := Ground.data }, { on := 2, ground := Ground.chain }], guard := none }, { dst := some 77, op := Op.move (Operand.tmp 10), type := 4, pos := p0, after := #[{ on := 3, ground := Ground.guard }], guard := some (3, true) }, { dst := some 78, op := Op.move (Operand.tmp 13), type := 4, pos := p0, after := #[{ on := 3, ground := Ground.guard }], guard := some (3, true) }, { dst := some 79, op := Op.binOp BinOp.eql 4 (Operand.tmp 77) (Operand.tmp 78) 4, type := 4, pos := p0, after := #[{ on := 4, ground := Ground.data }, { on := 5, ground := Ground.data }, { on := 3, ground := Ground.guard }], guard := some (3, true) }, { dst := some 80, op := Op.pick (Operand.tmp 76) (Operand.tmp 79) (Operand.const (Value.bool false)), type := 4, pos := p0, after := #[{ on := 3, ground := Ground.data }, { on := 6, ground := Ground.data }], guard := none }, { dst := some 81, op := Op.move (Operand.tmp 80), type := 4, pos := p0, after := #[{ on := 7, ground := Ground.data }, { on := 3, ground := Ground.chain }], guard := none }, { dst := some 82, op := Op.move (Operand.tmp 11), type := 41, pos := p0, after := #[{ on := 8, ground := Ground.guard }], guard := some (8, true) }, { dst := some 83, op := Op.move (Operand.tmp 14), type := 41, pos := p0, after := #[{ on := 8, ground := Ground.guard }], guard := some (8, true) }, { dst := some 84, op := Op.binOp BinOp.eql 41 (Operand.tmp 82) (Operand.tmp 83) 41, type := 4, pos := p0, after := #[{ on := 9, ground := Ground.data }, { on := 10, ground := Ground.data }, { on := 8, ground := Ground.guard }], guard := some (8, true) }, { dst := some 85, op := Op.pick (Operand.tmp 81) (Operand.tmp 84) (Operand.const (Value.bool false)), type := 4, pos := p0, after := #[{ on := 8, ground := Ground.data }, { on := 11, ground := Ground.data }], guard := none }, { dst := some 86, op := Op.move (Operand.tmp 85), type := 4, pos := p0, after := #[{ on := 12, ground := Ground.data }, { on := 8, ground := Ground.chain }], guard := none }, { dst := some 87, op := Op.load 60 (Operand.tmp 15), type := 60, pos := p0, after := #[{ on := 13, ground := Ground.guard }], guard := some (13, true) }, { dst := some 88, op := Op.load 60 (Operand.tmp 17), type := 60, pos := p0, after := #[{ on := 13, ground := Ground.guard }], guard := some (13, true) }, { dst := some 89, op := Op.call { callee := Callee.value (Operand.func 30), args := #[Operand.tmp 87, Operand.tmp 88], argTypes := #[60, 60] }, type := 4, pos := p0, after := #[{ on := 14, ground := Ground.data }, { on := 15, ground := Ground.data }, { on := 13, ground := Ground.chain }, { on := 13, ground := Ground.guard }], guard := some (13, true) }, { dst := some 90, op := Op.pick (Operand.tmp 86) (Operand.tmp 89) (Operand.const (Value.bool false)), type := 4, pos := p0, after := #[{ on := 13, ground := Ground.data }, { on := 16, ground := Ground.data }], guard := none }, { dst := some 91, op := Op.move (Operand.tmp 90), type := 4, pos := p0, after := #[{ on := 17, ground := Ground.data }, { on := 16, ground := Ground.chain }], guard := none }, { dst := some 92, op := Op.move (Operand.tmp 16), type := 41, pos := p0, after := #[{ on := 18, ground := Ground.guard }], guard := some (18, true) }, { dst := some 93, op := Op.move (Operand.tmp 18), type := 41, pos := p0, after := #[{ on := 18, ground := Ground.guard }], guard := some (18, true) }, { dst := some 94, op := Op.binOp BinOp.eql 41 (Operand.tmp 92) (Operand.tmp 93) 41, type := 4, pos := p0, after := #[{ on := 19, ground := Ground.data }, { on := 20, ground := Ground.data }, { on := 18, ground := Ground.guard }], guard := some (18, true) }, { dst := some 95, op := Op.pick (Operand.tmp 91) (Operand.tmp 94) (Operand.const (Value.bool false)), type := 4, pos := p0, after := #[{ on := 18, ground := Ground.data }, { on := 21, ground := Ground.data }], guard := none }, { dst := some 96, op := Op.move (Operand.tmp 95), type := 4, pos := p0, after := #[{ on := 22, ground := Ground.data }, { on := 18, ground := Ground.chain }], guard := none }, { dst := some 97, op := Op.load 60 (Operand.tmp 19), type := 60, pos := p0, after := #[{ on := 23, ground := Ground.guard }], guard := some (23, true) }, { dst := some 98, op := Op.load 60 (Operand.tmp 3), type := 60, pos := p0, after := #[{ on := 23, ground := Ground.guard }], guard := some (23, true) }, { dst := some 99, op := Op.call { callee := Callee.value (Operand.func 31), args := #[Operand.tmp 98], argTypes := #[60] }, type := 60, pos := p0, after := #[{ on := 25, ground := Ground.data }, { on := 23, ground := Ground.chain }, { on := 23, ground := Ground.guard }], guard := some (23, true) }, { dst := some 100, op := Op.call { callee := Callee.value (Operand.func 30), args := #[Operand.tmp 97, Operand.tmp 99], argTypes := #[60, 60] }, type := 4, pos := p0, after := #[{ on := 24, ground := Ground.data }, { on := 26, ground := Ground.data }, { on := 26, ground := Ground.chain }, { on := 23, ground := Ground.guard }], guard := some (23, true) }, { dst := some 101, op := Op.pick (Operand.tmp 96) (Operand.tmp 100) (Operand.const (Value.bool false)), type := 4, pos := p0, after := #[{ on := 23, ground := Ground.data }, { on := 27, ground := Ground.data }], guard := none }, { dst := some 102, op := Op.move (Operand.tmp 101), type := 4, pos := p0, after := #[{ on := 28, ground := Ground.data }, { on := 27, ground := Ground.chain }], guard := none }, { dst := some 103, op := Op.move (Operand.tmp 20), type := 3, pos := p0, after := #[{ on := 29, ground := Ground.guard }], guard := some (29, true) }, { dst := some 104, op := Op.move (Operand.tmp 22), type := 3, pos := p0, after := #[{ on := 29, ground := Ground.guard }], guard := some (29, true) }, { dst := some 105, op := Op.binOp BinOp.eql 3 (Operand.tmp 103) (Operand.tmp 104) 3, type := 4, pos := p0, after := #[{ on := 30, ground := Ground.data }, { on := 31, ground := Ground.data }, { on := 29, ground := Ground.guard }], guard := some (29, true) }, { dst := some 106, op := Op.pick (Operand.tmp 102) (Operand.tmp 105) (Operand.const (Value.bool false)), type := 4, pos := p0, after := #[{ on := 29, ground := Ground.data }, { on := 32, ground := Ground.data }], guard := none }, { dst := some 107, op := Op.move (Operand.tmp 106), type := 4, pos := p0, after := #[{ on := 33, ground := Ground.data }, { on := 29, ground := Ground.chain }], guard := none }, { dst := some 108, op := Op.move (Operand.tmp 21), type := 41, pos := p0, after := #[{ on := 34, ground := Ground.guard }], guard := some (34, true) }, { dst := some 109, op := Op.move (Operand.tmp 23), type := 41, pos := p0, after := #[{ on := 34, ground := Ground.guard }], guard := some (34, true) }, { dst := some 110, op := Op.binOp BinOp.eql 41 (Operand.tmp 108) (Operand.tmp 109) 41, type := 4, pos := p0, after := #[{ on := 35, ground := Ground.data }, { on := 36, ground := Ground.data }, { on := 34, ground := Ground.guard }], guard := some (34, true) }, { dst := some 111, op := Op.pick (Operand.tmp 107) (Operand.tmp 110) (Operand.const (Value.bool false)), type := 4, pos := p0, after := #[{ on := 34, ground := Ground.data }, { on := 37, ground := Ground.data }], guard := none }, { dst := some 24, op := Op.assign (Operand.tmp 111), type := 4, pos := p0, after := #[{ on := 38, ground := Ground.data }, { on := 34, ground := Ground.chain }, { on := 0, ground := Ground.phase }, { on := 1, ground := Ground.phase }, { on := 2, ground := Ground.phase }, { on := 3, ground := Ground.phase }, { on := 4, ground := Ground.phase }, { on := 5, ground := Ground.phase }, { on := 6, ground := Ground.phase }, { on := 7, ground := Ground.phase }, { on := 8, ground := Ground.phase }, { on := 9, ground := Ground.phase }, { on := 10, ground := Ground.phase }, { on := 11, ground := Ground.phase }, { on := 12, ground := Ground.phase }, { on := 13, ground := Ground.phase }, { on := 14, ground := Ground.phase }, { on := 15, ground := Ground.phase }, { on := 16, ground := Ground.phase }, { on := 17, ground := Ground.phase }, { on := 18, ground := Ground.phase }, { on := 19, ground := Ground.phase }, { on := 20, ground := Ground.phase }, { on := 21, ground := Ground.phase }, { on := 22, ground := Ground.phase }, { on := 23, ground := Ground.phase }, { on := 24, ground := Ground.phase }, { on := 25, ground := Ground.phase }, { on := 26, ground := Ground.phase }, { on := 27, ground := Ground.phase }, { on := 28, ground := Ground.phase }, { on := 29, ground := Ground.phase }, { on := 30, ground := Ground.phase }, { on := 31, ground := Ground.phase }, { on := 32, ground := Ground.phase }, { on := 33, ground := Ground.phase }, { on := 34, ground := Ground.phase }, { on := 35, ground := Ground.phase }, { on := 36, ground := Ground.phase }, { on := 37, ground := Ground.phase }, { on := 38, ground := Ground.phase }], guard := none }] : Array Oper) true) Q { tmps := #[t0, t1, t2, .pointer (some ⟨g3, 0, none⟩), t4, t5, t6, t7, t8, .pointer (some ⟨g9, 0, none⟩), .bool is, .int .i64 ee, .pointer (some ⟨g12, 0, none⟩), .bool is, .int .i64 ee, .pointer (some ⟨g15, 0, none⟩), .int .i64 hh, .pointer (some ⟨g17, 0, none⟩), .int .i64 hh, .pointer (some ⟨g19, 0, none⟩), .int .i64 nn, .int .i64 jj, .int .i64 nn, .int .i64 jj, t24, t25, t26, t27, t28, t29, t30, t31, t32, t33, t34, t35, t36, t37, t38, t39, t40, t41, t42, t43, t44, t45, t46, t47, t48, t49, t50, t51, t52, t53, t54, t55, t56, t57, t58, t59, t60, t61, t62, t63, t64, t65, t66, t67, t68, t69, t70, t71, t72, t73, t74, t75, t76, t77, t78, t79, t80, t81, t82, t83, t84, t85, t86, t87, t88, t89, t90, t91, t92, t93, t94, t95, t96, t97, t98, t99, t100, t101, t102, t103, t104, t105, t106, t107, t108, t109, t110, t111, t112, t113, t114, t115, t116, t117, t118, t119, t120, t121, t122, t123, t124, t125, t126, t127, t128], defers := [] } W := by
 have HQ := Lib.hid hq
 have H16 := Lib.hid h16
 have H30 := Lib.hid h30
 have H31 := Lib.hid h31
 clear hq h16 h30 h31
 have Ka := Lib.hid ka
 clear ka
 have Kb := Lib.hid kb
 clear kb
 have Kc := Lib.hid kc
 clear kc
 have Kd := Lib.hid kd
 clear kd
 have Ku := Lib.hid ku
 clear ku
 have Km := Lib.hid km
 clear km
 have k0 : Hid (Below W.heap.size W W.drew) := Lib.hid (Below.refl _ _).drew
 refine wp_region_noPanic ?_
 refine wp_region_held_drew (S := fun V => Below W.heap.size W V) (by kernel_rfl) k0.out (fun hHeld => ?_)
 clear hHeld
 obtain ⟨U0, hU0⟩ : ∃ x, W.drew = x := ⟨_, rfl⟩
 rw [hU0] at k0 ⊢
 clear hU0
 refine tkz 0 ({ dst := some 73, op := Op.load 24 (Operand.tmp 9), type := 24, pos := p0, after := #[], guard := none }) ?_ rfl ?_ ?_
 rotate_left
 ·intro V hSV
  have z0 : V.cell? ⟨g9, 0, none⟩ = some (a0) := ((Ka.out.below hSV Ka.out.lt).cell 0).trans rfl
  have z1 : V.cell? ⟨g9, 1, none⟩ = some (a1) := ((Ka.out.below hSV Ka.out.lt).cell 1).trans rfl
  have z2 : V.cell? ⟨g9, 2, none⟩ = some (a2) := ((Ka.out.below hSV Ka.out.lt).cell 2).trans rfl
  have z3 : V.cell? ⟨g9, 3, none⟩ = some (a3) := ((Ka.out.below hSV Ka.out.lt).cell 3).trans rfl
  have z4 : V.cell? ⟨g9, 4, none⟩ = some (a4) := ((Ka.out.below hSV Ka.out.lt).cell 4).trans rfl
  clear hSV
  go_simp
  first | done | with_reducible rfl
 try simp only [pz0, pz2, pz3, pz4]
 refine tkz 1 ({ dst := some 74, op := Op.load 24 (Operand.tmp 12), type := 24, pos := p0, after := #[], guard := none }) ?_ rfl ?_ ?_
 rotate_left
 ·intro V hSV
  have z0 : V.cell? ⟨g12, 0, none⟩ = some (b0) := ((Kb.out.below hSV Kb.out.lt).cell 0).trans rfl
  have z1 : V.cell? ⟨g12, 1, none⟩ = some (b1) := ((Kb.out.below hSV Kb.out.lt).cell 1).trans rfl
  have z2 : V.cell? ⟨g12, 2, none⟩ = some (b2) := ((Kb.out.below hSV Kb.out.lt).cell 2).trans rfl
  have z3 : V.cell? ⟨g12, 3, none⟩ = some (b3) := ((Kb.out.below hSV Kb.out.lt).cell 3).trans rfl
  have z4 : V.cell? ⟨g12, 4, none⟩ = some (b4) := ((Kb.out.below hSV Kb.out.lt).cell 4).trans rfl
  clear hSV
  go_simp
  first | done | with_reducible rfl
 try simp only [pz0, pz2, pz3, pz4]
 refine wpAnyH_ready (rs := [2]) (by kernel_rfl) (by simp) ?_
 refine AllReadyH.cons (o := { dst := some 75, op := Op.call { callee := Callee.value (Operand.func 16), args := #[Operand.tmp 73, Operand.tmp 74], argTypes := #[24, 24] }, type := 4, pos := p0, after := #[{ on := 0, ground := Ground.data }, { on := 1, ground := Ground.data }], guard := none }) rfl (fun K hK => ?_) AllReadyH.nil
 refine step_call2 (by rfl) (.tmp 73) (.tmp 74) 24 24 (by rfl) (by rfl) (by rfl) enter16 ?_
 refine (H16.out _ k0.out).mono ?_
 rintro e U1 ⟨rfl, mm⟩
 refine ⟨_, rfl, ?_⟩
 have kn : Below W.heap.size W _ := k0.out.trans (mm.mono k0.out.size)
 clear mm
 have k1 := Lib.hid kn
 clear kn k0
 refine hK.out _ _ k1.out (fun hHeld => ?_)
 clear hK K
 try simp only [pz0, pz2, pz3, pz4]
 refine tkz 3 ({ dst := some 76, op := Op.move (Operand.tmp 75), type := 4, pos := p0, after := #[{ on := 2, ground := Ground.data }, { on := 2, ground := Ground.chain }], guard := none }) ?_ rfl ?_ ?_
 rotate_left
 ·intro V hSV
  clear hSV
  go_simp
  first | done | with_reducible rfl
 try simp only [pz0, pz2, pz3, pz4]
 refine tkz 4 ({ dst := some 77, op := Op.move (Operand.tmp 10), type := 4, pos := p0, after := #[{ on := 3, ground := Ground.guard }], guard := some (3, true) }) ?_ rfl ?_ ?_
 rotate_left
 ·intro V hSV
  clear hSV
  go_simp
  first | done | with_reducible rfl
 try simp only [pz0, pz2, pz3, pz4]
 refine tkz 5 ({ dst := some 78, op := Op.move (Operand.tmp 13), type := 4, pos := p0, after := #[{ on := 3, ground := Ground.guard }], guard := some (3, true) }) ?_ rfl ?_ ?_
 rotate_left
 ·intro V hSV
  clear hSV
  go_simp
  first | done | with_reducible rfl
 try simp only [pz0, pz2, pz3, pz4]
 refine tkz 6 ({ dst := some 79, op := Op.binOp BinOp.eql 4 (Operand.tmp 77) (Operand.tmp 78) 4, type := 4, pos := p0, after := #[{ on := 4, ground := Ground.data }, { on := 5, ground := Ground.data }, { on := 3, ground := Ground.guard }], guard := some (3, true) }) ?_ rfl ?_ ?_
 rotate_left
 ·intro V hSV
  clear hSV
  go_simp
  first | done | with_reducible rfl
 try simp only [pz0, pz2, pz3, pz4]
 refine tkz 7 ({ dst := some 80, op := Op.pick (Operand.tmp 76) (Operand.tmp 79) (Operand.const (Value.bool false)), type := 4, pos := p0, after := #[{ on := 3, ground := Ground.data }, { on := 6, ground := Ground.data }], guard := none }) ?_ rfl ?_ ?_
 rotate_left
 ·intro V hSV
  clear hSV
  go_simp
  first | done | with_reducible rfl
 try simp only [pz0, pz2, pz3, pz4]
 refine tkz 8 ({ dst := some 81, op := Op.move (Operand.tmp 80), type := 4, pos := p0, after := #[{ on := 7, ground := Ground.data }, { on := 3, ground := Ground.chain }], guard := none }) ?_ rfl ?_ ?_
 rotate_left
 ·intro V hSV
  clear hSV
  go_simp
  first | done | with_reducible rfl
 try simp only [pz0, pz2, pz3, pz4]
 refine tkz 9 ({ dst := some 82, op := Op.move (Operand.tmp 11), type := 41, pos := p0, after := #[{ on := 8, ground := Ground.guard }], guard := some (8, true) }) ?_ rfl ?_ ?_
 rotate_left
 ·intro V hSV
  clear hSV
  go_simp
  first | done | with_reducible rfl
 try simp only [pz0, pz2, pz3, pz4]
 refine tkz 10 ({ dst := some 83, op := Op.move (Operand.tmp 14), type := 41, pos := p0, after := #[{ on := 8, ground := Ground.guard }], guard := some (8, true) }) ?_ rfl ?_ ?_
 rotate_left
 ·intro V hSV
  clear hSV
  go_simp
  first | done | with_reducible rfl
 try simp only [pz0, pz2, pz3, pz4]
 refine tkz 11 ({ dst := some 84, op := Op.binOp BinOp.eql 41 (Operand.tmp 82) (Operand.tmp 83) 41, type := 4, pos := p0, after := #[{ on := 9, ground := Ground.data }, { on := 10, ground := Ground.data }, { on := 8, ground := Ground.guard }], guard := some (8, true) }) ?_ rfl ?_ ?_
 rotate_left
 ·intro V hSV
  clear hSV
  go_simp
  first | done | with_reducible rfl
 try simp only [pz0, pz2, pz3, pz4]
 refine tkz 12 ({ dst := some 85, op := Op.pick (Operand.tmp 81) (Operand.tmp 84) (Operand.const (Value.bool false)), type := 4, pos := p0, after := #[{ on := 8, ground := Ground.data }, { on := 11, ground := Ground.data }], guard := none }) ?_ rfl ?_ ?_
 rotate_left
 ·intro V hSV
  clear hSV
  go_simp
  first | done | with_reducible rfl
 try simp only [pz0, pz2, pz3, pz4]
 refine tkz 13 ({ dst := some 86, op := Op.move (Operand.tmp 85), type := 4, pos := p0, after := #[{ on := 12, ground := Ground.data }, { on := 8, ground := Ground.chain }], guard := none }) ?_ rfl ?_ ?_
 rotate_left
 ·intro V hSV
  clear hSV
  go_simp
  first | done | with_reducible rfl
 try simp only [pz0, pz2, pz3, pz4]
 refine tkz 14 ({ dst := some 87, op := Op.load 60 (Operand.tmp 15), type := 60, pos := p0, after := #[{ on := 13, ground := Ground.guard }], guard := some (13, true) }) ?_ rfl ?_ ?_
 rotate_left
 ·intro V hSV
  have z0 : V.cell? ⟨g15, 0, none⟩ = some (c0) := ((Kc.out.below hSV Kc.out.lt).cell 0).trans rfl
  have z1 : V.cell? ⟨g15, 1, none⟩ = some (c1) := ((Kc.out.below hSV Kc.out.lt).cell 1).trans rfl
  have z2 : V.cell? ⟨g15, 2, none⟩ = some (c2) := ((Kc.out.below hSV Kc.out.lt).cell 2).trans rfl
  have z3 : V.cell? ⟨g15, 3, none⟩ = some (c3) := ((Kc.out.below hSV Kc.out.lt).cell 3).trans rfl
  have z4 : V.cell? ⟨g15, 4, none⟩ = some (c4) := ((Kc.out.below hSV Kc.out.lt).cell 4).trans rfl
  have z5 : V.cell? ⟨g15, 5, none⟩ = some (c5) := ((Kc.out.below hSV Kc.out.lt).cell 5).trans rfl
  have z6 : V.cell? ⟨g15, 6, none⟩ = some (c6) := ((Kc.out.below hSV Kc.out.lt).cell 6).trans rfl
  have z7 : V.cell? ⟨g15, 7, none⟩ = some (c7) := ((Kc.out.below hSV Kc.out.lt).cell 7).trans rfl
  have z8 : V.cell? ⟨g15, 8, none⟩ = some (c8) := ((Kc.out.below hSV Kc.out.lt).cell 8).trans rfl
  have z9 : V.cell? ⟨g15, 9, none⟩ = some (c9) := ((Kc.out.below hSV Kc.out.lt).cell 9).trans rfl
  have z10 : V.cell? ⟨g15, 10, none⟩ = some (c10) := ((Kc.out.below hSV Kc.out.lt).cell 10).trans rfl
  have z11 : V.cell? ⟨g15, 11, none⟩ = some (c11) := ((Kc.out.below hSV Kc.out.lt).cell 11).trans rfl
  have z12 : V.cell? ⟨g15, 12, none⟩ = some (c12) := ((Kc.out.below hSV Kc.out.lt).cell 12).trans rfl
  have z13 : V.cell? ⟨g15, 13, none⟩ = some (c13) := ((Kc.out.below hSV Kc.out.lt).cell 13).trans rfl
  clear hSV
  go_simp
  first | done | with_reducible rfl
 try simp only [pz0, pz2, pz3, pz4]
 refine tkz 15 ({ dst := some 88, op := Op.load 60 (Operand.tmp 17), type := 60, pos := p0, after := #[{ on := 13, ground := Ground.guard }], guard := some (13, true) }) ?_ rfl ?_ ?_
 rotate_left
 ·intro V hSV
  have z0 : V.cell? ⟨g17, 0, none⟩ = some (d0) := ((Kd.out.below hSV Kd.out.lt).cell 0).trans rfl
  have z1 : V.cell? ⟨g17, 1, none⟩ = some (d1) := ((Kd.out.below hSV Kd.out.lt).cell 1).trans rfl
  have z2 : V.cell? ⟨g17, 2, none⟩ = some (d2) := ((Kd.out.below hSV Kd.out.lt).cell 2).trans rfl
  have z3 : V.cell? ⟨g17, 3, none⟩ = some (d3) := ((Kd.out.below hSV Kd.out.lt).cell 3).trans rfl
  have z4 : V.cell? ⟨g17, 4, none⟩ = some (d4) := ((Kd.out.below hSV Kd.out.lt).cell 4).trans rfl
  have z5 : V.cell? ⟨g17, 5, none⟩ = some (d5) := ((Kd.out.below hSV Kd.out.lt).cell 5).trans rfl
  have z6 : V.cell? ⟨g17, 6, none⟩ = some (d6) := ((Kd.out.below hSV Kd.out.lt).cell 6).trans rfl
  have z7 : V.cell? ⟨g17, 7, none⟩ = some (d7) := ((Kd.out.below hSV Kd.out.lt).cell 7).trans rfl
  have z8 : V.cell? ⟨g17, 8, none⟩ = some (d8) := ((Kd.out.below hSV Kd.out.lt).cell 8).trans rfl
  have z9 : V.cell? ⟨g17, 9, none⟩ = some (d9) := ((Kd.out.below hSV Kd.out.lt).cell 9).trans rfl
  have z10 : V.cell? ⟨g17, 10, none⟩ = some (d10) := ((Kd.out.below hSV Kd.out.lt).cell 10).trans rfl
  have z11 : V.cell? ⟨g17, 11, none⟩ = some (d11) := ((Kd.out.below hSV Kd.out.lt).cell 11).trans rfl
  have z12 : V.cell? ⟨g17, 12, none⟩ = some (d12) := ((Kd.out.below hSV Kd.out.lt).cell 12).trans rfl
  have z13 : V.cell? ⟨g17, 13, none⟩ = some (d13) := ((Kd.out.below hSV Kd.out.lt).cell 13).trans rfl
  clear hSV
  go_simp
  first | done | with_reducible rfl
 try simp only [pz0, pz2, pz3, pz4]
 refine wpAnyH_ready (rs := [16]) (by kernel_rfl) (by simp) ?_
 refine AllReadyH.cons (o := { dst := some 89, op := Op.call { callee := Callee.value (Operand.func 30), args := #[Operand.tmp 87, Operand.tmp 88], argTypes := #[60, 60] }, type := 4, pos := p0, after := #[{ on := 14, ground := Ground.data }, { on := 15, ground := Ground.data }, { on := 13, ground := Ground.chain }, { on := 13, ground := Ground.guard }], guard := some (13, true) }) rfl (fun K hK => ?_) AllReadyH.nil
 refine step_call2 (by rfl) (.tmp 87) (.tmp 88) 60 60 (by rfl) (by rfl) (by rfl) enter30 ?_
 refine (H30.out _ k1.out).mono ?_
 rintro e U2 ⟨rfl, mm⟩
 refine ⟨_, rfl, ?_⟩
 have kn : Below W.heap.size W _ := k1.out.trans (mm.mono k1.out.size)
 clear mm
 have k2 := Lib.hid kn
 clear kn k1
 refine hK.out _ _ k2.out (fun hHeld => ?_)
 clear hK K
 try simp only [pz0, pz2, pz3, pz4]
 refine tkz 17 ({ dst := some 90, op := Op.pick (Operand.tmp 86) (Operand.tmp 89) (Operand.const (Value.bool false)), type := 4, pos := p0, after := #[{ on := 13, ground := Ground.data }, { on := 16, ground := Ground.data }], guard := none }) ?_ rfl ?_ ?_
 rotate_left
 ·intro V hSV
  clear hSV
  go_simp
  first | done | with_reducible rfl
 try simp only [pz0, pz2, pz3, pz4]
 refine tkz 18 ({ dst := some 91, op := Op.move (Operand.tmp 90), type := 4, pos := p0, after := #[{ on := 17, ground := Ground.data }, { on := 16, ground := Ground.chain }], guard := none }) ?_ rfl ?_ ?_
 rotate_left
 ·intro V hSV
  clear hSV
  go_simp
  first | done | with_reducible rfl
 try simp only [pz0, pz2, pz3, pz4]
 refine tkz 19 ({ dst := some 92, op := Op.move (Operand.tmp 16), type := 41, pos := p0, after := #[{ on := 18, ground := Ground.guard }], guard := some (18, true) }) ?_ rfl ?_ ?_
 rotate_left
 ·intro V hSV
  clear hSV
  go_simp
  first | done | with_reducible rfl
 try simp only [pz0, pz2, pz3, pz4]
 refine tkz 20 ({ dst := some 93, op := Op.move (Operand.tmp 18), type := 41, pos := p0, after := #[{ on := 18, ground := Ground.guard }], guard := some (18, true) }) ?_ rfl ?_ ?_
 rotate_left
 ·intro V hSV
  clear hSV
  go_simp
  first | done | with_reducible rfl
 try simp only [pz0, pz2, pz3, pz4]
 refine tkz 21 ({ dst := some 94, op := Op.binOp BinOp.eql 41 (Operand.tmp 92) (Operand.tmp 93) 41, type := 4, pos := p0, after := #[{ on := 19, ground := Ground.data }, { on := 20, ground := Ground.data }, { on := 18, ground := Ground.guard }], guard := some (18, true) }) ?_ rfl ?_ ?_
 rotate_left
 ·intro V hSV
  clear hSV
  go_simp
  first | done | with_reducible rfl
 try simp only [pz0, pz2, pz3, pz4]
 refine tkz 22 ({ dst := some 95, op := Op.pick (Operand.tmp 91) (Operand.tmp 94) (Operand.const (Value.bool false)), type := 4, pos := p0, after := #[{ on := 18, ground := Ground.data }, { on := 21, ground := Ground.data }], guard := none }) ?_ rfl ?_ ?_
 rotate_left
 ·intro V hSV
  clear hSV
  go_simp
  first | done | with_reducible rfl
 try simp only [pz0, pz2, pz3, pz4]
 refine tkz 23 ({ dst := some 96, op := Op.move (Operand.tmp 95), type := 4, pos := p0, after := #[{ on := 22, ground := Ground.data }, { on := 18, ground := Ground.chain }], guard := none }) ?_ rfl ?_ ?_
 rotate_left
 ·intro V hSV
  clear hSV
  go_simp
  first | done | with_reducible rfl
 try simp only [pz0, pz2, pz3, pz4]
 refine tkz 24 ({ dst := some 97, op := Op.load 60 (Operand.tmp 19), type := 60, pos := p0, after := #[{ on := 23, ground := Ground.guard }], guard := some (23, true) }) ?_ rfl ?_ ?_
 rotate_left
 ·intro V hSV
  have z0 : V.cell? ⟨g19, 0, none⟩ = some (u0) := ((Ku.out.below hSV Ku.out.lt).cell 0).trans rfl
  have z1 : V.cell? ⟨g19, 1, none⟩ = some (u1) := ((Ku.out.below hSV Ku.out.lt).cell 1).trans rfl
  have z2 : V.cell? ⟨g19, 2, none⟩ = some (u2) := ((Ku.out.below hSV Ku.out.lt).cell 2).trans rfl
  have z3 : V.cell? ⟨g19, 3, none⟩ = some (u3) := ((Ku.out.below hSV Ku.out.lt).cell 3).trans rfl
  have z4 : V.cell? ⟨g19, 4, none⟩ = some (u4) := ((Ku.out.below hSV Ku.out.lt).cell 4).trans rfl
  have z5 : V.cell? ⟨g19, 5, none⟩ = some (u5) := ((Ku.out.below hSV Ku.out.lt).cell 5).trans rfl
  have z6 : V.cell? ⟨g19, 6, none⟩ = some (u6) := ((Ku.out.below hSV Ku.out.lt).cell 6).trans rfl
  have z7 : V.cell? ⟨g19, 7, none⟩ = some (u7) := ((Ku.out.below hSV Ku.out.lt).cell 7).trans rfl
  have z8 : V.cell? ⟨g19, 8, none⟩ = some (u8) := ((Ku.out.below hSV Ku.out.lt).cell 8).trans rfl
  have z9 : V.cell? ⟨g19, 9, none⟩ = some (u9) := ((Ku.out.below hSV Ku.out.lt).cell 9).trans rfl
  have z10 : V.cell? ⟨g19, 10, none⟩ = some (u10) := ((Ku.out.below hSV Ku.out.lt).cell 10).trans rfl
  have z11 : V.cell? ⟨g19, 11, none⟩ = some (u11) := ((Ku.out.below hSV Ku.out.lt).cell 11).trans rfl
  have z12 : V.cell? ⟨g19, 12, none⟩ = some (u12) := ((Ku.out.below hSV Ku.out.lt).cell 12).trans rfl
  have z13 : V.cell? ⟨g19, 13, none⟩ = some (u13) := ((Ku.out.below hSV Ku.out.lt).cell 13).trans rfl
  clear hSV
  go_simp
  first | done | with_reducible rfl
 try simp only [pz0, pz2, pz3, pz4]
 refine tkz 25 ({ dst := some 98, op := Op.load 60 (Operand.tmp 3), type := 60, pos := p0, after := #[{ on := 23, ground := Ground.guard }], guard := some (23, true) }) ?_ rfl ?_ ?_
 rotate_left
 ·intro V hSV
  have z0 : V.cell? ⟨g3, 0, none⟩ = some (m0) := ((Km.out.below hSV Km.out.lt).cell 0).trans rfl
  have z1 : V.cell? ⟨g3, 1, none⟩ = some (m1) := ((Km.out.below hSV Km.out.lt).cell 1).trans rfl
  have z2 : V.cell? ⟨g3, 2, none⟩ = some (m2) := ((Km.out.below hSV Km.out.lt).cell 2).trans rfl
  have z3 : V.cell? ⟨g3, 3, none⟩ = some (m3) := ((Km.out.below hSV Km.out.lt).cell 3).trans rfl
  have z4 : V.cell? ⟨g3, 4, none⟩ = some (m4) := ((Km.out.below hSV Km.out.lt).cell 4).trans rfl
  have z5 : V.cell? ⟨g3, 5, none⟩ = some (m5) := ((Km.out.below hSV Km.out.lt).cell 5).trans rfl
  have z6 : V.cell? ⟨g3, 6, none⟩ = some (m6) := ((Km.out.below hSV Km.out.lt).cell 6).trans rfl
  have z7 : V.cell? ⟨g3, 7, none⟩ = some (m7) := ((Km.out.below hSV Km.out.lt).cell 7).trans rfl
  have z8 : V.cell? ⟨g3, 8, none⟩ = some (m8) := ((Km.out.below hSV Km.out.lt).cell 8).trans rfl
  have z9 : V.cell? ⟨g3, 9, none⟩ = some (m9) := ((Km.out.below hSV Km.out.lt).cell 9).trans rfl
  have z10 : V.cell? ⟨g3, 10, none⟩ = some (m10) := ((Km.out.below hSV Km.out.lt).cell 10).trans rfl
  have z11 : V.cell? ⟨g3, 11, none⟩ = some (m11) := ((Km.out.below hSV Km.out.lt).cell 11).trans rfl
  have z12 : V.cell? ⟨g3, 12, none⟩ = some (m12) := ((Km.out.below hSV Km.out.lt).cell 12).trans rfl
  have z13 : V.cell? ⟨g3, 13, none⟩ = some (m13) := ((Km.out.below hSV Km.out.lt).cell 13).trans rfl
  clear hSV
  go_simp
  first | done | with_reducible rfl
 try simp only [pz0, pz2, pz3, pz4]
 refine wpAnyH_ready (rs := [26]) (by kernel_rfl) (by simp) ?_
 refine AllReadyH.cons (o := { dst := some 99, op := Op.call { callee := Callee.value (Operand.func 31), args := #[Operand.tmp 98], argTypes := #[60] }, type := 60, pos := p0, after := #[{ on := 25, ground := Ground.data }, { on := 23, ground := Ground.chain }, { on := 23, ground := Ground.guard }], guard := some (23, true) }) rfl (fun K hK => ?_) AllReadyH.nil
 refine step_call1 (by rfl) (.tmp 98) 60 (by rfl) (by rfl) enter31 ?_
 refine (H31.out _ k2.out).mono ?_
 rintro e U3 ⟨v31, ⟨rfl, mm⟩, hc30⟩
 have C30 := Lib.hid hc30
 clear hc30
 refine ⟨_, rfl, ?_⟩
 have kn : Below W.heap.size W _ := k2.out.trans (mm.mono k2.out.size)
 clear mm
 have k3 := Lib.hid kn
 clear kn k2
 refine hK.out _ _ k3.out (fun hHeld => ?_)
 clear hK K
 try simp only [pz0, pz2, pz3, pz4]
 refine wpAnyH_ready (rs := [27]) (by kernel_rfl) (by simp) ?_
 refine AllReadyH.cons (o := { dst := some 100, op := Op.call { callee := Callee.value (Operand.func 30), args := #[Operand.tmp 97, Operand.tmp 99], argTypes := #[60, 60] }, type := 4, pos := p0, after := #[{ on := 24, ground := Ground.data }, { on := 26, ground := Ground.data }, { on := 26, ground := Ground.chain }, { on := 23, ground := Ground.guard }], guard := some (23, true) }) rfl (fun K hK => ?_) AllReadyH.nil
 refine step_call2 (by rfl) (.tmp 97) (.tmp 99) 60 60 (by rfl) (by rfl) (by rfl) enter30 ?_
 refine (C30.out).mono ?_
 rintro e U4 ⟨rfl, mm⟩
 refine ⟨_, rfl, ?_⟩
 have kn : Below W.heap.size W _ := k3.out.trans (mm.mono k3.out.size)
 clear mm
 have k4 := Lib.hid kn
 clear kn k3
 refine hK.out _ _ k4.out (fun hHeld => ?_)
 clear hK K
 try simp only [pz0, pz2, pz3, pz4]
 refine tkz 28 ({ dst := some 101, op := Op.pick (Operand.tmp 96) (Operand.tmp 100) (Operand.const (Value.bool false)), type := 4, pos := p0, after := #[{ on := 23, ground := Ground.data }, { on := 27, ground := Ground.data }], guard := none }) ?_ rfl ?_ ?_
 rotate_left
 ·intro V hSV
  clear hSV
  go_simp
  first | done | with_reducible rfl
 try simp only [pz0, pz2, pz3, pz4]
 refine tkz 29 ({ dst := some 102, op := Op.move (Operand.tmp 101), type := 4, pos := p0, after := #[{ on := 28, ground := Ground.data }, { on := 27, ground := Ground.chain }], guard := none }) ?_ rfl ?_ ?_
 rotate_left
 ·intro V hSV
  clear hSV
  go_simp
  first | done | with_reducible rfl
 try simp only [pz0, pz2, pz3, pz4]
 refine tkz 30 ({ dst := some 103, op := Op.move (Operand.tmp 20), type := 3, pos := p0, after := #[{ on := 29, ground := Ground.guard }], guard := some (29, true) }) ?_ rfl ?_ ?_
 rotate_left
 ·intro V hSV
  clear hSV
  go_simp
  first | done | with_reducible rfl
 try simp only [pz0, pz2, pz3, pz4]
 refine tkz 31 ({ dst := some 104, op := Op.move (Operand.tmp 22), type := 3, pos := p0, after := #[{ on := 29, ground := Ground.guard }], guard := some (29, true) }) ?_ rfl ?_ ?_
 rotate_left
 ·intro V hSV
  clear hSV
  go_simp
  first | done | with_reducible rfl
 try simp only [pz0, pz2, pz3, pz4]
 refine tkz 32 ({ dst := some 105, op := Op.binOp BinOp.eql 3 (Operand.tmp 103) (Operand.tmp 104) 3, type := 4, pos := p0, after := #[{ on := 30, ground := Ground.data }, { on := 31, ground := Ground.data }, { on := 29, ground := Ground.guard }], guard := some (29, true) }) ?_ rfl ?_ ?_
 rotate_left
 ·intro V hSV
  clear hSV
  go_simp
  first | done | with_reducible rfl
 try simp only [pz0, pz2, pz3, pz4]
 refine tkz 33 ({ dst := some 106, op := Op.pick (Operand.tmp 102) (Operand.tmp 105) (Operand.const (Value.bool false)), type := 4, pos := p0, after := #[{ on := 29, ground := Ground.data }, { on := 32, ground := Ground.data }], guard := none }) ?_ rfl ?_ ?_
 rotate_left
 ·intro V hSV
  clear hSV
  go_simp
  first | done | with_reducible rfl
 try simp only [pz0, pz2, pz3, pz4]
 refine tkz 34 ({ dst := some 107, op := Op.move (Operand.tmp 106), type := 4, pos := p0, after := #[{ on := 33, ground := Ground.data }, { on := 29, ground := Ground.chain }], guard := none }) ?_ rfl ?_ ?_
 rotate_left
 ·intro V hSV
  clear hSV
  go_simp
  first | done | with_reducible rfl
 try simp only [pz0, pz2, pz3, pz4]
 refine tkz 35 ({ dst := some 108, op := Op.move (Operand.tmp 21), type := 41, pos := p0, after := #[{ on := 34, ground := Ground.guard }], guard := some (34, true) }) ?_ rfl ?_ ?_
 rotate_left
 ·intro V hSV
  clear hSV
  go_simp
  first | done | with_reducible rfl
 try simp only [pz0, pz2, pz3, pz4]
 refine tkz 36 ({ dst := some 109, op := Op.move (Operand.tmp 23), type := 41, pos := p0, after := #[{ on := 34, ground := Ground.guard }], guard := some (34, true) }) ?_ rfl ?_ ?_
 rotate_left
 ·intro V hSV
  clear hSV
  go_simp
  first | done | with_reducible rfl
 try simp only [pz0, pz2, pz3, pz4]
 refine tkz 37 ({ dst := some 110, op := Op.binOp BinOp.eql 41 (Operand.tmp 108) (Operand.tmp 109) 41, type := 4, pos := p0, after := #[{ on := 35, ground := Ground.data }, { on := 36, ground := Ground.data }, { on := 34, ground := Ground.guard }], guard := some (34, true) }) ?_ rfl ?_ ?_
 rotate_left
 ·intro V hSV
  clear hSV
  go_simp
  first | done | with_reducible rfl
 try simp only [pz0, pz2, pz3, pz4]
 refine tkz 38 ({ dst := some 111, op := Op.pick (Operand.tmp 107) (Operand.tmp 110) (Operand.const (Value.bool false)), type := 4, pos := p0, after := #[{ on := 34, ground := Ground.data }, { on := 37, ground := Ground.data }], guard := none }) ?_ rfl ?_ ?_
 rotate_left
 ·intro V hSV
  clear hSV
  go_simp
  first | done | with_reducible rfl
 try simp only [pz0, pz2, pz3, pz4]
 refine tkz 39 ({ dst := some 24, op := Op.assign (Operand.tmp 111), type := 4, pos := p0, after := #[{ on := 38, ground := Ground.data }, { on := 34, ground := Ground.chain }, { on := 0, ground := Ground.phase }, { on := 1, ground := Ground.phase }, { on := 2, ground := Ground.phase }, { on := 3, ground := Ground.phase }, { on := 4, ground := Ground.phase }, { on := 5, ground := Ground.phase }, { on := 6, ground := Ground.phase }, { on := 7, ground := Ground.phase }, { on := 8, ground := Ground.phase }, { on := 9, ground := Ground.phase }, { on := 10, ground := Ground.phase }, { on := 11, ground := Ground.phase }, { on := 12, ground := Ground.phase }, { on := 13, ground := Ground.phase }, { on := 14, ground := Ground.phase }, { on := 15, ground := Ground.phase }, { on := 16, ground := Ground.phase }, { on := 17, ground := Ground.phase }, { on := 18, ground := Ground.phase }, { on := 19, ground := Ground.phase }, { on := 20, ground := Ground.phase }, { on := 21, ground := Ground.phase }, { on := 22, ground := Ground.phase }, { on := 23, ground := Ground.phase }, { on := 24, ground := Ground.phase }, { on := 25, ground := Ground.phase }, { on := 26, ground := Ground.phase }, { on := 27, ground := Ground.phase }, { on := 28, ground := Ground.phase }, { on := 29, ground := Ground.phase }, { on := 30, ground := Ground.phase }, { on := 31, ground := Ground.phase }, { on := 32, ground := Ground.phase }, { on := 33, ground := Ground.phase }, { on := 34, ground := Ground.phase }, { on := 35, ground := Ground.phase }, { on := 36, ground := Ground.phase }, { on := 37, ground := Ground.phase }, { on := 38, ground := Ground.phase }], guard := none }) ?_ rfl ?_ ?_
 rotate_left
 ·intro V hSV
  clear hSV
  go_simp
  first | done | with_reducible rfl
 try simp only [pz0, pz2, pz3, pz4]
 refine wpAnyH_done (by kernel_rfl) ?_ _
 refine NoPanic.normal ?_
 exact HQ.out _ _ _ _ _ _ _ _ _ _ _ _ _ _ _ _ _ _ _ _ _ _ _ _ _ _ _ _ _ _ _ _ _ _ _ _ _ _ _ U4 k4.out
end Go.Proofs.Ythgnlbdolilklaa
