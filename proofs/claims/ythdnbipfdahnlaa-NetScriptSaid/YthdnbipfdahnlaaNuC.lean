/- The program's network: Flying 21; own bytes are written over 34. Printed by gen_nuc.py. -/
import Derived.Test.YthdnbipfdahnlaaNuB
namespace Go.Proofs.Ythdnbipfdahnlaa
open Go Go.RowKit
/-- own bytes are written over -/
theorem over_own {w : World} {base : Nat} {v : Value} {l : List UInt8} (ho : Own byteE w base v l) :
    Calls Try.prog 34 #[v] w fun e w' => e = .returned (.tuple #[]) ∧ (∃ l', Own byteE w' base v l') ∧ w.grownBy w' v.ownBlock := by
  rcases ho with ⟨rfl, rfl⟩ | ⟨g, cap, X, rfl, h1, h2, h3, h4, h5, h6⟩
  · refine (over_none none).mono ?_
    rintro e w' ⟨rfl, rfl⟩
    exact ⟨rfl, ⟨[], Own.nil _ _ _⟩, ⟨rfl, rfl, rfl, Nat.le_refl _, fun _ _ _ => rfl⟩⟩
  · rw [rowOf_byte] at h2
    have h2' : Blk w g 5 (0, 0) (u8s X) := h2
    refine (over_bytes (C1 := []) (C2 := []) (X := X) (by simpa using h2') rfl h3 h4 (by simpa [maxLen] using h5) (fun j _ => by simp)).mono ?_
    rintro e w' ⟨rfl, hB, hg⟩
    have hlt : (x5s X).length = cap := by rw [x5s_length]; exact h3
    refine ⟨rfl, ⟨(x5s X).take l.length, .inr ⟨g, cap, x5s X, ?_, h1, ?_, hlt, ?_, h5, ?_⟩⟩, hg⟩
    · rw [List.length_take, hlt, Nat.min_eq_left h4]
    · rw [rowOf_byte]; have h9 := hB; simp only [List.nil_append, List.append_nil] at h9; exact h9
    · rw [List.length_take, hlt, Nat.min_eq_left h4]; exact h4
    · rw [List.length_take, hlt, Nat.min_eq_left h4]
/-- flights that were told, in memory of their own from b on -/
structure OutG (w : World) (b : Nat) (v : Value) (A : List Fl) (OP : List FD) : Prop where
  own : Own flE w b v OP
  rep : Rep w OP A
  lo : ∀ q ∈ OP, ∀ g, (dV q).ownBlock = some g → b ≤ g
theorem OutG.ext {w w' : World} {b : Nat} {v : Value} {A : List Fl} {OP : List FD} (h : OutG w b v A OP) (hb : Below w.heap.size w w') : OutG w' b v A OP := ⟨h.own.ext hb, h.rep.keep (fun q hq g hg => hb.block g (h.rep.lt q hq g hg)), h.lo⟩
theorem Rep.snoc {w : World} {FL : List FD} {A : List Fl} (h : Rep w FL A) {q : FD} {f : Fl} (hq : q.at_ = f.at_ ∧ q.p.h = f.h ∧ Own byteE w 0 (dV q) f.d) (hap : ∀ p ∈ FL, Apt (dV p) (dV q)) : Rep w (FL ++ [q]) (A ++ [f]) := by
  have h1 := h.ins (Nat.le_refl _) hq hap
  rw [List.take_length, List.drop_length, List.append_nil, h.len, List.take_length, List.drop_length, List.append_nil] at h1
  exact h1
set_option maxHeartbeats 8000000 in
set_option maxRecDepth 100000 in
theorem pfly_reg (p0 : String) {W : World} {Q : Exit → Act → World → Prop} (t0 t1 t2 t4 t6 t7 t8 t9 t10 t11 t12 t13 t14 t15 t16 t17 t18 t19 t20 t21 t22 t23 t24 t25 t26 t27 : Value) (g5 B : Nat) (h : Hd) {da : Option Addr} {dn dc : Nat} {d : List UInt8} (y : Int) {va : Option Addr} {vn vc : Nat} {OP : List FD}
    (k5 : Blk W g5 71 (0, 0) [.int .i64 y, .int .u32 h.from_, .int .u16 h.fport, .int .u32 h.to_, .int .u16 h.tport, .bool h.stream, .slice da dn dc])
    (hr : Rd byteE W da dn dc d)
    (hn : dn ≤ 140737488355328)
    (ho : Own flE W B (.slice va vn vc) OP)
    (hB : B ≤ W.heap.size)
    (hl : OP.length ≤ 100000)
    (hne0 : (Value.slice va vn vc).ownBlock ≠ some g5)
    (hq : ∀ (x17 x18 x19 x20 x21 x22 x23 x24 x25 : Value) (V : World) (a9 : Option Addr) (nn c9 : Nat) (a : Option Addr) (c : Nat) (_ : W.grownBy V (Value.slice va vn vc).ownBlock) (_ : Own flE V B (.slice a9 nn c9) (OP ++ [(⟨y, ⟨h, a, dn, c⟩⟩ : FD)])) (_ : Own byteE V W.heap.size (.slice a dn c) d), Q .normal { tmps := #[t0, t1, t2, .slice a9 nn c9, t4, .pointer (some ⟨g5, 0, none⟩), t6, t7, t8, t9, t10, t11, t12, t13, t14, t15, t16, x17, x18, x19, x20, x21, x22, x23, x24, x25, t26, t27], defers := [] } V) :
    Code.wp Try.prog (Code.region 7 (#[{ dst := some 17, op := Op.move (Operand.tmp 3), type := 61, pos := p0, after := #[], guard := none }, { dst := some 18, op := Op.fieldAddr 71 (Operand.tmp 5) 0, type := 0, pos := p0, after := #[], guard := none }, { dst := some 19, op := Op.load 3 (Operand.tmp 18), type := 3, pos := p0, after := #[{ on := 1, ground := Ground.data }], guard := none }, { dst := some 20, op := Op.fieldAddr 71 (Operand.tmp 5) 1, type := 0, pos := p0, after := #[], guard := none }, { dst := some 21, op := Op.load 32 (Operand.tmp 20), type := 32, pos := p0, after := #[{ on := 3, ground := Ground.data }], guard := none }, { dst := some 22, op := Op.call { callee := Callee.value (Operand.func 28), args := #[Operand.tmp 21], argTypes := #[32] }, type := 32, pos := p0, after := #[{ on := 4, ground := Ground.data }], guard := none }, { dst := some 23, op := Op.build 71 #[(0, Operand.tmp 19), (1, Operand.tmp 22)], type := 71, pos := p0, after := #[{ on := 2, ground := Ground.data }, { on := 5, ground := Ground.data }], guard := none }, { dst := some 24, op := Op.buildSlice 61 1 #[(0, Operand.tmp 23)], type := 61, pos := p0, after := #[{ on := 6, ground := Ground.data }], guard := none }, { dst := some 25, op := Op.call { callee := Callee.builtin Builtin.append, args := #[Operand.tmp 17, Operand.tmp 24], argTypes := #[61, 61] }, type := 61, pos := p0, after := #[{ on := 0, ground := Ground.data }, { on := 7, ground := Ground.data }, { on := 5, ground := Ground.chain }], guard := none }, { dst := some 3, op := Op.assign (Operand.tmp 25), type := 61, pos := p0, after := #[{ on := 8, ground := Ground.data }, { on := 8, ground := Ground.chain }, { on := 0, ground := Ground.phase }, { on := 1, ground := Ground.phase }, { on := 2, ground := Ground.phase }, { on := 3, ground := Ground.phase }, { on := 4, ground := Ground.phase }, { on := 5, ground := Ground.phase }, { on := 6, ground := Ground.phase }, { on := 7, ground := Ground.phase }, { on := 8, ground := Ground.phase }], guard := none }] : Array Oper) true) Q { tmps := #[t0, t1, t2, .slice va vn vc, t4, .pointer (some ⟨g5, 0, none⟩), t6, t7, t8, t9, t10, t11, t12, t13, t14, t15, t16, t17, t18, t19, t20, t21, t22, t23, t24, t25, t26, t27], defers := [] } W := by
  have HQ := Lib.hid hq
  clear hq
  have hne := Lib.hid hne0
  clear hne0
  have K5 := Lib.hid k5
  have HR := Lib.hid hr
  have HO := Lib.hid ho
  have hB2 := Lib.hid hB
  have hl2 := Lib.hid hl
  clear k5 hr ho hB hl
  have k0 : Hid (Below W.heap.size W W.drew) := Lib.hid (Below.refl _ _).drew
  obtain ⟨j0, hj, jz0, jz1, jz2⟩ := info_parts Try.info71
  have k00 : Hid (Blk W.drew g5 71 (0, 0) [.int .i64 y, .int .u32 h.from_, .int .u16 h.fport, .int .u32 h.to_, .int .u16 h.tport, .bool h.stream, .slice da dn dc]) := Lib.hid K5.out.drew
  refine wp_region_noPanic ?_
  refine wp_region_held_drew (S := fun V => Blk V g5 71 (0, 0) [.int .i64 y, .int .u32 h.from_, .int .u16 h.fport, .int .u32 h.to_, .int .u16 h.tport, .bool h.stream, .slice da dn dc]) (by kernel_rfl) k00.out (fun hHeld => ?_)
  clear hHeld
  obtain ⟨U0, hU0⟩ : ∃ x, W.drew = x := ⟨_, rfl⟩
  rw [hU0] at k0 k00 ⊢
  clear hU0
  refine wpAnyH_take (i := 0) (oi := { dst := some 17, op := Op.move (Operand.tmp 3), type := 61, pos := p0, after := #[], guard := none }) (v := ?_) rfl (by kernel_rfl) (by kernel_rfl) (by kernel_rfl) (fun _ _ _ h => h) (Or.inl ⟨by rfl, ?_⟩) (by assumption) ?_
  rotate_left
  · intro V hSV
    clear hSV
    go_simp
    first | done | with_reducible rfl
  try simp only [Act.put, List.setIfInBounds_toArray, List.set_cons_zero, List.set_cons_succ]
  refine wpAnyH_take (i := 1) (oi := { dst := some 18, op := Op.fieldAddr 71 (Operand.tmp 5) 0, type := 0, pos := p0, after := #[], guard := none }) (v := ?_) rfl (by kernel_rfl) (by kernel_rfl) (by kernel_rfl) (fun _ _ _ h => h) (Or.inl ⟨by rfl, ?_⟩) (by assumption) ?_
  rotate_left
  · intro V hSV
    clear hSV
    go_simp
    first | done | with_reducible rfl
  try simp only [Act.put, List.setIfInBounds_toArray, List.set_cons_zero, List.set_cons_succ]
  refine wpAnyH_take (i := 2) (oi := { dst := some 19, op := Op.load 3 (Operand.tmp 18), type := 3, pos := p0, after := #[{ on := 1, ground := Ground.data }], guard := none }) (v := ?_) rfl (by kernel_rfl) (by kernel_rfl) (by kernel_rfl) (fun _ _ _ h => h) (Or.inl ⟨by rfl, ?_⟩) (by assumption) ?_
  rotate_left
  · intro V hSV
    have z0 : V.cell? ⟨g5, 0, none⟩ = some (.int .i64 y) := (hSV.cell 0).trans rfl
    clear hSV
    go_simp
    first | done | with_reducible rfl
  try simp only [Act.put, List.setIfInBounds_toArray, List.set_cons_zero, List.set_cons_succ]
  refine wpAnyH_take (i := 3) (oi := { dst := some 20, op := Op.fieldAddr 71 (Operand.tmp 5) 1, type := 0, pos := p0, after := #[], guard := none }) (v := ?_) rfl (by kernel_rfl) (by kernel_rfl) (by kernel_rfl) (fun _ _ _ h => h) (Or.inl ⟨by rfl, ?_⟩) (by assumption) ?_
  rotate_left
  · intro V hSV
    clear hSV
    go_simp
    first | done | with_reducible rfl
  try simp only [Act.put, List.setIfInBounds_toArray, List.set_cons_zero, List.set_cons_succ]
  refine wpAnyH_take (i := 4) (oi := { dst := some 21, op := Op.load 32 (Operand.tmp 20), type := 32, pos := p0, after := #[{ on := 3, ground := Ground.data }], guard := none }) (v := ?_) rfl (by kernel_rfl) (by kernel_rfl) (by kernel_rfl) (fun _ _ _ h => h) (Or.inl ⟨by rfl, ?_⟩) (by assumption) ?_
  rotate_left
  · intro V hSV
    have z1 : V.cell? ⟨g5, 1, none⟩ = some (.int .u32 h.from_) := (hSV.cell 1).trans rfl
    have z2 : V.cell? ⟨g5, 2, none⟩ = some (.int .u16 h.fport) := (hSV.cell 2).trans rfl
    have z3 : V.cell? ⟨g5, 3, none⟩ = some (.int .u32 h.to_) := (hSV.cell 3).trans rfl
    have z4 : V.cell? ⟨g5, 4, none⟩ = some (.int .u16 h.tport) := (hSV.cell 4).trans rfl
    have z5 : V.cell? ⟨g5, 5, none⟩ = some (.bool h.stream) := (hSV.cell 5).trans rfl
    have z6 : V.cell? ⟨g5, 6, none⟩ = some (.slice da dn dc) := (hSV.cell 6).trans rfl
    clear hSV
    go_simp
    first | done | with_reducible rfl
  try simp only [Act.put, List.setIfInBounds_toArray, List.set_cons_zero, List.set_cons_succ]
  refine wpAnyH_ready (rs := [5]) (by kernel_rfl) (by simp) ?_
  refine AllReadyH.cons (o := { dst := some 22, op := Op.call { callee := Callee.value (Operand.func 28), args := #[Operand.tmp 21], argTypes := #[32] }, type := 32, pos := p0, after := #[{ on := 4, ground := Ground.data }], guard := none }) rfl (fun K hK => ?_) ?_
  · refine step_call1 (by rfl) (.tmp 21) 32 (by rfl) (by rfl) enter28 ?_
    have hc := own_any h (HR.out.ext k0.out) hn
    unfold pkV at hc
    refine hc.mono ?_
    clear hc
    rintro e V1 ⟨⟨a, c, rfl, ho⟩, mm⟩
    refine ⟨_, rfl, ?_⟩
    have O1 : Hid (Own byteE V1 W.heap.size (.slice a dn c) d) := Lib.hid (ho.mono k0.out.size)
    have k1 := Lib.hid (k0.out.trans (mm.mono k0.out.size))
    have B1 := Lib.hid (K5.out.below k1.out K5.out.lt)
    clear ho mm k0
    refine hK.out _ _ B1.out (fun hHeld => ?_)
    clear hK K
    try simp only [Act.put, List.setIfInBounds_toArray, List.set_cons_zero, List.set_cons_succ]
    refine wpAnyH_take (i := 6) (oi := { dst := some 23, op := Op.build 71 #[(0, Operand.tmp 19), (1, Operand.tmp 22)], type := 71, pos := p0, after := #[{ on := 2, ground := Ground.data }, { on := 5, ground := Ground.data }], guard := none }) (v := ?_) rfl (by kernel_rfl) (by kernel_rfl) (by kernel_rfl) (fun _ _ _ h => h) (Or.inl ⟨by rfl, ?_⟩) (by assumption) ?_
    rotate_left
    · intro V hSV
      clear hSV
      go_simp
      first | done | with_reducible rfl
    try simp only [Act.put, List.setIfInBounds_toArray, List.set_cons_zero, List.set_cons_succ]
    refine wpAnyH_ready (rs := [7]) (by kernel_rfl) (by simp) ?_
    refine AllReadyH.cons (o := { dst := some 24, op := Op.buildSlice 61 1 #[(0, Operand.tmp 23)], type := 61, pos := p0, after := #[{ on := 6, ground := Ground.data }], guard := none }) rfl (fun K hK => ?_) ?_
    · go_simp
      obtain ⟨V2, e2⟩ : ∃ U, V1.alloc (.cells #[.int .i64 y, .int .u32 h.from_, .int .u16 h.fport, .int .u32 h.to_, .int .u16 h.tport, .bool h.stream, .slice a dn c] 71) = U := ⟨_, rfl⟩
      have mm : Below V1.heap.size V1 V2 := by rw [← e2]; exact alloc_bel _ _
      have Bn2 : Hid (Blk V2 V1.heap.size 71 (0, 0) [.int .i64 y, .int .u32 h.from_, .int .u16 h.fport, .int .u32 h.to_, .int .u16 h.tport, .bool h.stream, .slice a dn c]) := Lib.hid (by rw [← e2]; exact Blk.new V1 71 (0, 0) #[.int .i64 y, .int .u32 h.from_, .int .u16 h.fport, .int .u32 h.to_, .int .u16 h.tport, .bool h.stream, .slice a dn c])
      rw [e2]
      clear e2
      have O2 := Lib.hid (O1.out.ext mm)
      have ap2 : Hid (W.heap.size ≤ V1.heap.size) := Lib.hid k1.out.size
      have k2 := Lib.hid (k1.out.trans (mm.mono k1.out.size))
      have B2 := Lib.hid (K5.out.below k2.out K5.out.lt)
      clear mm k1 O1
      refine hK.out _ _ B2.out (fun hHeld => ?_)
      clear hK K
      try simp only [Act.put, List.setIfInBounds_toArray, List.set_cons_zero, List.set_cons_succ]
      refine wpAnyH_ready (rs := [8]) (by kernel_rfl) (by simp) ?_
      refine AllReadyH.cons (o := { dst := some 25, op := Op.call { callee := Callee.builtin Builtin.append, args := #[Operand.tmp 17, Operand.tmp 24], argTypes := #[61, 61] }, type := 61, pos := p0, after := #[{ on := 0, ground := Ground.data }, { on := 7, ground := Ground.data }, { on := 5, ground := Ground.chain }], guard := none }) rfl (fun K hK => ?_) ?_
      · have hsrc := (rd_blk (E := flE) (X := [(⟨y, ⟨h, a, dn, c⟩⟩ : FD)]) (fz := (0, 0)) Bn2.out 1 rfl (by decide)).src (P := Try.prog) (tx := 61) Try.underlying61
        refine step_own (E := flE) (l := OP) (news := [(⟨y, ⟨h, a, dn, c⟩⟩ : FD)]) (base := B) (by rfl) (.tmp 17) (.tmp 24) 61 61 (by rfl) Try.underlying61 hj jz0 jz1 jz2 rfl (by rfl) (HO.out.ext k2.out) (by rfl) hsrc (by have h1 := hl2.out; simp [maxLen]; omega) (by have h1 := hl2.out; simp; omega) (Nat.le_trans hB2.out k2.out.size) ?_
        intro v3 V3 ho hg hx
        have G3 := Lib.hid (grown_trans (grown_of_below k2.out) hg)
        have O3 := Lib.hid (own_grown O2.out (HO.out.ext k2.out) (by decide) hg)
        obtain ⟨a3, c3, rfl⟩ := ho.shape
        obtain ⟨nn, hnn⟩ : ∃ x, (OP ++ [(⟨y, ⟨h, a, dn, c⟩⟩ : FD)]).length = x := ⟨_, rfl⟩
        rw [hnn] at ho ⊢
        clear hnn hsrc
        have L3 := Lib.hid ho
        have B3 : Hid (Blk V3 g5 71 (0, 0) [.int .i64 y, .int .u32 h.from_, .int .u16 h.fport, .int .u32 h.to_, .int .u16 h.tport, .bool h.stream, .slice da dn dc]) := Lib.hid (((K5.out.below k2.out K5.out.lt)).grownV2 hg (fun e => hne.out e.symm))
        clear ho hg hx k2 O2 Bn2
        refine hK.out _ _ B3.out (fun hHeld => ?_)
        clear hK K
        try simp only [Act.put, List.setIfInBounds_toArray, List.set_cons_zero, List.set_cons_succ]
        refine wpAnyH_take (i := 9) (oi := { dst := some 3, op := Op.assign (Operand.tmp 25), type := 61, pos := p0, after := #[{ on := 8, ground := Ground.data }, { on := 8, ground := Ground.chain }, { on := 0, ground := Ground.phase }, { on := 1, ground := Ground.phase }, { on := 2, ground := Ground.phase }, { on := 3, ground := Ground.phase }, { on := 4, ground := Ground.phase }, { on := 5, ground := Ground.phase }, { on := 6, ground := Ground.phase }, { on := 7, ground := Ground.phase }, { on := 8, ground := Ground.phase }], guard := none }) (v := ?_) rfl (by kernel_rfl) (by kernel_rfl) (by kernel_rfl) (fun _ _ _ h => h) (Or.inl ⟨by rfl, ?_⟩) (by assumption) ?_
        rotate_left
        · intro V hSV
          clear hSV
          go_simp
          first | done | with_reducible rfl
        try simp only [Act.put, List.setIfInBounds_toArray, List.set_cons_zero, List.set_cons_succ]
        refine wpAnyH_done (by kernel_rfl) ?_ _
        refine NoPanic.normal ?_
        exact HQ.out _ _ _ _ _ _ _ _ _ _ _ _ _ _ _ G3.out L3.out O3.out
      exact AllReadyH.nil
    exact AllReadyH.nil
  exact AllReadyH.nil
def PFB (b : Nat) (A : List Fl) (e : Ending) (w' : World) : Prop := ∃ v OP, e = .returned v ∧ OutG w' b v A OP
set_option maxHeartbeats 8000000 in
set_option maxRecDepth 100000 in
theorem flying_any {w : World} {n : Nat} {S : Nat → Prop} {s : NS} (hP : NetP w n S s) (hroom : s.A.length ≤ 16384) (hdat : ∀ f ∈ s.A, f.d.length ≤ 140737488355328) :
    Calls Try.prog 21 #[.pointer (some ⟨n, 0, none⟩)] w fun e w' => PFB w.heap.size s.A e w' ∧ Below w.heap.size w w' := by
  obtain ⟨fa, fn, fc, v, ob, FL, hQ⟩ := hP
  obtain ⟨F, at_, A, c⟩ := s
  obtain ⟨sent, lost, forged, taken⟩ := c
  dsimp only at hQ hroom hdat ⊢
  have hFA := Lib.hid hQ.rep.len
  have hFl : FL.length ≤ 16384 := by have := hQ.rep.len; omega
  have hno := Lib.hid (none_ok hQ)
  have hdat2 := Lib.hid hdat
  obtain ⟨va, vc, rfl⟩ := hQ.own.shape
  have HQ := Lib.hid hQ
  clear hQ hdat hroom
  obtain ⟨nn, hnn⟩ : ∃ x, FL.length = x := ⟨_, rfl⟩
  have hnl := Lib.hid hnn
  have hn16 : nn ≤ 16384 := by omega
  have B0 : Hid (Blk w n 63 (0, 0) [.slice fa fn fc, .int .i64 at_, .slice va nn vc, .int .i64 sent, .int .i64 lost, .int .i64 forged, .int .i64 taken, .bool true]) := Lib.hid (by rw [← hnn]; exact HQ.out.blk)
  clear hnn
  go_enter Try.func21, Try.ntmps21
  go_wp2_with fail
  refine hno.out.mono ?_
  rintro e w1 ⟨rfl, rfl⟩
  have c2 : w.cell? ⟨n, 2, none⟩ = some (.slice va nn vc) := (B0.out.cell 2).trans rfl
  go_wp2_with fail
  go_loopw [3, 13] (fun v i wr => ∃ (k : Nat) (OP : List FD), k ≤ nn ∧ i = .int .i64 k ∧ Hid (OutG wr w.heap.size v (A.take k) OP) ∧ Hid (Below w.heap.size w wr)) (fun _ i _ => nn - (intOf i).toNat)
  case atStart => exact ⟨0, [], Nat.zero_le _, rfl, Lib.hid ⟨Own.nil _ _ _, ⟨rfl, fun j q f h => (by simp at h), fun i j _ p q h => (by simp at h)⟩, fun q h => (by cases h)⟩, Lib.hid (Below.refl _ _)⟩
  case round =>
    clear c2
    obtain ⟨k, OP, hk, rfl, hO, hb⟩ := hrel
    obtain ⟨oa, oc, rfl⟩ := hO.out.own.shape
    obtain ⟨on, hon⟩ : ∃ x, OP.length = x := ⟨_, rfl⟩
    rw [hon] at hO ⊢
    have honk : Hid (on = k ∧ OP.length = on) := Lib.hid ⟨by rw [← hon, hO.out.rep.len, List.length_take, ← HQ.out.rep.len, hnl.out]; omega, hon⟩
    clear hon
    by_cases hlt : k < nn
    case neg =>
      obtain rfl : k = nn := by omega
      go_wp2_with fail
      go_ret
      refine ⟨⟨_, OP, rfl, ?_⟩, hb.out⟩
      have h1 := hO.out
      rw [List.take_of_length_le (by rw [← hFA.out, hnl.out]; exact Nat.le_refl _)] at h1
      exact h1
    case pos =>
      have hkI : (k : Int) < nn := by omega
      have hk0 : (0 : Int) ≤ k := by omega
      obtain ⟨q, hq⟩ : ∃ q, FL[k]? = some q := ⟨FL[k]'(by rw [hnl.out]; exact hlt), List.getElem?_eq_getElem _⟩
      obtain ⟨f, hf⟩ : ∃ f, A[k]? = some f := ⟨A[k]'(by rw [← hFA.out, hnl.out]; exact hlt), List.getElem?_eq_getElem _⟩
      have hqf := Lib.hid (HQ.out.rep.rep k q f hq hf)
      obtain ⟨x0, x1, e1, hR⟩ := (HQ.out.ext hb.out).own.rd
      rw [hnl.out] at e1 hR
      injection e1 with e2 e3 e4
      subst e2 e4
      obtain ⟨b1, o1, e1, d0, d1, d2, d3, d4, d5, d6⟩ := fd_cells hR hq
      subst e1
      have hq' := Lib.hid hq
      have hf' := Lib.hid hf
      clear hq hf hR e3
      obtain ⟨qa, h, da, dn, dc⟩ := q
      dsimp only at d0 d1 d2 d3 d4 d5 d6
      have hdl : Hid (f.d.length = dn) := Lib.hid (own_rd_at (by have h1 := hqf.out.2.2; unfold dV at h1; exact h1)).2
      have HRd : Hid (Rd byteE wr da dn dc f.d) := Lib.hid (own_rd_at (by have h1 := hqf.out.2.2; unfold dV at h1; exact h1.ext hb.out)).1
      obtain ⟨W2, hW2⟩ : ∃ W, wr.alloc (.cells #[.int .i64 0, .int .u32 0, .int .u16 0, .int .u32 0, .int .u16 0, .bool false, .slice none 0 0] 71) = W := ⟨_, rfl⟩
      have B2 : Hid (Blk W2 wr.heap.size 71 (0, 0) [.int .i64 0, .int .u32 0, .int .u16 0, .int .u32 0, .int .u16 0, .bool false, .slice none 0 0]) := Lib.hid (by rw [← hW2]; exact Blk.new wr 71 (0, 0) #[.int .i64 0, .int .u32 0, .int .u16 0, .int .u32 0, .int .u16 0, .bool false, .slice none 0 0])
      have k2 : Hid (Below wr.heap.size wr W2) := Lib.hid (by rw [← hW2]; exact alloc_bel _ _)
      go_upto_region 7 with (refine store_whole rfl 71 (.tmp 5) (.tmp 16) rfl rfl rfl B2.out (by rfl) (by kernel_rfl) (by first | kernel_rfl | rfl) ?_; intro w3 hBx hgx hzx; have B3 := Lib.hid hBx; have k3 := Lib.hid (fresh_store k2.out hgx); clear hBx hgx hzx)
      try rw [hW2]
      clear hW2 d0 d1 d2 d3 d4 d5 d6 B2 k2
      have K3 := Lib.hid (hb.out.trans (k3.out.mono hb.out.size))
      have O3 := Lib.hid (hO.out.ext k3.out)
      have hlt3 : Hid (wr.heap.size < w3.heap.size) := Lib.hid B3.out.lt
      refine pfly_reg _ _ _ _ _ _ _ _ _ _ _ _ _ _ _ _ _ _ _ _ _ _ _ _ _ _ _ _ w.heap.size h qa B3.out (HRd.out.ext k3.out) (by rw [← hdl.out]; exact hdat2.out f (List.mem_of_getElem? hf'.out)) O3.out.own K3.out.size (by have h1 := honk.out; omega) (fun e => by have h1 := (hO.out.own.lt _ e).2; omega) ?_
      intro x17 x18 x19 x20 x21 x22 x23 x24 x25 V a9 nm c9 a c G9 L9 D9
      try dsimp only
      have hrep : Rep V OP (A.take k) := O3.out.rep.keep (fun q hq g hg => G9.block g (O3.out.rep.lt q hq g hg) (fun e => by
        obtain ⟨j, hj, rfl⟩ := List.getElem_of_mem hq
        have h1 := (O3.out.rep.rep j OP[j] ((A.take k)[j]'(by have := O3.out.rep.len; omega)) (List.getElem?_eq_getElem hj) (List.getElem?_eq_getElem _)).2.2
        exact own_apart h1 O3.out.own (by decide) g hg e.symm))
      have hout : Hid (OutG V w.heap.size (.slice a9 nm c9) (A.take (k + 1)) (OP ++ [(⟨qa, ⟨h, a, dn, c⟩⟩ : FD)])) := Lib.hid (by
        refine ⟨L9, ?_, fun q hq g hg => ?_⟩
        · rw [List.take_add_one, hf'.out]
          refine hrep.snoc ⟨hqf.out.1, hqf.out.2.1, D9.mono (Nat.zero_le _)⟩ (fun p hp g h1 h2 => ?_)
          have h3 := hO.out.rep.lt p hp g h1
          have h4 := (D9.lt g h2).1
          have h5 := hlt3.out
          omega
        · rcases List.mem_append.1 hq with hq | hq
          · exact hO.out.lo q hq g hg
          · have h6 : q = (⟨qa, ⟨h, a, dn, c⟩⟩ : FD) := by simpa using hq
            subst h6
            have h4 := (D9.lt g hg).1
            have h5 := K3.out.size
            omega)
      have K9 := Lib.hid (K3.out.grown G9 K3.out.size (fun j hj => (O3.out.own.lt j hj).1))
      clear hrep G9 L9 D9 O3
      go_wp2_with fail
      go_roundw
      case rel => exact ⟨k + 1, OP ++ [(⟨qa, ⟨h, a, dn, c⟩⟩ : FD)], by omega, by go_num, hout, K9⟩
      case measure => simp [intOf]; omega
end Go.Proofs.Ythdnbipfdahnlaa
