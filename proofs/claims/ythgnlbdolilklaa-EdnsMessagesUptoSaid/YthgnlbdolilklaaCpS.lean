/- A record is copied: CopyRecord 10; printed by gen_cps.py. -/
import Derived.Test.YthgnlbdolilklaaCpR
namespace Go.Proofs.Ythgnlbdolilklaa
open Go Go.RowKit
/-- a record of the call's own -/
structure OwnRec (w : World) (base : Nat) (q : RD) (L : RL) : Prop where
  ow : Own strE w base (.slice q.oa q.on q.oc) L.ow
  nm : OwnN w base (.slice q.ma q.mn q.mc) L.nm
  nu : Own u32E w base (.slice q.ua q.un q.uc) L.nu
  tx : Own strE w base (.slice q.xa q.xn q.xc) L.tx
  raw : Own byteE w base (.slice q.ra q.rn q.rc) L.raw
theorem OwnRec.ext {w w' : World} {base : Nat} {q : RD} {L : RL} (h : OwnRec w base q L) (hb : Below w.heap.size w w') : OwnRec w' base q L := ⟨h.ow.ext hb, h.nm.ext hb, h.nu.ext hb, h.tx.ext hb, h.raw.ext hb⟩
theorem OwnRec.mono {w : World} {base base' : Nat} {q : RD} {L : RL} (h : OwnRec w base q L) (hb : base' ≤ base) : OwnRec w base' q L := ⟨h.ow.mono hb, h.nm.mono hb, h.nu.mono hb, h.tx.mono hb, h.raw.mono hb⟩
theorem own_rd_at {α : Type} {E : Enc α} {w : World} {base : Nat} {a : Option Addr} {n c : Nat} {l : List α} (h : Own E w base (.slice a n c) l) : Rd E w a n c l ∧ l.length = n := by
  obtain ⟨a', c', e, r⟩ := h.rd
  simp only [Value.slice.injEq] at e
  obtain ⟨x1, x2, x3⟩ := e
  rw [x1, x2, x3]
  exact ⟨r, rfl⟩
theorem OwnRec.recR {w0 w : World} {base : Nat} {q0 q : RD} {L : RL} (ho : OwnRec w base q L) (h : RecR w0 q0 L) (hty : q.ty = q0.ty) (hcl : q.cl = q0.cl) (httl : q.ttl = q0.ttl) : RecR w q L := by
  obtain ⟨r1, e1⟩ := own_rd_at ho.ow
  obtain ⟨r3, e3⟩ := own_rd_at ho.nu
  obtain ⟨r4, e4⟩ := own_rd_at ho.tx
  obtain ⟨r5, e5⟩ := own_rd_at ho.raw
  have d1 := h.ow.1.len
  have d3 := h.nu.len
  have d4 := h.tx.1.len
  have d5 := h.raw.len
  obtain ⟨ps, p1, p2, p3, p4⟩ := h.nm
  have hN : ∀ X ∈ L.nm, (∀ s ∈ X, s.length ≤ reachBytes) ∧ X.length * 16 ≤ reachBytes := fun X hX => by
    obtain ⟨j, hj, rfl⟩ := List.getElem_of_mem hX
    have hj' : j < ps.length := by rw [p2]; exact hj
    obtain ⟨u1, u2, u3⟩ := p4 j ps[j] L.nm[j] (List.getElem?_eq_getElem hj') (List.getElem?_eq_getElem hj)
    have := u1.len
    exact ⟨u2, by rw [this]; exact u3⟩
  have hl := p1.len
  have hmn : L.nm.length * 24 ≤ reachBytes := by rw [← p2, hl]; exact p3
  obtain ⟨a, c, e, rN⟩ := ho.nm.rdN hN hmn
  simp only [Value.slice.injEq] at e
  obtain ⟨x1, x2, x3⟩ := e
  refine ⟨⟨r1, h.ow.2.1, by have := h.ow.2.2; omega⟩, by rw [x1, x2, x3]; exact rN, r3, ⟨r4, h.tx.2.1, by have := h.tx.2.2; omega⟩, r5, by rw [hcl]; exact h.cl, by rw [hty]; exact h.ty, by rw [httl]; exact h.ttl, h.nus, by have := h.znu; omega, by have := h.zraw; omega⟩
set_option maxHeartbeats 8000000 in
set_option maxRecDepth 100000 in
theorem copy_rec {w : World} {q : RD} {L : RL} (h : RecR w q L) :
    Calls Try.prog 10 #[q.val] w fun e w' => (∃ q' : RD, e = .returned q'.val ∧ OwnRec w' w.heap.size q' L ∧ q'.ty = q.ty ∧ q'.cl = q.cl ∧ q'.ttl = q.ttl) ∧ Below w.heap.size w w' := by
  obtain ⟨oa, on, oc, ty, cl, ttl, ma, mn, mc, ua, un, uc, xa, xn, xc, ra, rn, rc⟩ := q
  have h1 := h.nm
  have h0 := h.ow
  have h2 := h.nu
  have h3 := h.tx
  have h4 := h.raw
  have z2 := h.znu
  have z4 := h.zraw
  dsimp only at h0 h1 h2 h3 h4 z2 z4
  have hq := Lib.hid h
  clear h
  unfold RD.val rV
  dsimp only
  obtain ⟨W1, hW1⟩ : ∃ W1, w.alloc (.cells #[.slice oa on oc, .int .u16 ty, .int .u16 cl, .int .u32 ttl, .slice ma mn mc, .slice ua un uc, .slice xa xn xc, .slice ra rn rc] 37) = W1 := ⟨_, rfl⟩
  obtain ⟨W2, hW2⟩ : ∃ W, W1.alloc (.cells #[.slice none 0 0, .int .u16 0, .int .u16 0, .int .u32 0, .slice none 0 0, .slice none 0 0, .slice none 0 0, .slice none 0 0] 37) = W := ⟨_, rfl⟩
  have B1 : Blk W1 w.heap.size 37 (0, 0) [.slice oa on oc, .int .u16 ty, .int .u16 cl, .int .u32 ttl, .slice ma mn mc, .slice ua un uc, .slice xa xn xc, .slice ra rn rc] := by rw [← hW1]; exact Blk.new w 37 (0, 0) #[.slice oa on oc, .int .u16 ty, .int .u16 cl, .int .u32 ttl, .slice ma mn mc, .slice ua un uc, .slice xa xn xc, .slice ra rn rc]
  have B2 : Hid (Blk W2 W1.heap.size 37 (0, 0) [.slice none 0 0, .int .u16 0, .int .u16 0, .int .u32 0, .slice none 0 0, .slice none 0 0, .slice none 0 0, .slice none 0 0]) := Lib.hid (by rw [← hW2]; exact Blk.new W1 37 (0, 0) #[.slice none 0 0, .int .u16 0, .int .u16 0, .int .u32 0, .slice none 0 0, .slice none 0 0, .slice none 0 0, .slice none 0 0])
  have k1 : Below w.heap.size w W1 := by rw [← hW1]; exact alloc_bel _ _
  have k2 : Below W1.heap.size W1 W2 := by rw [← hW2]; exact alloc_bel _ _
  have B12 := Lib.hid (B1.below k2 B1.lt)
  have hb2 := Lib.hid (k1.trans (k2.mono k1.size))
  have hl1 : w.heap.size < W1.heap.size := B1.lt
  have p0 : W2.cell? ⟨w.heap.size, 0, none⟩ = some (.slice oa on oc) := (B12.out.cell 0).trans rfl
  have p1 : W2.cell? ⟨w.heap.size, 1, none⟩ = some (.int .u16 ty) := (B12.out.cell 1).trans rfl
  have p2 : W2.cell? ⟨w.heap.size, 2, none⟩ = some (.int .u16 cl) := (B12.out.cell 2).trans rfl
  have p3 : W2.cell? ⟨w.heap.size, 3, none⟩ = some (.int .u32 ttl) := (B12.out.cell 3).trans rfl
  have p4 : W2.cell? ⟨w.heap.size, 4, none⟩ = some (.slice ma mn mc) := (B12.out.cell 4).trans rfl
  have p5 : W2.cell? ⟨w.heap.size, 5, none⟩ = some (.slice ua un uc) := (B12.out.cell 5).trans rfl
  have p6 : W2.cell? ⟨w.heap.size, 6, none⟩ = some (.slice xa xn xc) := (B12.out.cell 6).trans rfl
  have p7 : W2.cell? ⟨w.heap.size, 7, none⟩ = some (.slice ra rn rc) := (B12.out.cell 7).trans rfl
  have g0 := Lib.hid (h0.ext hb2.out)
  have g1 := Lib.hid (h1.ext hb2.out)
  have g2 := Lib.hid (h2.ext hb2.out)
  have g3 := Lib.hid (h3.ext hb2.out)
  have g4 := Lib.hid (h4.ext hb2.out)
  clear h0 h1 h2 h3 h4 k1 k2 B1
  have hon : Hid (on * 16 ≤ 140737488355328) := Lib.hid (by have := g0.out.2.2; unfold reachBytes at this; omega)
  have z2' := Lib.hid z2
  have z4' := Lib.hid z4
  clear z2 z4
  have cs : ∀ wx : World, Below W2.heap.size W2 wx → wx.cell? ⟨w.heap.size, 0, none⟩ = some (.slice oa on oc) ∧ wx.cell? ⟨w.heap.size, 1, none⟩ = some (.int .u16 ty) ∧ wx.cell? ⟨w.heap.size, 2, none⟩ = some (.int .u16 cl) ∧ wx.cell? ⟨w.heap.size, 3, none⟩ = some (.int .u32 ttl) ∧ wx.cell? ⟨w.heap.size, 4, none⟩ = some (.slice ma mn mc) ∧ wx.cell? ⟨w.heap.size, 5, none⟩ = some (.slice ua un uc) ∧ wx.cell? ⟨w.heap.size, 6, none⟩ = some (.slice xa xn xc) ∧ wx.cell? ⟨w.heap.size, 7, none⟩ = some (.slice ra rn rc) := fun wx hb => ⟨cell_old p0 hb, cell_old p1 hb, cell_old p2 hb, cell_old p3 hb, cell_old p4 hb, cell_old p5 hb, cell_old p6 hb, cell_old p7 hb⟩
  have cs' := Lib.hid cs
  clear cs
  go_enter Try.func10, Try.ntmps10
  go_upto_region 1 with (fail)
  try rw [hW1]
  try rw [hW2]
  clear hW1 hW2
  refine wp_region_noPanic ?_
  refine wp_region_held_drew (S := fun w' => w'.cell? ⟨w.heap.size, 0, none⟩ = some (.slice oa on oc) ∧ w'.cell? ⟨w.heap.size, 1, none⟩ = some (.int .u16 ty) ∧ w'.cell? ⟨w.heap.size, 2, none⟩ = some (.int .u16 cl) ∧ w'.cell? ⟨w.heap.size, 3, none⟩ = some (.int .u32 ttl) ∧ w'.cell? ⟨w.heap.size, 4, none⟩ = some (.slice ma mn mc) ∧ w'.cell? ⟨w.heap.size, 5, none⟩ = some (.slice ua un uc) ∧ w'.cell? ⟨w.heap.size, 6, none⟩ = some (.slice xa xn xc) ∧ w'.cell? ⟨w.heap.size, 7, none⟩ = some (.slice ra rn rc)) (by kernel_rfl) (cs'.out _ (Below.refl _ _).drew) (fun hHeld => ?_)
  have hb0 : Hid (Below W2.heap.size W2 W2.drew) := Lib.hid (Below.refl _ _).drew
  generalize W2.drew = U0 at *
  refine wpAnyH_take (i := 0) (oi := { dst := some 3, op := Op.fieldAddr 37 (Operand.tmp 1) 0, type := 0, pos := _, after := #[], guard := none }) (v := ?_) rfl (by kernel_rfl) (by kernel_rfl) (by kernel_rfl) (fun _ _ _ h => h) (Or.inl ⟨by rfl, ?_⟩) (by assumption) ?_
  rotate_left
  · intro w hSw
    go_simp
    first | done | with_reducible rfl
  try simp only [Act.put, List.setIfInBounds_toArray, List.set_cons_zero, List.set_cons_succ]
  refine wpAnyH_take (i := 1) (oi := { dst := some 4, op := Op.load 26 (Operand.tmp 3), type := 26, pos := _, after := #[{ on := 0, ground := Ground.data }], guard := none }) (v := ?_) rfl (by kernel_rfl) (by kernel_rfl) (by kernel_rfl) (fun _ _ _ h => h) (Or.inl ⟨by rfl, ?_⟩) (by assumption) ?_
  rotate_left
  · intro w hSw
    go_simp
    first | done | with_reducible rfl
  try simp only [Act.put, List.setIfInBounds_toArray, List.set_cons_zero, List.set_cons_succ]
  refine wpAnyH_take (i := 3) (oi := { dst := some 6, op := Op.fieldAddr 37 (Operand.tmp 1) 1, type := 0, pos := _, after := #[], guard := none }) (v := ?_) rfl (by kernel_rfl) (by kernel_rfl) (by kernel_rfl) (fun _ _ _ h => h) (Or.inl ⟨by rfl, ?_⟩) (by assumption) ?_
  rotate_left
  · intro w hSw
    go_simp
    first | done | with_reducible rfl
  try simp only [Act.put, List.setIfInBounds_toArray, List.set_cons_zero, List.set_cons_succ]
  refine wpAnyH_take (i := 4) (oi := { dst := some 7, op := Op.load 28 (Operand.tmp 6), type := 28, pos := _, after := #[{ on := 3, ground := Ground.data }], guard := none }) (v := ?_) rfl (by kernel_rfl) (by kernel_rfl) (by kernel_rfl) (fun _ _ _ h => h) (Or.inl ⟨by rfl, ?_⟩) (by assumption) ?_
  rotate_left
  · intro w hSw
    go_simp
    first | done | with_reducible rfl
  try simp only [Act.put, List.setIfInBounds_toArray, List.set_cons_zero, List.set_cons_succ]
  refine wpAnyH_take (i := 5) (oi := { dst := some 8, op := Op.fieldAddr 37 (Operand.tmp 1) 2, type := 0, pos := _, after := #[], guard := none }) (v := ?_) rfl (by kernel_rfl) (by kernel_rfl) (by kernel_rfl) (fun _ _ _ h => h) (Or.inl ⟨by rfl, ?_⟩) (by assumption) ?_
  rotate_left
  · intro w hSw
    go_simp
    first | done | with_reducible rfl
  try simp only [Act.put, List.setIfInBounds_toArray, List.set_cons_zero, List.set_cons_succ]
  refine wpAnyH_take (i := 6) (oi := { dst := some 9, op := Op.load 29 (Operand.tmp 8), type := 29, pos := _, after := #[{ on := 5, ground := Ground.data }], guard := none }) (v := ?_) rfl (by kernel_rfl) (by kernel_rfl) (by kernel_rfl) (fun _ _ _ h => h) (Or.inl ⟨by rfl, ?_⟩) (by assumption) ?_
  rotate_left
  · intro w hSw
    go_simp
    first | done | with_reducible rfl
  try simp only [Act.put, List.setIfInBounds_toArray, List.set_cons_zero, List.set_cons_succ]
  refine wpAnyH_take (i := 7) (oi := { dst := some 10, op := Op.fieldAddr 37 (Operand.tmp 1) 3, type := 0, pos := _, after := #[], guard := none }) (v := ?_) rfl (by kernel_rfl) (by kernel_rfl) (by kernel_rfl) (fun _ _ _ h => h) (Or.inl ⟨by rfl, ?_⟩) (by assumption) ?_
  rotate_left
  · intro w hSw
    go_simp
    first | done | with_reducible rfl
  try simp only [Act.put, List.setIfInBounds_toArray, List.set_cons_zero, List.set_cons_succ]
  refine wpAnyH_take (i := 8) (oi := { dst := some 11, op := Op.load 30 (Operand.tmp 10), type := 30, pos := _, after := #[{ on := 7, ground := Ground.data }], guard := none }) (v := ?_) rfl (by kernel_rfl) (by kernel_rfl) (by kernel_rfl) (fun _ _ _ h => h) (Or.inl ⟨by rfl, ?_⟩) (by assumption) ?_
  rotate_left
  · intro w hSw
    go_simp
    first | done | with_reducible rfl
  try simp only [Act.put, List.setIfInBounds_toArray, List.set_cons_zero, List.set_cons_succ]
  refine wpAnyH_take (i := 9) (oi := { dst := some 12, op := Op.fieldAddr 37 (Operand.tmp 1) 4, type := 0, pos := _, after := #[], guard := none }) (v := ?_) rfl (by kernel_rfl) (by kernel_rfl) (by kernel_rfl) (fun _ _ _ h => h) (Or.inl ⟨by rfl, ?_⟩) (by assumption) ?_
  rotate_left
  · intro w hSw
    go_simp
    first | done | with_reducible rfl
  try simp only [Act.put, List.setIfInBounds_toArray, List.set_cons_zero, List.set_cons_succ]
  refine wpAnyH_take (i := 10) (oi := { dst := some 13, op := Op.load 35 (Operand.tmp 12), type := 35, pos := _, after := #[{ on := 9, ground := Ground.data }], guard := none }) (v := ?_) rfl (by kernel_rfl) (by kernel_rfl) (by kernel_rfl) (fun _ _ _ h => h) (Or.inl ⟨by rfl, ?_⟩) (by assumption) ?_
  rotate_left
  · intro w hSw
    go_simp
    first | done | with_reducible rfl
  try simp only [Act.put, List.setIfInBounds_toArray, List.set_cons_zero, List.set_cons_succ]
  refine wpAnyH_ready (rs := [2]) (by kernel_rfl) (by simp) ?_
  refine AllReadyH.cons (o := { dst := some 5, op := Op.call { callee := Callee.value (Operand.func 34), args := #[Operand.tmp 4], argTypes := #[26] }, type := 26, pos := _, after := #[{ on := 1, ground := Ground.data }], guard := none }) rfl (fun K hK => ?_) AllReadyH.nil
  refine step_call (by rfl) (.tmp 4) 26 (by rfl) (by rfl) enter34 ?_
  refine (copy_name (g0.out.1.ext hb0.out) hon.out).mono ?_
  rintro e U1 ⟨⟨aO, cO, rfl, hO⟩, q1⟩
  have hO1 := Lib.hid (hO.mono hb0.out.size)
  have hb1 := Lib.hid (hb0.out.trans (q1.mono hb0.out.size))
  clear hO q1
  refine ⟨_, rfl, ?_⟩
  refine hK.out _ _ (cs'.out _ hb1.out) (fun hHeld => ?_)
  clear hK K
  try simp only [Act.put, List.setIfInBounds_toArray, List.set_cons_zero, List.set_cons_succ]
  refine wpAnyH_ready (rs := [11]) (by kernel_rfl) (by simp) ?_
  refine AllReadyH.cons (o := { dst := some 14, op := Op.call { callee := Callee.value (Operand.func 35), args := #[Operand.tmp 13], argTypes := #[35] }, type := 35, pos := _, after := #[{ on := 10, ground := Ground.data }, { on := 2, ground := Ground.chain }], guard := none }) rfl (fun K hK => ?_) AllReadyH.nil
  refine step_call (by rfl) (.tmp 13) 35 (by rfl) (by rfl) enter35 ?_
  refine (copy_data (g1.out.ext hb1.out) (g2.out.ext hb1.out) (g3.out.ext hb1.out) (g4.out.ext hb1.out) z2'.out z4'.out).mono ?_
  rintro e U2 ⟨⟨aM, cM, aU, cU, aX, cX, aR, cR, rfl, hM, hU, hX, hR⟩, q2⟩
  have hml := g1.out.len
  rw [hml] at hM ⊢
  have hM2 := Lib.hid (hM.mono hb1.out.size)
  have hU2 := Lib.hid (hU.mono hb1.out.size)
  have hX2 := Lib.hid (hX.mono hb1.out.size)
  have hR2 := Lib.hid (hR.mono hb1.out.size)
  have hO2 := Lib.hid (hO1.out.ext q2)
  have hb3 := Lib.hid (hb1.out.trans (q2.mono hb1.out.size))
  clear hM hU hX hR q2 hml
  unfold dV
  refine ⟨_, rfl, ?_⟩
  refine hK.out _ _ (cs'.out _ hb3.out) (fun hHeld => ?_)
  clear hK K
  try simp only [Act.put, List.setIfInBounds_toArray, List.set_cons_zero, List.set_cons_succ]
  refine wpAnyH_take (i := 12) (oi := { dst := some 15, op := Op.build 37 #[(0, Operand.tmp 5), (1, Operand.tmp 7), (2, Operand.tmp 9), (3, Operand.tmp 11), (4, Operand.tmp 14)], type := 37, pos := _, after := #[{ on := 2, ground := Ground.data }, { on := 4, ground := Ground.data }, { on := 6, ground := Ground.data }, { on := 8, ground := Ground.data }, { on := 11, ground := Ground.data }], guard := none }) (v := ?_) rfl (by kernel_rfl) (by kernel_rfl) (by kernel_rfl) (fun _ _ _ h => h) (Or.inl ⟨by rfl, ?_⟩) (by assumption) ?_
  rotate_left
  · intro w hSw
    go_simp
    first | done | with_reducible rfl
  try simp only [Act.put, List.setIfInBounds_toArray, List.set_cons_zero, List.set_cons_succ]
  refine wpAnyH_ready (rs := [13]) (by kernel_rfl) (by simp) ?_
  refine AllReadyH.cons (o := { dst := none, op := Op.store 37 (Operand.tmp 2) (Operand.tmp 15), type := 0, pos := _, after := #[{ on := 12, ground := Ground.data }, { on := 11, ground := Ground.chain }, { on := 0, ground := Ground.phase }, { on := 1, ground := Ground.phase }, { on := 2, ground := Ground.phase }, { on := 3, ground := Ground.phase }, { on := 4, ground := Ground.phase }, { on := 5, ground := Ground.phase }, { on := 6, ground := Ground.phase }, { on := 7, ground := Ground.phase }, { on := 8, ground := Ground.phase }, { on := 9, ground := Ground.phase }, { on := 10, ground := Ground.phase }, { on := 11, ground := Ground.phase }, { on := 12, ground := Ground.phase }], guard := none }) rfl (fun K hK => ?_) AllReadyH.nil
  have hZ := Lib.hid (B2.out.below hb3.out B2.out.lt)
  refine step_store (by rfl) 37 (.tmp 2) (.tmp 15) (by rfl) (cells := #[.slice aO on cO, .int .u16 ty, .int .u16 cl, .int .u32 ttl, .slice aM mn cM, .slice aU un cU, .slice aX xn cX, .slice aR rn cR]) (by rfl) (by rfl) hZ.out (by rfl) (by kernel_rfl) (by kernel_rfl) ?_
  intro w8 hB8 hg8 _
  have hB8 := Lib.hid hB8
  have hg8 := Lib.hid hg8
  have hle : w.heap.size ≤ W2.heap.size := by have := B2.out.lt; omega
  have hbw : Hid (Below w.heap.size w w8) := Lib.hid ((hb2.out.trans (hb3.out.mono hb2.out.size)).grown hg8.out (Nat.le_trans hle hb3.out.size) (fun j hj => by have e2 := Option.some.inj hj; omega))
  have cw : ∀ j v, W2.cell? ⟨w.heap.size, j, none⟩ = some v → w8.cell? ⟨w.heap.size, j, none⟩ = some v := fun j v hv => (World.cell?_of_block (hg8.out.block w.heap.size (Nat.lt_of_lt_of_le (by have := B2.out.lt; omega) hb3.out.size) (fun e => by have e2 : w.heap.size = W1.heap.size := Option.some.inj e; omega))).trans (cell_old hv hb3.out)
  refine hK.out _ _ ⟨cw 0 _ p0, cw 1 _ p1, cw 2 _ p2, cw 3 _ p3, cw 4 _ p4, cw 5 _ p5, cw 6 _ p6, cw 7 _ p7⟩ (fun hHeld => ?_)
  clear hK K cw
  refine wpAnyH_done (by kernel_rfl) ?_ _
  refine NoPanic.normal ?_
  go_wp2_with fail
  refine bodyPost_ret (results_c rfl _ rfl hB8.out Try.underlying37 rfl (by kernel_rfl)) rfl ?_
  refine ⟨⟨⟨aO, on, cO, ty, cl, ttl, aM, mn, cM, aU, un, cU, aX, xn, cX, aR, rn, cR⟩, rfl, ⟨(own_store hO2.out hZ.out (by decide) hg8.out).mono hle, (ownN_store hM2.out hZ.out (by decide) (by decide) hg8.out).mono hle, (own_store hU2.out hZ.out (by decide) hg8.out).mono hle, (own_store hX2.out hZ.out (by decide) hg8.out).mono hle, (own_store hR2.out hZ.out (by decide) hg8.out).mono hle⟩, rfl, rfl, rfl⟩, hbw.out⟩
end Go.Proofs.Ythgnlbdolilklaa
