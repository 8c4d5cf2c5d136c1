/- What is said is copied: Copy 9; printed by gen_cpe.py. -/
import Derived.Test.YthgnlbdolilklaaCpS
namespace Go.Proofs.Ythgnlbdolilklaa
open Go Go.RowKit
def qCpE0 (p : String) : Oper := { dst := some 15, op := Op.load 22 (Operand.tmp 14), type := 22, pos := p, after := #[{ on := 0, ground := Ground.data }], guard := none }
def qCpE1 (p : String) : Oper := { dst := some 28, op := Op.call { callee := Callee.value (Operand.func 33), args := #[Operand.tmp 27], argTypes := #[33] }, type := 33, pos := p, after := #[{ on := 13, ground := Ground.data }], guard := none }
def qCpE2 (p : String) : Oper := { dst := some 29, op := Op.build 53 #[(0, Operand.tmp 21), (1, Operand.tmp 28)], type := 53, pos := p, after := #[{ on := 7, ground := Ground.data }, { on := 14, ground := Ground.data }], guard := none }
def qCpE3 (p : String) : Oper := { dst := some 30, op := Op.buildSlice 22 1 #[(0, Operand.tmp 29)], type := 22, pos := p, after := #[{ on := 15, ground := Ground.data }], guard := none }
def qCpE4 (p : String) : Oper := { dst := some 31, op := Op.call { callee := Callee.builtin Builtin.append, args := #[Operand.tmp 15, Operand.tmp 30], argTypes := #[22, 22] }, type := 22, pos := p, after := #[{ on := 1, ground := Ground.data }, { on := 16, ground := Ground.data }, { on := 14, ground := Ground.chain }], guard := none }
def qCpE5 (p : String) : Oper := { dst := some 32, op := Op.fieldAddr 24 (Operand.tmp 3) 4, type := 0, pos := p, after := #[{ on := 0, ground := Ground.phase }, { on := 1, ground := Ground.phase }, { on := 2, ground := Ground.phase }, { on := 3, ground := Ground.phase }, { on := 4, ground := Ground.phase }, { on := 5, ground := Ground.phase }, { on := 6, ground := Ground.phase }, { on := 7, ground := Ground.phase }, { on := 8, ground := Ground.phase }, { on := 9, ground := Ground.phase }, { on := 10, ground := Ground.phase }, { on := 11, ground := Ground.phase }, { on := 12, ground := Ground.phase }, { on := 13, ground := Ground.phase }, { on := 14, ground := Ground.phase }, { on := 15, ground := Ground.phase }, { on := 16, ground := Ground.phase }, { on := 17, ground := Ground.phase }], guard := none }
def qCpE6 (p : String) : Oper := { dst := none, op := Op.store 22 (Operand.tmp 32) (Operand.tmp 31), type := 0, pos := p, after := #[{ on := 18, ground := Ground.data }, { on := 17, ground := Ground.data }, { on := 17, ground := Ground.chain }, { on := 0, ground := Ground.phase }, { on := 1, ground := Ground.phase }, { on := 2, ground := Ground.phase }, { on := 3, ground := Ground.phase }, { on := 4, ground := Ground.phase }, { on := 5, ground := Ground.phase }, { on := 6, ground := Ground.phase }, { on := 7, ground := Ground.phase }, { on := 8, ground := Ground.phase }, { on := 9, ground := Ground.phase }, { on := 10, ground := Ground.phase }, { on := 11, ground := Ground.phase }, { on := 12, ground := Ground.phase }, { on := 13, ground := Ground.phase }, { on := 14, ground := Ground.phase }, { on := 15, ground := Ground.phase }, { on := 16, ground := Ground.phase }, { on := 17, ground := Ground.phase }], guard := none }
theorem OwnO.shape {w : World} {base : Nat} {v : Value} {A : List Opt} (h : OwnO w base v A) : ∃ a c, v = .slice a A.length c := by
 obtain ⟨ps, h1, h2, _⟩ := h
 obtain ⟨a, c, e⟩ := h1.shape
 exact ⟨a, c, by rw [e, h2]⟩
theorem blk_ownO {w w' : World} {base k : Nat} {v : Value} {l : List Opt} {t : TypeId} {fz : Nat × Nat} {C : List Value} (hB : Blk w k t fz C) (ho : OwnO w base v l) (hne : (53 : Nat) ≠ t) (hg : w.grownBy w' v.ownBlock) : Blk w' k t fz C := by
 obtain ⟨ps, p1, _⟩ := ho
 exact blk_own hB p1 hne hg
theorem ownO_below {B base : Nat} {w0 w w' : World} {v : Value} {l : List Opt} (h : Below B w0 w) (hg : w.grownBy w' v.ownBlock) (ho : OwnO w base v l) (hB : B ≤ w.heap.size) (hb : B ≤ base) : Below B w0 w' := by
 obtain ⟨ps, p1, _⟩ := ho
 exact own_below h hg p1 hB hb
/-- an option is appended, as a step of a region that draws -/
theorem step_op {ops : Array Oper} {o : Oper} {a : Act} {W0 : World} {K : Act → World → Prop} {Q : Exit → Act → World → Prop} {Ep : Prop} {B base : Nat} {av a8 : Option Addr} {cv c8 nA e1 : Nat} {A : List Opt} {D : List UInt8} (hgd : o.guard = none) (s x : Operand)
 (ho : o.op = .call { callee := .builtin .append, args := #[s, x], argTypes := #[22, 22] }) (hnA : A.length = nA) (hO : OwnO W0 base (.slice av nA cv) A) (hD : Own byteE W0 base (.slice a8 D.length c8) D) {wl : World} (hB : Blk wl B 53 (0, 0) [.int .u16 (e1 : Nat), .slice a8 D.length c8]) (kb : Below W0.heap.size W0 wl) (hb : base ≤ W0.heap.size) (hA : nA * 32 ≤ 140737488355296)
 (hs : a.eval s = .slice av nA cv) (hx : a.eval x = .slice (some ⟨B, 0, none⟩) 1 1)
 (h : ∀ a9 c9 w', OwnO w' base (.slice a9 (nA + 1) c9) (A ++ [(e1, D)]) → wl.grownBy w' (Value.slice av nA cv).ownBlock → K (a.put o.dst (.slice a9 (nA + 1) c9)) w') :
 if Region.wanted o (yielded ops a.tmps) = true then Oper.wp Try.prog o a wl K Q else Ep := by
 subst hnA
 obtain ⟨i0, hi, hz0, hz1, hz2⟩ := info_parts Try.info53
 obtain ⟨ps, h1, h2, h3⟩ := hO.ext kb
 have hD' := hD.ext kb
 have hsrc := (rd_blk (E := opE) (X := [(e1, a8, D.length, c8)]) hB 1 rfl (by decide)).src (P := Try.prog) (tx := 22) Try.underlying22
 refine step_own (E := opE) hgd s x 22 22 ho Try.underlying22 hi hz0 hz1 hz2 rfl hs h1 hx hsrc (by simp [maxLen]; omega) (by simp; omega) (Nat.le_trans hb kb.size) ?_
 intro v' w2 h4 h5 _
 have h7 := OwnO.app (o := (e1, D)) h1 h2 h3 ⟨rfl, hD'⟩ h4 h5
 obtain ⟨a9, c9, e9⟩ := h7.shape
 have e10 : (A ++ [(e1, D)]).length = A.length + 1 := by simp
 rw [e10] at e9
 subst e9
 exact h a9 c9 w2 h7 h5
set_option maxHeartbeats 8000000 in
set_option maxRecDepth 100000 in
theorem copy_edns {w : World} {a : Option Addr} {n c : Nat} {O : List Opt} (h : RdO w a n c O) (hn : n * 32 ≤ 140737488355296) (hs : ∀ o ∈ O, o.2.length ≤ 140737488355328) (sz hi ver : Int) (d : Bool) :
 Calls Try.prog 9 #[eV sz hi ver d (.slice a n c)] w fun e w' => (∃ v, e = .returned (eV sz hi ver d v) ∧ OwnO w' w.heap.size v O) ∧ Below w.heap.size w w' := by
 unfold eV
 have hl := h.len
 subst hl
 have hH := Lib.hid h
 have hs' := Lib.hid hs
 clear h hs
 obtain ⟨W1, hW1⟩ : ∃ W1, w.alloc (.cells #[.int .i64 sz, .int .i64 hi, .int .i64 ver, .bool d, .slice a O.length c] 24) = W1 := ⟨_, rfl⟩
 obtain ⟨W2, hW2⟩ : ∃ W, W1.alloc (.cells #[.int .i64 0, .int .i64 0, .int .i64 0, .bool false, .slice none 0 0] 24) = W := ⟨_, rfl⟩
 obtain ⟨W3, hW3⟩ : ∃ W, W2.alloc (.cells #[.int .i64 0, .int .i64 0, .int .i64 0, .bool false, .slice none 0 0] 24) = W := ⟨_, rfl⟩
 have B1 : Blk W1 w.heap.size 24 (0, 0) [.int .i64 sz, .int .i64 hi, .int .i64 ver, .bool d, .slice a O.length c] := by rw [← hW1]; exact Blk.new w 24 (0, 0) #[.int .i64 sz, .int .i64 hi, .int .i64 ver, .bool d, .slice a O.length c]
 have B2 : Blk W2 W1.heap.size 24 (0, 0) [.int .i64 0, .int .i64 0, .int .i64 0, .bool false, .slice none 0 0] := by rw [← hW2]; exact Blk.new W1 24 (0, 0) #[.int .i64 0, .int .i64 0, .int .i64 0, .bool false, .slice none 0 0]
 have B3 : Hid (Blk W3 W2.heap.size 24 (0, 0) [.int .i64 0, .int .i64 0, .int .i64 0, .bool false, .slice none 0 0]) := Lib.hid (by rw [← hW3]; exact Blk.new W2 24 (0, 0) #[.int .i64 0, .int .i64 0, .int .i64 0, .bool false, .slice none 0 0])
 have k1 : Below w.heap.size w W1 := by rw [← hW1]; exact alloc_bel _ _
 have k2 : Below W1.heap.size W1 W2 := by rw [← hW2]; exact alloc_bel _ _
 have k3 : Below W2.heap.size W2 W3 := by rw [← hW3]; exact alloc_bel _ _
 have hz : Hid (w.heap.size < W1.heap.size ∧ W1.heap.size < W2.heap.size) := Lib.hid ⟨B1.lt, B2.lt⟩
 have hw2 : Hid (Below w.heap.size w W2) := Lib.hid (k1.trans (k2.mono k1.size))
 have hb3 : Hid (Below w.heap.size w W3) := Lib.hid ((k1.trans (k2.mono k1.size)).trans (k3.mono (by have := hz.out; omega)))
 have B12 := B1.below k2 B1.lt
 have B22 := Lib.hid B2
 have hbW3 : Hid (Below W2.heap.size W2 W3) := Lib.hid k3
 have p0 : W2.cell? ⟨w.heap.size, 0, none⟩ = some (.int .i64 sz) := (B12.cell 0).trans rfl
 have p1 : W2.cell? ⟨w.heap.size, 1, none⟩ = some (.int .i64 hi) := (B12.cell 1).trans rfl
 have p2 : W2.cell? ⟨w.heap.size, 2, none⟩ = some (.int .i64 ver) := (B12.cell 2).trans rfl
 have p3 : W2.cell? ⟨w.heap.size, 3, none⟩ = some (.bool d) := (B12.cell 3).trans rfl
 have p4 : W2.cell? ⟨w.heap.size, 4, none⟩ = some (.slice a O.length c) := (B12.cell 4).trans rfl
 clear B1 B2 B12 k1 k2 k3
 go_enter Try.func9, Try.ntmps9
 go_upto_region 2 with (refine store_whole rfl 24 (.tmp 3) (.tmp 5) rfl rfl rfl B3.out (by rfl) (by kernel_rfl) (by kernel_rfl) ?_; intro w4 hB4 hg4 hz4; have hR4 := Lib.hid hB4; have hg4' := Lib.hid hg4; have x4 : w4.cell? ⟨W2.heap.size, 4, none⟩ = some (.slice a O.length c) := (hR4.out.cell 4).trans rfl; have f4 : w4.frozen? ⟨W2.heap.size, 4, none⟩ = false := (by rw [hR4.out.frozen]; try simp); clear hB4 hg4 hz4)
 have hb4 : Hid (Below W2.heap.size W2 w4) := Lib.hid (hbW3.out.grown hg4'.out hbW3.out.size (fun j hj => by have e2 := Option.some.inj hj; omega))
 go_upto_region 4 with (fail)
 obtain ⟨V4, hV4⟩ : ∃ V, w4.setCell ⟨W2.heap.size, 4, none⟩ (.slice none 0 0) = V := ⟨_, rfl⟩
 try rw [hV4]
 have hT4 : Hid (Blk V4 W2.heap.size 24 (0, 0) [.int .i64 sz, .int .i64 hi, .int .i64 ver, .bool d, .slice none 0 0]) := Lib.hid (by rw [← hV4]; exact hR4.out.set 4 _)
 have hb5 : Hid (Below W2.heap.size W2 V4) := Lib.hid (by rw [← hV4]; exact hb4.out.setCell (Nat.le_refl _) _)
 clear hV4 x4 f4
 have hnI : (O.length : Int) ≤ 9223372036854775806 := by omega
 have p4' := Lib.hid p4
 have hcl := Lib.hid hn
 clear p0 p1 p2 p3 p4 hn
 go_loopw [4] (fun i wr => ∃ (k : Nat) (v : Value), k ≤ O.length ∧ i = .int .i64 k ∧ Hid (Blk wr W2.heap.size 24 (0, 0) [.int .i64 sz, .int .i64 hi, .int .i64 ver, .bool d, v]) ∧ Hid (OwnO wr W2.heap.size v (O.take k)) ∧ Hid (Below W2.heap.size W2 wr)) (fun i _ => O.length - (intOf i).toNat)
 case atStart => exact ⟨0, _, Nat.zero_le _, rfl, hT4, Lib.hid (OwnO.nil _ _), hb5⟩
 case round =>
  clear hT4 hb5 hR4 hg4' hb4
  obtain ⟨k, v, hk, rfl, hB, hN, hbel⟩ := hrel
  obtain ⟨av, cv, rfl⟩ := hN.out.shape
  have q4 : wr.cell? ⟨w.heap.size, 4, none⟩ = some (.slice a O.length c) := cell_old p4'.out hbel.out
  by_cases hlt : k < O.length
  ·obtain ⟨bb, o, rfl, hbb, hcs⟩ := (hH.out.ext hw2.out).at_ (by omega)
   obtain ⟨ax, nx, cx, r0, r1, r2⟩ := hcs k hlt
   have e0 := r2.len
   subst e0
   have hkI : (k : Int) < O.length := by omega
   have hk0 : 0 ≤ (k : Int) := by omega
   have htl : (O.take k).length = k := by rw [List.length_take]; omega
   have htk : O.take (k + 1) = O.take k ++ [O[k]] := List.take_succ_eq_append_getElem _
   have hnx : Hid (O[k].2.length ≤ 140737488355328) := Lib.hid (hs'.out _ (List.getElem_mem hlt))
   have htk' := Lib.hid htk
   have htl' := Lib.hid htl
   replace hN : Hid (OwnO wr W2.heap.size (.slice av k cv) (O.take k)) := Lib.hid (by have := hN.out; rw [htl] at this; exact this)
   rw [htl] at hB
   obtain ⟨c1, Y, hY⟩ : ∃ c1 Y, O[k] = (c1, Y) := ⟨_, _, rfl⟩
   rw [hY] at r0 r1 r2 hnx htk'
   dsimp only at r0 r1 r2 hnx
   have r2' := Lib.hid r2
   have cs : ∀ wx : World, Below W2.heap.size W2 wx → wx.cell? ⟨w.heap.size, 4, none⟩ = some (.slice (some ⟨bb, o, none⟩) O.length c) ∧ wx.cell? ⟨bb, o + k * 2, none⟩ = some (.int .u16 (c1 : Nat)) ∧ wx.cell? ⟨bb, o + k * 2 + 1, none⟩ = some (.slice ax Y.length cx) := fun wx hb => ⟨cell_old p4'.out hb, cell_old r0 hb, cell_old r1 hb⟩
   have cs' := Lib.hid cs
   have hkA : Hid (k * 32 ≤ 140737488355296) := Lib.hid (by have := hcl.out; omega)
   clear cs hcs r2 htk htl r0 r1 hY
   go_upto_region 6 with (fail)
   refine wp_region_noPanic ?_
   refine wp_region_held_drew (S := fun w' => w'.cell? ⟨w.heap.size, 4, none⟩ = some (.slice (some ⟨bb, o, none⟩) O.length c) ∧ w'.cell? ⟨bb, o + k * 2, none⟩ = some (.int .u16 (c1 : Nat)) ∧ w'.cell? ⟨bb, o + k * 2 + 1, none⟩ = some (.slice ax Y.length cx)) (by kernel_rfl) (cs'.out _ hbel.out.drew) (fun hHeld => ?_)
   have hb0 : Hid (Below W2.heap.size W2 wr.drew) := Lib.hid hbel.out.drew
   have k0 : Hid (Below wr.heap.size wr wr.drew) := Lib.hid (Below.refl _ _).drew
   have t0 : wr.drew.cell? ⟨W2.heap.size, 4, none⟩ = some (.slice av k cv) := (hB.out.cell 4).trans rfl
   generalize wr.drew = U0 at *
   refine tkz 0 ({ dst := some 14, op := Op.fieldAddr 24 (Operand.tmp 3) 4, type := 0, pos := _, after := #[], guard := none }) ?_ rfl ?_ ?_
   rotate_left
   ·intro w hSw
    go_simp
    first | done | with_reducible rfl
   try simp only [pz0, pz2, pz3, pz4]
   refine tkz 2 ({ dst := some 16, op := Op.fieldAddr 24 (Operand.tmp 1) 4, type := 0, pos := _, after := #[], guard := none }) ?_ rfl ?_ ?_
   rotate_left
   ·intro w hSw
    go_simp
    first | done | with_reducible rfl
   try simp only [pz0, pz2, pz3, pz4]
   refine tkz 3 ({ dst := some 17, op := Op.load 22 (Operand.tmp 16), type := 22, pos := _, after := #[{ on := 2, ground := Ground.data }], guard := none }) ?_ rfl ?_ ?_
   rotate_left
   ·intro w hSw
    go_simp
    first | done | with_reducible rfl
   try simp only [pz0, pz2, pz3, pz4]
   refine tkz 4 ({ dst := some 18, op := Op.move (Operand.tmp 4), type := 3, pos := _, after := #[], guard := none }) ?_ rfl ?_ ?_
   rotate_left
   ·intro w hSw
    go_simp
    first | done | with_reducible rfl
   try simp only [pz0, pz2, pz3, pz4]
   refine tkz 5 ({ dst := some 19, op := Op.indexAddr 22 (Operand.tmp 17) (Operand.tmp 18), type := 0, pos := _, after := #[{ on := 3, ground := Ground.data }, { on := 4, ground := Ground.data }], guard := none }) ?_ rfl ?_ ?_
   rotate_left
   ·intro w hSw
    go_simp
    first | done | with_reducible rfl
   try simp only [pz0, pz2, pz3, pz4]
   refine tkz 6 ({ dst := some 20, op := Op.fieldAddr 53 (Operand.tmp 19) 0, type := 0, pos := _, after := #[{ on := 5, ground := Ground.data }], guard := none }) ?_ rfl ?_ ?_
   rotate_left
   ·intro w hSw
    go_simp
    first | done | with_reducible rfl
   try simp only [pz0, pz2, pz3, pz4]
   refine tkz 7 ({ dst := some 21, op := Op.load 27 (Operand.tmp 20), type := 27, pos := _, after := #[{ on := 6, ground := Ground.data }], guard := none }) ?_ rfl ?_ ?_
   rotate_left
   ·intro w hSw
    go_simp
    first | done | with_reducible rfl
   try simp only [pz0, pz2, pz3, pz4]
   refine tkz 8 ({ dst := some 22, op := Op.fieldAddr 24 (Operand.tmp 1) 4, type := 0, pos := _, after := #[], guard := none }) ?_ rfl ?_ ?_
   rotate_left
   ·intro w hSw
    go_simp
    first | done | with_reducible rfl
   try simp only [pz0, pz2, pz3, pz4]
   refine tkz 9 ({ dst := some 23, op := Op.load 22 (Operand.tmp 22), type := 22, pos := _, after := #[{ on := 8, ground := Ground.data }], guard := none }) ?_ rfl ?_ ?_
   rotate_left
   ·intro w hSw
    go_simp
    first | done | with_reducible rfl
   try simp only [pz0, pz2, pz3, pz4]
   refine tkz 10 ({ dst := some 24, op := Op.move (Operand.tmp 4), type := 3, pos := _, after := #[], guard := none }) ?_ rfl ?_ ?_
   rotate_left
   ·intro w hSw
    go_simp
    first | done | with_reducible rfl
   try simp only [pz0, pz2, pz3, pz4]
   refine tkz 11 ({ dst := some 25, op := Op.indexAddr 22 (Operand.tmp 23) (Operand.tmp 24), type := 0, pos := _, after := #[{ on := 9, ground := Ground.data }, { on := 10, ground := Ground.data }], guard := none }) ?_ rfl ?_ ?_
   rotate_left
   ·intro w hSw
    go_simp
    first | done | with_reducible rfl
   try simp only [pz0, pz2, pz3, pz4]
   refine tkz 12 ({ dst := some 26, op := Op.fieldAddr 53 (Operand.tmp 25) 1, type := 0, pos := _, after := #[{ on := 11, ground := Ground.data }], guard := none }) ?_ rfl ?_ ?_
   rotate_left
   ·intro w hSw
    go_simp
    first | done | with_reducible rfl
   try simp only [pz0, pz2, pz3, pz4]
   refine tkz 13 ({ dst := some 27, op := Op.load 33 (Operand.tmp 26), type := 33, pos := _, after := #[{ on := 12, ground := Ground.data }], guard := none }) ?_ rfl ?_ ?_
   rotate_left
   ·intro w hSw
    go_simp
    first | done | with_reducible rfl
   try simp only [pz0, pz2, pz3, pz4]
   refine wpAnyH_ready (rs := [1, 14]) (by kernel_rfl) (by simp) ?_
   refine arz (qCpE0 _) rfl (fun K hK => ?_) ?_
   ·unfold qCpE0
    go_simp
    refine hK.out _ _ (cs'.out _ hb0.out) (fun hHeld => ?_)
    clear hK K
    try simp only [pz0, pz2, pz3, pz4]
    refine wpAnyH_ready (rs := [14]) (by kernel_rfl) (by simp) ?_
    refine arz (qCpE1 _) rfl (fun K hK => ?_) AllReadyH.nil
    unfold qCpE1
    refine step_call (by rfl) (.tmp 27) 33 (by rfl) (by rfl) enter33 ?_
    refine (copy_bytes (r2'.out.ext hb0.out) hnx.out).mono ?_
    rintro e U2 ⟨⟨vx, rfl, hY⟩, q2⟩
    obtain ⟨aY, cY, rfl⟩ := hY.shape
    have hY2 := Lib.hid (hY.mono hb0.out.size)
    clear hY
    have k2 := Lib.hid (k0.out.trans (q2.mono k0.out.size))
    have hb2 := Lib.hid (hb0.out.trans (q2.mono hb0.out.size))
    clear q2
    have t2 : U2.cell? ⟨W2.heap.size, 4, none⟩ = some (.slice av k cv) := ((hB.out.below k2.out hB.out.lt).cell 4).trans rfl
    refine ⟨_, rfl, ?_⟩
    refine hK.out _ _ (cs'.out _ hb2.out) (fun hHeld => ?_)
    clear hK K
    try simp only [pz0, pz2, pz3, pz4]
    refine tkz 15 (qCpE2 _) ?_ rfl ?_ ?_
    rotate_left
    ·intro w hSw
     unfold qCpE2
     go_simp
     first | done | with_reducible rfl
    try simp only [qCpE2, pz0, pz2, pz3, pz4]
    refine wpAnyH_ready (rs := [16]) (by kernel_rfl) (by simp) ?_
    refine arz (qCpE3 _) rfl (fun K hK => ?_) AllReadyH.nil
    unfold qCpE3
    go_simp
    obtain ⟨U3, e3⟩ : ∃ U, U2.alloc (.cells #[.int .u16 (c1 : Nat), .slice aY Y.length cY] 53) = U := ⟨_, rfl⟩
    have m3 : Hid (Below U2.heap.size U2 U3) := Lib.hid (by rw [← e3]; exact alloc_bel _ _)
    have hL3 : Hid (Blk U3 U2.heap.size 53 (0, 0) [.int .u16 (c1 : Nat), .slice aY Y.length cY]) := Lib.hid (by rw [← e3]; exact Blk.new U2 53 (0, 0) #[.int .u16 (c1 : Nat), .slice aY Y.length cY])
    have k3 := Lib.hid (k2.out.trans (m3.out.mono k2.out.size))
    have hb3 := Lib.hid (hb2.out.trans (m3.out.mono hb2.out.size))
    have t3 : U3.cell? ⟨W2.heap.size, 4, none⟩ = some (.slice av k cv) := ((hB.out.below k3.out hB.out.lt).cell 4).trans rfl
    rw [e3]
    clear e3
    refine hK.out _ _ (cs'.out _ hb3.out) (fun hHeld => ?_)
    clear hK K
    try simp only [pz0, pz2, pz3, pz4]
    refine wpAnyH_ready (rs := [17]) (by kernel_rfl) (by simp) ?_
    refine arz (qCpE4 _) rfl (fun K hK => ?_) AllReadyH.nil
    unfold qCpE4
    refine step_op (W0 := U2) (base := W2.heap.size) (by rfl) (.tmp 15) (.tmp 30) (by rfl) htl'.out (hN.out.ext k2.out) hY2.out hL3.out m3.out hb2.out.size hkA.out (by rfl) (by rfl) ?_
    intro a9 c9 U4 hN4 hg4
    have hN4 := Lib.hid hN4
    have hO4 := hN.out.ext k3.out
    have hb4 := Lib.hid (ownO_below hb3.out hg4 hO4 hb3.out.size (Nat.le_refl _))
    have hB4 := Lib.hid (blk_ownO (hB.out.below k3.out hB.out.lt) hO4 (by decide) hg4)
    have t4 : U4.cell? ⟨W2.heap.size, 4, none⟩ = some (.slice av k cv) := (hB4.out.cell 4).trans rfl
    have f4 : U4.frozen? ⟨W2.heap.size, 4, none⟩ = false := by rw [hB4.out.frozen]; try simp
    clear hO4 hg4
    refine hK.out _ _ (cs'.out _ hb4.out) (fun hHeld => ?_)
    clear hK K
    try simp only [pz0, pz2, pz3, pz4]
    refine tkz 18 (qCpE5 _) ?_ rfl ?_ ?_
    rotate_left
    ·intro w hSw
     unfold qCpE5
     go_simp
     first | done | with_reducible rfl
    try simp only [qCpE5, pz0, pz2, pz3, pz4]
    refine wpAnyH_ready (rs := [19]) (by kernel_rfl) (by simp) ?_
    refine arz (qCpE6 _) rfl (fun K hK => ?_) AllReadyH.nil
    unfold qCpE6
    go_simp
    obtain ⟨V, hV⟩ : ∃ V, U4.setCell ⟨W2.heap.size, 4, none⟩ (.slice a9 (k + 1) c9) = V := ⟨_, rfl⟩
    rw [hV]
    have hgV : U4.grownBy V (some W2.heap.size) := by rw [← hV]; exact grown_set _ _ _ _
    have yB : Hid (Blk V W2.heap.size 24 (0, 0) [.int .i64 sz, .int .i64 hi, .int .i64 ver, .bool d, .slice a9 (k + 1) c9]) := Lib.hid (by rw [← hV]; exact hB4.out.set 4 _)
    have yN : Hid (OwnO V W2.heap.size (.slice a9 (k + 1) c9) (O.take (k + 1))) := Lib.hid (by rw [htk'.out]; exact ownO_store hN4.out hB4.out (by decide) (by decide) hgV)
    have yb : Hid (Below W2.heap.size W2 V) := Lib.hid (hb4.out.grown hgV hb4.out.size (fun j hj => by have e2 := Option.some.inj hj; omega))
    clear hV hgV
    refine hK.out _ _ (cs'.out _ yb.out) (fun hHeld => ?_)
    clear hK K
    refine wpAnyH_done (by kernel_rfl) ?_ _
    refine NoPanic.normal ?_
    go_wp2_with fail
    go_roundw
    case rel => exact ⟨k + 1, _, by omega, by go_num, yB, yN, yb⟩
    case measure => simp [intOf]; omega
   refine arz (qCpE1 _) rfl (fun K hK => ?_) AllReadyH.nil
   unfold qCpE1
   refine step_call (by rfl) (.tmp 27) 33 (by rfl) (by rfl) enter33 ?_
   refine (copy_bytes (r2'.out.ext hb0.out) hnx.out).mono ?_
   rintro e U6 ⟨⟨vx, rfl, hY⟩, q6⟩
   obtain ⟨aY, cY, rfl⟩ := hY.shape
   have hY6 := Lib.hid (hY.mono hb0.out.size)
   clear hY
   have k6 := Lib.hid (k0.out.trans (q6.mono k0.out.size))
   have hb6 := Lib.hid (hb0.out.trans (q6.mono hb0.out.size))
   clear q6
   have t6 : U6.cell? ⟨W2.heap.size, 4, none⟩ = some (.slice av k cv) := ((hB.out.below k6.out hB.out.lt).cell 4).trans rfl
   refine ⟨_, rfl, ?_⟩
   refine hK.out _ _ (cs'.out _ hb6.out) (fun hHeld => ?_)
   clear hK K
   try simp only [pz0, pz2, pz3, pz4]
   refine tkz 15 (qCpE2 _) ?_ rfl ?_ ?_
   rotate_left
   ·intro w hSw
    unfold qCpE2
    go_simp
    first | done | with_reducible rfl
   try simp only [qCpE2, pz0, pz2, pz3, pz4]
   refine wpAnyH_ready (rs := [1, 16]) (by kernel_rfl) (by simp) ?_
   refine arz (qCpE0 _) rfl (fun K hK => ?_) ?_
   ·unfold qCpE0
    go_simp
    refine hK.out _ _ (cs'.out _ hb6.out) (fun hHeld => ?_)
    clear hK K
    try simp only [pz0, pz2, pz3, pz4]
    refine wpAnyH_ready (rs := [16]) (by kernel_rfl) (by simp) ?_
    refine arz (qCpE3 _) rfl (fun K hK => ?_) AllReadyH.nil
    unfold qCpE3
    go_simp
    obtain ⟨U8, e8⟩ : ∃ U, U6.alloc (.cells #[.int .u16 (c1 : Nat), .slice aY Y.length cY] 53) = U := ⟨_, rfl⟩
    have m8 : Hid (Below U6.heap.size U6 U8) := Lib.hid (by rw [← e8]; exact alloc_bel _ _)
    have hL8 : Hid (Blk U8 U6.heap.size 53 (0, 0) [.int .u16 (c1 : Nat), .slice aY Y.length cY]) := Lib.hid (by rw [← e8]; exact Blk.new U6 53 (0, 0) #[.int .u16 (c1 : Nat), .slice aY Y.length cY])
    have k8 := Lib.hid (k6.out.trans (m8.out.mono k6.out.size))
    have hb8 := Lib.hid (hb6.out.trans (m8.out.mono hb6.out.size))
    have t8 : U8.cell? ⟨W2.heap.size, 4, none⟩ = some (.slice av k cv) := ((hB.out.below k8.out hB.out.lt).cell 4).trans rfl
    rw [e8]
    clear e8
    refine hK.out _ _ (cs'.out _ hb8.out) (fun hHeld => ?_)
    clear hK K
    try simp only [pz0, pz2, pz3, pz4]
    refine wpAnyH_ready (rs := [17]) (by kernel_rfl) (by simp) ?_
    refine arz (qCpE4 _) rfl (fun K hK => ?_) AllReadyH.nil
    unfold qCpE4
    refine step_op (W0 := U6) (base := W2.heap.size) (by rfl) (.tmp 15) (.tmp 30) (by rfl) htl'.out (hN.out.ext k6.out) hY6.out hL8.out m8.out hb6.out.size hkA.out (by rfl) (by rfl) ?_
    intro a9 c9 U9 hN9 hg9
    have hN9 := Lib.hid hN9
    have hO9 := hN.out.ext k8.out
    have hb9 := Lib.hid (ownO_below hb8.out hg9 hO9 hb8.out.size (Nat.le_refl _))
    have hB9 := Lib.hid (blk_ownO (hB.out.below k8.out hB.out.lt) hO9 (by decide) hg9)
    have t9 : U9.cell? ⟨W2.heap.size, 4, none⟩ = some (.slice av k cv) := (hB9.out.cell 4).trans rfl
    have f9 : U9.frozen? ⟨W2.heap.size, 4, none⟩ = false := by rw [hB9.out.frozen]; try simp
    clear hO9 hg9
    refine hK.out _ _ (cs'.out _ hb9.out) (fun hHeld => ?_)
    clear hK K
    try simp only [pz0, pz2, pz3, pz4]
    refine tkz 18 (qCpE5 _) ?_ rfl ?_ ?_
    rotate_left
    ·intro w hSw
     unfold qCpE5
     go_simp
     first | done | with_reducible rfl
    try simp only [qCpE5, pz0, pz2, pz3, pz4]
    refine wpAnyH_ready (rs := [19]) (by kernel_rfl) (by simp) ?_
    refine arz (qCpE6 _) rfl (fun K hK => ?_) AllReadyH.nil
    unfold qCpE6
    go_simp
    obtain ⟨V, hV⟩ : ∃ V, U9.setCell ⟨W2.heap.size, 4, none⟩ (.slice a9 (k + 1) c9) = V := ⟨_, rfl⟩
    rw [hV]
    have hgV : U9.grownBy V (some W2.heap.size) := by rw [← hV]; exact grown_set _ _ _ _
    have yB : Hid (Blk V W2.heap.size 24 (0, 0) [.int .i64 sz, .int .i64 hi, .int .i64 ver, .bool d, .slice a9 (k + 1) c9]) := Lib.hid (by rw [← hV]; exact hB9.out.set 4 _)
    have yN : Hid (OwnO V W2.heap.size (.slice a9 (k + 1) c9) (O.take (k + 1))) := Lib.hid (by rw [htk'.out]; exact ownO_store hN9.out hB9.out (by decide) (by decide) hgV)
    have yb : Hid (Below W2.heap.size W2 V) := Lib.hid (hb9.out.grown hgV hb9.out.size (fun j hj => by have e2 := Option.some.inj hj; omega))
    clear hV hgV
    refine hK.out _ _ (cs'.out _ yb.out) (fun hHeld => ?_)
    clear hK K
    refine wpAnyH_done (by kernel_rfl) ?_ _
    refine NoPanic.normal ?_
    go_wp2_with fail
    go_roundw
    case rel => exact ⟨k + 1, _, by omega, by go_num, yB, yN, yb⟩
    case measure => simp [intOf]; omega
   refine arz (qCpE3 _) rfl (fun K hK => ?_) AllReadyH.nil
   unfold qCpE3
   go_simp
   obtain ⟨U11, e11⟩ : ∃ U, U6.alloc (.cells #[.int .u16 (c1 : Nat), .slice aY Y.length cY] 53) = U := ⟨_, rfl⟩
   have m11 : Hid (Below U6.heap.size U6 U11) := Lib.hid (by rw [← e11]; exact alloc_bel _ _)
   have hL11 : Hid (Blk U11 U6.heap.size 53 (0, 0) [.int .u16 (c1 : Nat), .slice aY Y.length cY]) := Lib.hid (by rw [← e11]; exact Blk.new U6 53 (0, 0) #[.int .u16 (c1 : Nat), .slice aY Y.length cY])
   have k11 := Lib.hid (k6.out.trans (m11.out.mono k6.out.size))
   have hb11 := Lib.hid (hb6.out.trans (m11.out.mono hb6.out.size))
   have t11 : U11.cell? ⟨W2.heap.size, 4, none⟩ = some (.slice av k cv) := ((hB.out.below k11.out hB.out.lt).cell 4).trans rfl
   rw [e11]
   clear e11
   refine hK.out _ _ (cs'.out _ hb11.out) (fun hHeld => ?_)
   clear hK K
   try simp only [pz0, pz2, pz3, pz4]
   refine wpAnyH_ready (rs := [1]) (by kernel_rfl) (by simp) ?_
   refine arz (qCpE0 _) rfl (fun K hK => ?_) AllReadyH.nil
   unfold qCpE0
   go_simp
   refine hK.out _ _ (cs'.out _ hb11.out) (fun hHeld => ?_)
   clear hK K
   try simp only [pz0, pz2, pz3, pz4]
   refine wpAnyH_ready (rs := [17]) (by kernel_rfl) (by simp) ?_
   refine arz (qCpE4 _) rfl (fun K hK => ?_) AllReadyH.nil
   unfold qCpE4
   refine step_op (W0 := U6) (base := W2.heap.size) (by rfl) (.tmp 15) (.tmp 30) (by rfl) htl'.out (hN.out.ext k6.out) hY6.out hL11.out m11.out hb6.out.size hkA.out (by rfl) (by rfl) ?_
   intro a9 c9 U13 hN13 hg13
   have hN13 := Lib.hid hN13
   have hO13 := hN.out.ext k11.out
   have hb13 := Lib.hid (ownO_below hb11.out hg13 hO13 hb11.out.size (Nat.le_refl _))
   have hB13 := Lib.hid (blk_ownO (hB.out.below k11.out hB.out.lt) hO13 (by decide) hg13)
   have t13 : U13.cell? ⟨W2.heap.size, 4, none⟩ = some (.slice av k cv) := (hB13.out.cell 4).trans rfl
   have f13 : U13.frozen? ⟨W2.heap.size, 4, none⟩ = false := by rw [hB13.out.frozen]; try simp
   clear hO13 hg13
   refine hK.out _ _ (cs'.out _ hb13.out) (fun hHeld => ?_)
   clear hK K
   try simp only [pz0, pz2, pz3, pz4]
   refine tkz 18 (qCpE5 _) ?_ rfl ?_ ?_
   rotate_left
   ·intro w hSw
    unfold qCpE5
    go_simp
    first | done | with_reducible rfl
   try simp only [qCpE5, pz0, pz2, pz3, pz4]
   refine wpAnyH_ready (rs := [19]) (by kernel_rfl) (by simp) ?_
   refine arz (qCpE6 _) rfl (fun K hK => ?_) AllReadyH.nil
   unfold qCpE6
   go_simp
   obtain ⟨V, hV⟩ : ∃ V, U13.setCell ⟨W2.heap.size, 4, none⟩ (.slice a9 (k + 1) c9) = V := ⟨_, rfl⟩
   rw [hV]
   have hgV : U13.grownBy V (some W2.heap.size) := by rw [← hV]; exact grown_set _ _ _ _
   have yB : Hid (Blk V W2.heap.size 24 (0, 0) [.int .i64 sz, .int .i64 hi, .int .i64 ver, .bool d, .slice a9 (k + 1) c9]) := Lib.hid (by rw [← hV]; exact hB13.out.set 4 _)
   have yN : Hid (OwnO V W2.heap.size (.slice a9 (k + 1) c9) (O.take (k + 1))) := Lib.hid (by rw [htk'.out]; exact ownO_store hN13.out hB13.out (by decide) (by decide) hgV)
   have yb : Hid (Below W2.heap.size W2 V) := Lib.hid (hb13.out.grown hgV hb13.out.size (fun j hj => by have e2 := Option.some.inj hj; omega))
   clear hV hgV
   refine hK.out _ _ (cs'.out _ yb.out) (fun hHeld => ?_)
   clear hK K
   refine wpAnyH_done (by kernel_rfl) ?_ _
   refine NoPanic.normal ?_
   go_wp2_with fail
   go_roundw
   case rel => exact ⟨k + 1, _, by omega, by go_num, yB, yN, yb⟩
   case measure => simp [intOf]; omega
  ·have hk' : k = O.length := by omega
   subst hk'
   rw [List.take_length] at hN hB
   have t0 : wr.cell? ⟨W2.heap.size, 0, none⟩ = some (.int .i64 sz) := (hB.out.cell 0).trans rfl
   have t1 : wr.cell? ⟨W2.heap.size, 1, none⟩ = some (.int .i64 hi) := (hB.out.cell 1).trans rfl
   have t2 : wr.cell? ⟨W2.heap.size, 2, none⟩ = some (.int .i64 ver) := (hB.out.cell 2).trans rfl
   have t3 : wr.cell? ⟨W2.heap.size, 3, none⟩ = some (.bool d) := (hB.out.cell 3).trans rfl
   have t4 : wr.cell? ⟨W2.heap.size, 4, none⟩ = some (.slice av O.length cv) := (hB.out.cell 4).trans rfl
   have hZ := Lib.hid (B22.out.below hbel.out hz.out.2)
   have hbw : Hid (Below w.heap.size w wr) := Lib.hid (hw2.out.trans (hbel.out.mono hw2.out.size))
   go_wp2_with (refine store_whole rfl 24 (.tmp 2) (.tmp 33) rfl rfl rfl hZ.out (by rfl) (by kernel_rfl) (by kernel_rfl) ?_; intro w6 hB6 hg6 hz6; have hR6 := Lib.hid hB6; have hg6' := Lib.hid hg6; clear hB6 hg6 hz6)
   refine bodyPost_ret (results_c rfl _ rfl hR6.out Try.underlying24 rfl (by kernel_rfl)) rfl ?_
   refine ⟨⟨_, rfl, (ownO_store hN.out hZ.out (by decide) (by decide) hg6'.out).mono hw2.out.size⟩, ?_⟩
   exact hbw.out.grown hg6'.out hbw.out.size (fun j hj => by have e2 := Option.some.inj hj; have := hz.out; omega)
end Go.Proofs.Ythgnlbdolilklaa
