/- The document's Read 14; printed by gen_rfr.py. -/
import Derived.Test.YthgnlbdolilklaaCpE
import Derived.Test.YthgnlbdolilklaaRfE
import Derived.IntWalk
namespace Go.Proofs.Ythgnlbdolilklaa
open Go Go.RowKit
def qRfR0 (p : String) : Oper := { dst := some 96, op := Op.load 22 (Operand.tmp 95), type := 22, pos := p, after := #[{ on := 0, ground := Ground.data }], guard := none }
def qRfR1 (p : String) : Oper := { dst := some 107, op := Op.buildSlice 33 0 #[], type := 33, pos := p, after := #[], guard := none }
def qRfR2 (p : String) : Oper := { dst := some 112, op := Op.call { callee := Callee.builtin Builtin.append, args := #[Operand.tmp 107, Operand.tmp 111], argTypes := #[33, 33] }, type := 33, pos := p, after := #[{ on := 12, ground := Ground.data }, { on := 16, ground := Ground.data }], guard := none }
def qRfR3 (p : String) : Oper := { dst := some 113, op := Op.build 53 #[(0, Operand.tmp 106), (1, Operand.tmp 112)], type := 53, pos := p, after := #[{ on := 11, ground := Ground.data }, { on := 17, ground := Ground.data }], guard := none }
def qRfR4 (p : String) : Oper := { dst := some 114, op := Op.buildSlice 22 1 #[(0, Operand.tmp 113)], type := 22, pos := p, after := #[{ on := 18, ground := Ground.data }], guard := none }
def qRfR5 (p : String) : Oper := { dst := some 115, op := Op.call { callee := Callee.builtin Builtin.append, args := #[Operand.tmp 96, Operand.tmp 114], argTypes := #[22, 22] }, type := 22, pos := p, after := #[{ on := 1, ground := Ground.data }, { on := 19, ground := Ground.data }, { on := 17, ground := Ground.chain }], guard := none }
def qRfR6 (p : String) : Oper := { dst := some 116, op := Op.fieldAddr 24 (Operand.tmp 4) 4, type := 0, pos := p, after := #[{ on := 0, ground := Ground.phase }, { on := 1, ground := Ground.phase }, { on := 2, ground := Ground.phase }, { on := 3, ground := Ground.phase }, { on := 4, ground := Ground.phase }, { on := 5, ground := Ground.phase }, { on := 6, ground := Ground.phase }, { on := 7, ground := Ground.phase }, { on := 8, ground := Ground.phase }, { on := 9, ground := Ground.phase }, { on := 10, ground := Ground.phase }, { on := 11, ground := Ground.phase }, { on := 12, ground := Ground.phase }, { on := 13, ground := Ground.phase }, { on := 14, ground := Ground.phase }, { on := 15, ground := Ground.phase }, { on := 16, ground := Ground.phase }, { on := 17, ground := Ground.phase }, { on := 18, ground := Ground.phase }, { on := 19, ground := Ground.phase }, { on := 20, ground := Ground.phase }], guard := none }
def qRfR7 (p : String) : Oper := { dst := none, op := Op.store 22 (Operand.tmp 116) (Operand.tmp 115), type := 0, pos := p, after := #[{ on := 21, ground := Ground.data }, { on := 20, ground := Ground.data }, { on := 20, ground := Ground.chain }, { on := 0, ground := Ground.phase }, { on := 1, ground := Ground.phase }, { on := 2, ground := Ground.phase }, { on := 3, ground := Ground.phase }, { on := 4, ground := Ground.phase }, { on := 5, ground := Ground.phase }, { on := 6, ground := Ground.phase }, { on := 7, ground := Ground.phase }, { on := 8, ground := Ground.phase }, { on := 9, ground := Ground.phase }, { on := 10, ground := Ground.phase }, { on := 11, ground := Ground.phase }, { on := 12, ground := Ground.phase }, { on := 13, ground := Ground.phase }, { on := 14, ground := Ground.phase }, { on := 15, ground := Ground.phase }, { on := 16, ground := Ground.phase }, { on := 17, ground := Ground.phase }, { on := 18, ground := Ground.phase }, { on := 19, ground := Ground.phase }, { on := 20, ground := Ground.phase }], guard := none }
theorem cD_two (l : List UInt8) (p : Nat) (h : p + 1 < l.length) : cD l p = (l[p]'(by omega)).toNat * 256 + (l[p + 1]).toNat := by
 unfold cD
 have e : (l.drop p).take 2 = [l[p]'(by omega), l[p + 1]] := by
  rw [List.drop_eq_getElem_cons (by omega), List.drop_eq_getElem_cons h]
  rfl
 rw [e, numL_two]
theorem step_op2 {ops : Array Oper} {o : Oper} {a : Act} {W0 : World} {K : Act → World → Prop} {Q : Exit → Act → World → Prop} {Ep : Prop} {B base : Nat} {av a8 : Option Addr} {cv c8 nA nD e1 : Nat} {A : List Opt} {D : List UInt8} (hgd : o.guard = none) (s x : Operand)
 (ho : o.op = .call { callee := .builtin .append, args := #[s, x], argTypes := #[22, 22] }) (hnA : A.length = nA) (hnD : D.length = nD) (hO : OwnO W0 base (.slice av nA cv) A) (hD : Own byteE W0 base (.slice a8 nD c8) D) {wl : World} (hB : Blk wl B 53 (0, 0) [.int .u16 (e1 : Nat), .slice a8 nD c8]) (kb : Below W0.heap.size W0 wl) (hb : base ≤ W0.heap.size) (hA : nA * 32 ≤ 140737488355296)
 (hs : a.eval s = .slice av nA cv) (hx : a.eval x = .slice (some ⟨B, 0, none⟩) 1 1)
 (h : ∀ a9 c9 w', OwnO w' base (.slice a9 (nA + 1) c9) (A ++ [(e1, D)]) → wl.grownBy w' (Value.slice av nA cv).ownBlock → K (a.put o.dst (.slice a9 (nA + 1) c9)) w') :
 if Region.wanted o (yielded ops a.tmps) = true then Oper.wp Try.prog o a wl K Q else Ep := by
 subst hnD
 exact step_op hgd s x ho hnA hO hD hB kb hb hA hs hx h
set_option maxHeartbeats 8000000 in
set_option maxRecDepth 100000 in
theorem ref_read {w : World} (a0 : Option Addr) (n0 c0 : Nat) (ty cl ttl : Nat) (a4 : Option Addr) (n4 c4 : Nat) (a5 : Option Addr) (n5 c5 : Nat) (a6 : Option Addr) (n6 c6 : Nat) {a : Option Addr} {n c : Nat} {l : List UInt8} (h : Rd byteE w a n c l)
 (ht : ttl < 4294967296) (_hty : ty < 65536) (hcl : cl < 65536) :
 Calls Try.prog 14 #[rV (.slice a0 n0 c0) ty cl ttl (.slice a4 n4 c4) (.slice a5 n5 c5) (.slice a6 n6 c6) (.slice a n c)] w fun e w' => ReadB w.heap.size n0 ty cl ttl n4 n5 n6 l e w' ∧ Below w.heap.size w w' := by
 unfold rV
 have hl := h.len
 have hH := Lib.hid h
 have hl' := Lib.hid hl
 clear h hl
 obtain ⟨W1, hW1⟩ : ∃ W, w.alloc (.cells #[.slice a0 n0 c0, .int .u16 ty, .int .u16 cl, .int .u32 ttl, .slice a4 n4 c4, .slice a5 n5 c5, .slice a6 n6 c6, .slice a n c] 37) = W := ⟨_, rfl⟩
 obtain ⟨W2, hW2⟩ : ∃ W, W1.alloc (.cells #[.int .i64 0, .int .i64 0, .int .i64 0, .bool false, .slice none 0 0] 24) = W := ⟨_, rfl⟩
 have B1 : Blk W1 w.heap.size 37 (0, 0) [.slice a0 n0 c0, .int .u16 ty, .int .u16 cl, .int .u32 ttl, .slice a4 n4 c4, .slice a5 n5 c5, .slice a6 n6 c6, .slice a n c] := by rw [← hW1]; exact Blk.new w 37 (0, 0) #[.slice a0 n0 c0, .int .u16 ty, .int .u16 cl, .int .u32 ttl, .slice a4 n4 c4, .slice a5 n5 c5, .slice a6 n6 c6, .slice a n c]
 have B2 : Hid (Blk W2 W1.heap.size 24 (0, 0) [.int .i64 0, .int .i64 0, .int .i64 0, .bool false, .slice none 0 0]) := Lib.hid (by rw [← hW2]; exact Blk.new W1 24 (0, 0) #[.int .i64 0, .int .i64 0, .int .i64 0, .bool false, .slice none 0 0])
 have k1 : Below w.heap.size w W1 := by rw [← hW1]; exact alloc_bel _ _
 have k2 : Below W1.heap.size W1 W2 := by rw [← hW2]; exact alloc_bel _ _
 have B12 := Lib.hid (B1.below k2 B1.lt)
 have hb2 : Hid (Below w.heap.size w W2) := Lib.hid (k1.trans (k2.mono k1.size))
 have hz : Hid (w.heap.size < W1.heap.size ∧ W1.heap.size < W2.heap.size) := Lib.hid ⟨B1.lt, B2.out.lt⟩
 have p0 : W2.cell? ⟨w.heap.size, 0, none⟩ = some (.slice a0 n0 c0) := (B12.out.cell 0).trans rfl
 have p1 : W2.cell? ⟨w.heap.size, 1, none⟩ = some (.int .u16 ty) := (B12.out.cell 1).trans rfl
 have p2 : W2.cell? ⟨w.heap.size, 2, none⟩ = some (.int .u16 cl) := (B12.out.cell 2).trans rfl
 have p3 : W2.cell? ⟨w.heap.size, 3, none⟩ = some (.int .u32 ttl) := (B12.out.cell 3).trans rfl
 have p4 : W2.cell? ⟨w.heap.size, 4, none⟩ = some (.slice a4 n4 c4) := (B12.out.cell 4).trans rfl
 have p5 : W2.cell? ⟨w.heap.size, 5, none⟩ = some (.slice a5 n5 c5) := (B12.out.cell 5).trans rfl
 have p6 : W2.cell? ⟨w.heap.size, 6, none⟩ = some (.slice a6 n6 c6) := (B12.out.cell 6).trans rfl
 have p7 : W2.cell? ⟨w.heap.size, 7, none⟩ = some (.slice a n c) := (B12.out.cell 7).trans rfl
 clear B1 k1 k2
 have hbad : ¬ rdOK n0 ty ttl n4 n5 n6 n → Calls Try.prog 14 #[.agg #[.slice a0 n0 c0, .int .u16 ty, .int .u16 cl, .int .u32 ttl, .slice a4 n4 c4, .slice a5 n5 c5, .slice a6 n6 c6, .slice a n c]] w fun e w' => ReadB w.heap.size n0 ty cl ttl n4 n5 n6 l e w' ∧ Below w.heap.size w w' := by
  intro hno
  have hno' : Hid (¬ rdOK n0 ty ttl n4 n5 n6 l.length) := Lib.hid (by rw [hl'.out]; exact hno)
  have fin : ∀ (e : Ending) (w6 : World), e = .returned (.tuple #[eV 0 0 0 false nilV, .int .i64 8]) → ReadB w.heap.size n0 ty cl ttl n4 n5 n6 l e w6 := fun e w6 he => ReadB.bad (.inl hno'.out) he
  have fin' := Lib.hid fin
  clear fin
  unfold rdOK at hno
  by_cases q0 : n0 = 0
  ·by_cases q1 : ty = 41
   ·have f1 : ((ty : Int) != 41) = false := by rw [q1]; rfl
    by_cases q2 : ttl % 32768 = 0
    ·by_cases q3 : n4 = 0
     ·by_cases q4 : n5 = 0
      ·by_cases q5 : n6 = 0
       ·have q6 : 65535 < n := by omega
        have f6 : (65535 : Int) < n := by omega
        clear hno q6 q1
        subst q0 q3 q4 q5
        have f2 : ((ttl : Int) % 32768 != 0) = false := by simp; omega
        go_enter Try.func14, Try.ntmps14
        go_wp2_with (refine store_whole rfl 24 (.tmp 2) (.tmp 50) rfl rfl rfl B2.out (by rfl) (by kernel_rfl) (by kernel_rfl) ?_; intro w6 hB6 hg6 hz6; have hR6 := Lib.hid hB6; have hb6 := Lib.hid (hb2.out.grown hg6 hb2.out.size (fun j hj => by cases hj; exact Nat.le_of_lt hz.out.1)); clear hB6 hg6 hz6)
        refine bodyPost_ret (results_ct rfl _ rfl hR6.out Try.underlying24 rfl (by kernel_rfl)) rfl ?_
        exact ⟨fin'.out _ _ rfl, hb6.out⟩
       ·have f5 : ((n6 : Int) != 0) = true := by simp; omega
        have g5 : ¬ (n6 : Int) = 0 := by omega
        clear hno q1
        subst q0 q3 q4
        have f2 : ((ttl : Int) % 32768 != 0) = false := by simp; omega
        go_enter Try.func14, Try.ntmps14
        go_wp2_with (refine store_whole rfl 24 (.tmp 2) (.tmp 50) rfl rfl rfl B2.out (by rfl) (by kernel_rfl) (by kernel_rfl) ?_; intro w6 hB6 hg6 hz6; have hR6 := Lib.hid hB6; have hb6 := Lib.hid (hb2.out.grown hg6 hb2.out.size (fun j hj => by cases hj; exact Nat.le_of_lt hz.out.1)); clear hB6 hg6 hz6)
        refine bodyPost_ret (results_ct rfl _ rfl hR6.out Try.underlying24 rfl (by kernel_rfl)) rfl ?_
        exact ⟨fin'.out _ _ rfl, hb6.out⟩
      ·have f4 : ((n5 : Int) != 0) = true := by simp; omega
       have g4 : ¬ (n5 : Int) = 0 := by omega
       clear hno q1
       subst q0 q3
       have f2 : ((ttl : Int) % 32768 != 0) = false := by simp; omega
       go_enter Try.func14, Try.ntmps14
       go_wp2_with (refine store_whole rfl 24 (.tmp 2) (.tmp 50) rfl rfl rfl B2.out (by rfl) (by kernel_rfl) (by kernel_rfl) ?_; intro w6 hB6 hg6 hz6; have hR6 := Lib.hid hB6; have hb6 := Lib.hid (hb2.out.grown hg6 hb2.out.size (fun j hj => by cases hj; exact Nat.le_of_lt hz.out.1)); clear hB6 hg6 hz6)
       refine bodyPost_ret (results_ct rfl _ rfl hR6.out Try.underlying24 rfl (by kernel_rfl)) rfl ?_
       exact ⟨fin'.out _ _ rfl, hb6.out⟩
     ·have f3 : ((n4 : Int) != 0) = true := by simp; omega
      have g3 : ¬ (n4 : Int) = 0 := by omega
      clear hno q1
      subst q0
      have f2 : ((ttl : Int) % 32768 != 0) = false := by simp; omega
      go_enter Try.func14, Try.ntmps14
      go_wp2_with (refine store_whole rfl 24 (.tmp 2) (.tmp 50) rfl rfl rfl B2.out (by rfl) (by kernel_rfl) (by kernel_rfl) ?_; intro w6 hB6 hg6 hz6; have hR6 := Lib.hid hB6; have hb6 := Lib.hid (hb2.out.grown hg6 hb2.out.size (fun j hj => by cases hj; exact Nat.le_of_lt hz.out.1)); clear hB6 hg6 hz6)
      refine bodyPost_ret (results_ct rfl _ rfl hR6.out Try.underlying24 rfl (by kernel_rfl)) rfl ?_
      exact ⟨fin'.out _ _ rfl, hb6.out⟩
    ·have f2 : ((ttl : Int) % 32768 != 0) = true := by simp; omega
     clear hno q1
     subst q0
     go_enter Try.func14, Try.ntmps14
     go_wp2_with (refine store_whole rfl 24 (.tmp 2) (.tmp 50) rfl rfl rfl B2.out (by rfl) (by kernel_rfl) (by kernel_rfl) ?_; intro w6 hB6 hg6 hz6; have hR6 := Lib.hid hB6; have hb6 := Lib.hid (hb2.out.grown hg6 hb2.out.size (fun j hj => by cases hj; exact Nat.le_of_lt hz.out.1)); clear hB6 hg6 hz6)
     refine bodyPost_ret (results_ct rfl _ rfl hR6.out Try.underlying24 rfl (by kernel_rfl)) rfl ?_
     exact ⟨fin'.out _ _ rfl, hb6.out⟩
   ·have f1 : ((ty : Int) != 41) = true := by simp; omega
    clear hno
    subst q0
    go_enter Try.func14, Try.ntmps14
    go_wp2_with (refine store_whole rfl 24 (.tmp 2) (.tmp 50) rfl rfl rfl B2.out (by rfl) (by kernel_rfl) (by kernel_rfl) ?_; intro w6 hB6 hg6 hz6; have hR6 := Lib.hid hB6; have hb6 := Lib.hid (hb2.out.grown hg6 hb2.out.size (fun j hj => by cases hj; exact Nat.le_of_lt hz.out.1)); clear hB6 hg6 hz6)
    refine bodyPost_ret (results_ct rfl _ rfl hR6.out Try.underlying24 rfl (by kernel_rfl)) rfl ?_
    exact ⟨fin'.out _ _ rfl, hb6.out⟩
  ·have f0 : ((n0 : Int) != 0) = true := by simp; omega
   have g0 : ¬ (n0 : Int) = 0 := by omega
   clear hno
   go_enter Try.func14, Try.ntmps14
   go_wp2_with (refine store_whole rfl 24 (.tmp 2) (.tmp 50) rfl rfl rfl B2.out (by rfl) (by kernel_rfl) (by kernel_rfl) ?_; intro w6 hB6 hg6 hz6; have hR6 := Lib.hid hB6; have hb6 := Lib.hid (hb2.out.grown hg6 hb2.out.size (fun j hj => by cases hj; exact Nat.le_of_lt hz.out.1)); clear hB6 hg6 hz6)
   refine bodyPost_ret (results_ct rfl _ rfl hR6.out Try.underlying24 rfl (by kernel_rfl)) rfl ?_
   exact ⟨fin'.out _ _ rfl, hb6.out⟩
 by_cases hok : rdOK n0 ty ttl n4 n5 n6 n
 ·have hok' : Hid (rdOK n0 ty ttl n4 n5 n6 l.length) := Lib.hid (by rw [hl'.out]; exact hok)
  have hcpy := hok
  obtain ⟨rfl, o1, q2, rfl, rfl, rfl, q6⟩ := hok
  have f1 : ((ty : Int) != 41) = false := by rw [o1]; rfl
  clear hbad hcpy o1
  have f2 : ((ttl : Int) % 32768 != 0) = false := by simp; omega
  have f6 : ¬ (65535 : Int) < n := by omega
  have f6b : decide ((65535 : Int) < n) = false := decide_eq_false f6
  have hl65 : Hid (l.length ≤ 65535) := Lib.hid (by rw [hl'.out]; omega)
  have htI : (ttl : Int) < 4294967296 := by omega
  have hclI : (cl : Int) < 65536 := by omega
  obtain ⟨X, hX⟩ : ∃ X, W2.alloc (.cells #[.int .i64 cl, .int .i64 ((ttl : Int) / 16777216), .int .i64 ((ttl : Int) / 65536 % 256), .bool ((ttl : Int) / 32768 % 2 == 1), .slice none 0 0] 24) = X := ⟨_, rfl⟩
  have BX : Hid (Blk X W2.heap.size 24 (0, 0) [.int .i64 cl, .int .i64 ((ttl : Int) / 16777216), .int .i64 ((ttl : Int) / 65536 % 256), .bool ((ttl : Int) / 32768 % 2 == 1), .slice none 0 0]) := Lib.hid (by rw [← hX]; exact Blk.new W2 24 (0, 0) #[.int .i64 cl, .int .i64 ((ttl : Int) / 16777216), .int .i64 ((ttl : Int) / 65536 % 256), .bool ((ttl : Int) / 32768 % 2 == 1), .slice none 0 0])
  have kx : Hid (Below W2.heap.size W2 X) := Lib.hid (by rw [← hX]; exact alloc_bel _ _)
  replace hX := Lib.hid hX
  go_enter Try.func14, Try.ntmps14
  go_upto_region 4 with (fail)
  rw [hX.out]
  have x7 : X.cell? ⟨w.heap.size, 7, none⟩ = some (.slice a n c) := cell_old p7 kx.out
  have hbX : Hid (Below w.heap.size w X) := Lib.hid (hb2.out.trans (kx.out.mono hb2.out.size))
  have hHX := Lib.hid (hH.out.ext hbX.out)
  have hzX : Hid (W2.heap.size < X.heap.size) := Lib.hid BX.out.lt
  have hnum := Lib.hid (And.intro ht (And.intro hcl q2))
  clear hX p0 p1 p2 p3 p4 p5 p6 p7 f1 f2 f6 f6b ht hcl q2 _hty htI hclI q6
  go_upto_region 5 with (fail)
  clear x7
  have e7 : Hid (∀ p, p ≤ l.length → Rd byteE X a n c l) := Lib.hid (fun _ _ => hHX.out)
  clear e7
  go_loopw [5] (fun bv wr => ∃ (p : Nat) (A : List Opt) (v : Value) (a' : Option Addr) (c' : Nat), bv = .slice a' (l.length - p) c' ∧ p ≤ l.length ∧ A.length ≤ p ∧ Hid (Rd byteE W2 a' (l.length - p) c' (l.drop p)) ∧ Hid (prs l 0 = (prs l p).map (A ++ ·)) ∧ Hid (Blk wr W2.heap.size 24 (0, 0) [.int .i64 cl, .int .i64 ((ttl : Int) / 16777216), .int .i64 ((ttl : Int) / 65536 % 256), .bool ((ttl : Int) / 32768 % 2 == 1), v]) ∧ Hid (OwnO wr W2.heap.size v A) ∧ Hid (Below W2.heap.size X wr)) (fun bv _ => match bv with | .slice _ m _ => m | _ => 0)
  case atStart => exact ⟨0, [], _, a, c, by rw [hl'.out]; rfl, Nat.zero_le _, Nat.le_refl _, Lib.hid (by rw [hl'.out]; exact hH.out.ext hb2.out), Lib.hid (by cases prs l 0 <;> simp), BX, Lib.hid (OwnO.nil _ _), Lib.hid (Below.refl _ _)⟩
  case round =>
   obtain ⟨p, A, v, a', c', rfl, hp, hAp, hb, hg, hB, hN, hbel⟩ := hrel
   have hl65' := hl65.out
   obtain ⟨av, cv, rfl⟩ := hN.out.shape
   obtain ⟨m, hm⟩ : ∃ m, l.length - p = m := ⟨_, rfl⟩
   rw [hm] at hb ⊢
   have hk2 : Hid (Below W2.heap.size W2 wr) := Lib.hid (kx.out.trans hbel.out)
   have hZ := Lib.hid (B2.out.below hk2.out hz.out.2)
   have hbw : Hid (Below w.heap.size w wr) := Lib.hid (hb2.out.trans (hk2.out.mono hb2.out.size))
   by_cases h0 : 0 < m
   ·have h0I : (0 : Int) < (m : Int) := by omega
    by_cases h4 : m < 4
    ·have h4I : (m : Int) < 4 := by omega
     have hno : Hid (prs l 0 = none) := Lib.hid (by rw [hg.out, prs_no (by omega) (by omega)]; rfl)
     go_wp2_with (refine store_whole rfl 24 (.tmp 2) (.tmp 78) rfl rfl rfl hZ.out (by rfl) (by kernel_rfl) (by kernel_rfl) ?_; intro w6 hB6 hg6 hz6; have hR6 := Lib.hid hB6; have hg6' := Lib.hid hg6; clear hB6 hg6 hz6)
     refine bodyPost_ret (results_ct rfl _ rfl hR6.out Try.underlying24 rfl (by kernel_rfl)) rfl ?_
     exact ⟨ReadB.bad (.inr hno.out) rfl, hbw.out.grown hg6'.out hbw.out.size (fun j hj => by have e2 := Option.some.inj hj; have := hz.out; omega)⟩
    ·obtain ⟨b, o, rfl, hcs⟩ := rd_byte hb.out h0
     have hdl : (l.drop p).length = m := by rw [List.length_drop]; exact hm
     obtain ⟨x0, hx0⟩ : ∃ x, (l.drop p)[0]'(by omega) = x := ⟨_, rfl⟩
     obtain ⟨x1, hx1⟩ : ∃ x, (l.drop p)[1]'(by omega) = x := ⟨_, rfl⟩
     obtain ⟨x2, hx2⟩ : ∃ x, (l.drop p)[2]'(by omega) = x := ⟨_, rfl⟩
     obtain ⟨x3, hx3⟩ : ∃ x, (l.drop p)[3]'(by omega) = x := ⟨_, rfl⟩
     have z0 : W2.cell? ⟨b, o, none⟩ = some (.int .u8 (x0.toNat : Nat)) := by have := hcs 0 (by omega); rw [hx0] at this; exact this
     have y0 := cell_old z0 hk2.out
     have z1 : W2.cell? ⟨b, o + 1, none⟩ = some (.int .u8 (x1.toNat : Nat)) := by have := hcs 1 (by omega); rw [hx1] at this; exact this
     have y1 := cell_old z1 hk2.out
     have z2 : W2.cell? ⟨b, o + 2, none⟩ = some (.int .u8 (x2.toNat : Nat)) := by have := hcs 2 (by omega); rw [hx2] at this; exact this
     have y2 := cell_old z2 hk2.out
     have z3 : W2.cell? ⟨b, o + 3, none⟩ = some (.int .u8 (x3.toNat : Nat)) := by have := hcs 3 (by omega); rw [hx3] at this; exact this
     have y3 := cell_old z3 hk2.out
     have hc0 : Hid (cD l p = x0.toNat * 256 + x1.toNat) := Lib.hid (by rw [cD_two l p (by omega), ← hx0, ← hx1]; simp)
     have hc2 : Hid (cD l (p + 2) = x2.toNat * 256 + x3.toNat) := Lib.hid (by rw [cD_two l (p + 2) (by omega), ← hx2, ← hx3]; simp)
     have l0 := x0.toNat_lt
     have l1 := x1.toNat_lt
     have l2 := x2.toNat_lt
     have l3 := x3.toNat_lt
     have h4I : ¬ (m : Int) < 4 := by omega
     have h42 : (2 : Int) < m := by omega
     have h43 : (3 : Int) < m := by omega
     have hm65 : m ≤ 65535 := by omega
     have hzz := Lib.hid (And.intro z0 z1)
     clear hcs hx0 hx1 hx2 hx3 hdl z0 z1 z2 z3
     go_upto_region 8 with (fail)
     obtain ⟨N, hN4⟩ : ∃ N : Nat, N = x2.toNat * 256 + x3.toNat := ⟨_, rfl⟩
     have hN65 : N ≤ 65535 := by omega
     have v1 : IntKind.i64.wrap (256 * (x2.toNat : Int)) = 256 * (x2.toNat : Int) := IntWalk.i64_in _ (by omega)
     have v2 : IntKind.i64.wrap (256 * (x2.toNat : Int) + (x3.toNat : Int)) = 256 * (x2.toNat : Int) + (x3.toNat : Int) := IntWalk.i64_in _ (by omega)
     go_quiet (fail)
     clear v1 v2 y2 y3
     have v3 : 256 * (x2.toNat : Int) + (x3.toNat : Int) = (N : Int) := by omega
     rw [v3]
     clear v3
     rw [← hN4] at hc2
     have hll := Lib.hid (And.intro l0 l1)
     clear hN4 l0 l1 l2 l3
     have hBU : Hid (Blk (wr.drewN nq) W2.heap.size 24 (0, 0) [.int .i64 cl, .int .i64 ((ttl : Int) / 16777216), .int .i64 ((ttl : Int) / 65536 % 256), .bool ((ttl : Int) / 32768 % 2 == 1), .slice av A.length cv]) := hB
     have hNU : Hid (OwnO (wr.drewN nq) W2.heap.size (.slice av A.length cv) A) := Lib.hid (hN.out.keep fun _ _ _ => rfl)
     have hbelU : Hid (Below W2.heap.size X (wr.drewN nq)) := Lib.hid (below_drewN hbel.out nq)
     have hk2U : Hid (Below W2.heap.size W2 (wr.drewN nq)) := Lib.hid (below_drewN hk2.out nq)
     have hZU : Hid (Blk (wr.drewN nq) W1.heap.size 24 (0, 0) [.int .i64 0, .int .i64 0, .int .i64 0, .bool false, .slice none 0 0]) := hZ
     have hbwU : Hid (Below w.heap.size w (wr.drewN nq)) := Lib.hid (below_drewN hbw.out nq)
     replace y0 : (wr.drewN nq).cell? ⟨b, o, none⟩ = some (.int .u8 (x0.toNat : Nat)) := y0
     replace y1 : (wr.drewN nq).cell? ⟨b, o + 1, none⟩ = some (.int .u8 (x1.toNat : Nat)) := y1
     clear hB hN hbel hk2 hZ hbw
     generalize wr.drewN nq = U at *
     by_cases hsh : m < 4 + N
     ·have hshI : (m : Int) < 4 + (N : Int) := by omega
      have hno : Hid (prs l 0 = none) := Lib.hid (by rw [hg.out, prs_no (by omega) (by rw [hc2.out]; omega)]; rfl)
      have hshb : decide ((m : Int) < 4 + (N : Int)) = true := decide_eq_true hshI
      have hNI : (N : Int) ≤ 65535 := by omega
      have hms := Lib.hid (And.intro hm (And.intro hsh (And.intro h4 (And.intro hm65 hN65))))
      clear hm hsh h4 hm65 hN65 h4I h42 h43 h0I h0 hl65'
      go_wp2_with (refine store_whole rfl 24 (.tmp 2) (.tmp 94) rfl rfl rfl hZU.out (by rfl) (by kernel_rfl) (by kernel_rfl) ?_; intro w6 hB6 hg6 hz6; have hR6 := Lib.hid hB6; have hg6' := Lib.hid hg6; clear hB6 hg6 hz6)
      refine bodyPost_ret (results_ct rfl _ rfl hR6.out Try.underlying24 rfl (by kernel_rfl)) rfl ?_
      exact ⟨ReadB.bad (.inr hno.out) rfl, hbwU.out.grown hg6'.out hbwU.out.size (fun j hj => by have e2 := Option.some.inj hj; have := hz.out; omega)⟩
     ·have hshI : ¬ (m : Int) < 4 + (N : Int) := by omega
      have hshb : decide ((m : Int) < 4 + (N : Int)) = false := decide_eq_false hshI
      have hNI : (N : Int) ≤ 65535 := by omega
      have hms := Lib.hid (And.intro hm (And.intro hsh (And.intro h4 (And.intro hm65 hN65))))
      clear hm hsh h4 hm65 hN65 h4I h42 h43 h0I h0 hl65'
      go_upto_region 11 with (fail)
      have l0 := hll.out.1
      have l1 := hll.out.2
      obtain ⟨E1, hE1⟩ : ∃ E : Nat, E = x0.toNat * 256 + x1.toNat := ⟨_, rfl⟩
      rw [← hE1] at hc0
      obtain ⟨hm, hsh, h4, hm65, hN65⟩ := hms.out
      have g0 : IntKind.u16.wrap (x0.toNat : Int) = (x0.toNat : Int) := by rw [IntKind.wrap_u16]; omega
      have g1 : IntKind.u16.wrap (x1.toNat : Int) = (x1.toNat : Int) := by rw [IntKind.wrap_u16]; omega
      have g2 : IntKind.u16.wrap ((x0.toNat : Int) * 256) = (x0.toNat : Int) * 256 := by rw [IntKind.wrap_u16]; omega
      have g3 : IntKind.u16.wrap ((x0.toNat : Int) * 256 + (x1.toNat : Int)) = (E1 : Int) := by rw [IntKind.wrap_u16]; omega
      have g4 : IntKind.i64.wrap (4 + (N : Int)) = 4 + (N : Int) := IntWalk.i64_in _ (by omega)
      obtain ⟨a2, hcut, hRc⟩ := cut_lh (P := Try.prog) hb.out 33 Try.underlying33 (by kernel_rfl) .i64 .i64 4 (4 + (N : Int)) 4 (4 + N) rfl (by omega) (by omega) (by omega)
      obtain ⟨a3, hcut3, hRd⟩ := cut_l (P := Try.prog) hb.out 33 Try.underlying33 (by kernel_rfl) .i64 (4 + (N : Int)) (4 + N) (by omega) (by omega)
      rw [Nat.add_sub_cancel_left] at hcut hRc
      have eD : ((l.drop p).take (4 + N)).drop 4 = (l.drop (p + 4)).take N := by rw [List.drop_take, List.drop_drop, Nat.add_sub_cancel_left]
      rw [eD] at hRc
      rw [List.drop_drop] at hRd
      have hDl : Hid (((l.drop (p + 4)).take N).length = N) := Lib.hid hRc.len
      have hpr : Hid (prs l 0 = (prs l (p + (4 + N))).map ((A ++ [(E1, (l.drop (p + 4)).take N)]) ++ ·)) := Lib.hid (by
       rw [hg.out, prs_one (p := p) (by rw [hc2.out]; omega), hc2.out, hc0.out, Option.map_map, Nat.add_assoc]
       congr 1
       funext Q
       simp)
      generalize (l.drop (p + 4)).take N = D at *
      have hRU := Lib.hid (hRc.ext hk2U.out)
      have hRd' := Lib.hid hRd
      have hcut3' := Lib.hid hcut3
      have hNb : N * 1 ≤ 140737488355328 := by omega
      have hAb : Hid (A.length * 32 ≤ 140737488355296) := Lib.hid (by have := hl65.out; omega)
      have cs : ∀ wx : World, Below U.heap.size U wx → wx.cell? ⟨b, o, none⟩ = some (.int .u8 (x0.toNat : Nat)) ∧ wx.cell? ⟨b, o + 1, none⟩ = some (.int .u8 (x1.toNat : Nat)) := fun wx hbx => ⟨cell_old y0 hbx, cell_old y1 hbx⟩
      have cs' := Lib.hid cs
      obtain ⟨i0, hi5, hy0, hy1, hy2⟩ := info_parts Try.info5
      have hWU : Hid (W2.heap.size ≤ U.heap.size) := Lib.hid hk2U.out.size
      have hS2 : Hid (∀ wx : World, Below W2.heap.size W2 wx → wx.cell? ⟨b, o, none⟩ = some (.int .u8 (x0.toNat : Nat)) ∧ wx.cell? ⟨b, o + 1, none⟩ = some (.int .u8 (x1.toNat : Nat))) := Lib.hid (fun wx hbx => ⟨cell_old hzz.out.1 hbx, cell_old hzz.out.2 hbx⟩)
      have hm0 : 0 < m := by omega
      have hm1 : 1 < m := by omega
      have hm0I : (0 : Int) < m := by omega
      have hm1I : (1 : Int) < m := by omega
      clear eD hRc hRd hcut3 hm hsh h4 hm65 cs hE1 y0 y1
      refine wp_region_noPanic ?_
      refine wp_region_held_drew (S := fun w' => w'.cell? ⟨b, o, none⟩ = some (.int .u8 (x0.toNat : Nat)) ∧ w'.cell? ⟨b, o + 1, none⟩ = some (.int .u8 (x1.toNat : Nat))) (by kernel_rfl) (cs'.out _ (Below.refl _ _).drew) (fun hHeld => ?_)
      have k0 : Hid (Below U.heap.size U U.drew) := Lib.hid (Below.refl _ _).drew
      have t0 : U.drew.cell? ⟨W2.heap.size, 4, none⟩ = some (.slice av A.length cv) := (hBU.out.cell 4).trans rfl
      generalize U.drew = U0 at *
      refine tkz 0 ({ dst := some 95, op := Op.fieldAddr 24 (Operand.tmp 4) 4, type := 0, pos := _, after := #[], guard := none }) ?_ rfl ?_ ?_
      rotate_left
      ·intro w hSw
       go_simp
       first | done | with_reducible rfl
      try simp only [pz0, pz2, pz3, pz4]
      refine tkz 2 ({ dst := some 97, op := Op.move (Operand.tmp 5), type := 33, pos := _, after := #[], guard := none }) ?_ rfl ?_ ?_
      rotate_left
      ·intro w hSw
       go_simp
       first | done | with_reducible rfl
      try simp only [pz0, pz2, pz3, pz4]
      refine tkz 3 ({ dst := some 98, op := Op.indexAddr 33 (Operand.tmp 97) (Operand.const (Value.int IntKind.i64 0)), type := 0, pos := _, after := #[{ on := 2, ground := Ground.data }], guard := none }) ?_ rfl ?_ ?_
      rotate_left
      ·intro w hSw
       go_simp
       first | done | with_reducible rfl
      try simp only [pz0, pz2, pz3, pz4]
      refine tkz 4 ({ dst := some 99, op := Op.load 5 (Operand.tmp 98), type := 5, pos := _, after := #[{ on := 3, ground := Ground.data }], guard := none }) ?_ rfl ?_ ?_
      rotate_left
      ·intro w hSw
       go_simp
       first | done | with_reducible rfl
      try simp only [pz0, pz2, pz3, pz4]
      refine tkz 5 ({ dst := some 100, op := Op.convert 5 27 (Operand.tmp 99), type := 27, pos := _, after := #[{ on := 4, ground := Ground.data }], guard := none }) ?_ rfl ?_ ?_
      rotate_left
      ·intro w hSw
       go_simp
       first | done | with_reducible rfl
      try simp only [pz0, pz2, pz3, pz4]
      refine tkz 6 ({ dst := some 101, op := Op.binOp BinOp.mul 27 (Operand.tmp 100) (Operand.const (Value.int IntKind.u16 256)) 27, type := 27, pos := _, after := #[{ on := 5, ground := Ground.data }], guard := none }) ?_ rfl ?_ ?_
      rotate_left
      ·intro w hSw
       go_simp
       first | done | with_reducible rfl
      try simp only [pz0, pz2, pz3, pz4]
      refine tkz 7 ({ dst := some 102, op := Op.move (Operand.tmp 5), type := 33, pos := _, after := #[], guard := none }) ?_ rfl ?_ ?_
      rotate_left
      ·intro w hSw
       go_simp
       first | done | with_reducible rfl
      try simp only [pz0, pz2, pz3, pz4]
      refine tkz 8 ({ dst := some 103, op := Op.indexAddr 33 (Operand.tmp 102) (Operand.const (Value.int IntKind.i64 1)), type := 0, pos := _, after := #[{ on := 7, ground := Ground.data }], guard := none }) ?_ rfl ?_ ?_
      rotate_left
      ·intro w hSw
       go_simp
       first | done | with_reducible rfl
      try simp only [pz0, pz2, pz3, pz4]
      refine tkz 9 ({ dst := some 104, op := Op.load 5 (Operand.tmp 103), type := 5, pos := _, after := #[{ on := 8, ground := Ground.data }], guard := none }) ?_ rfl ?_ ?_
      rotate_left
      ·intro w hSw
       go_simp
       first | done | with_reducible rfl
      try simp only [pz0, pz2, pz3, pz4]
      refine tkz 10 ({ dst := some 105, op := Op.convert 5 27 (Operand.tmp 104), type := 27, pos := _, after := #[{ on := 9, ground := Ground.data }], guard := none }) ?_ rfl ?_ ?_
      rotate_left
      ·intro w hSw
       go_simp
       first | done | with_reducible rfl
      try simp only [pz0, pz2, pz3, pz4]
      refine tkz 11 ({ dst := some 106, op := Op.binOp BinOp.add 27 (Operand.tmp 101) (Operand.tmp 105) 27, type := 27, pos := _, after := #[{ on := 6, ground := Ground.data }, { on := 10, ground := Ground.data }], guard := none }) ?_ rfl ?_ ?_
      rotate_left
      ·intro w hSw
       go_simp
       first | done | with_reducible rfl
      try simp only [pz0, pz2, pz3, pz4]
      refine tkz 13 ({ dst := some 108, op := Op.move (Operand.tmp 5), type := 33, pos := _, after := #[], guard := none }) ?_ rfl ?_ ?_
      rotate_left
      ·intro w hSw
       go_simp
       first | done | with_reducible rfl
      try simp only [pz0, pz2, pz3, pz4]
      refine tkz 14 ({ dst := some 109, op := Op.move (Operand.tmp 6), type := 3, pos := _, after := #[], guard := none }) ?_ rfl ?_ ?_
      rotate_left
      ·intro w hSw
       go_simp
       first | done | with_reducible rfl
      try simp only [pz0, pz2, pz3, pz4]
      refine tkz 15 ({ dst := some 110, op := Op.binOp BinOp.add 3 (Operand.const (Value.int IntKind.i64 4)) (Operand.tmp 109) 3, type := 3, pos := _, after := #[{ on := 14, ground := Ground.data }], guard := none }) ?_ rfl ?_ ?_
      rotate_left
      ·intro w hSw
       go_simp
       first | done | with_reducible rfl
      try simp only [pz0, pz2, pz3, pz4]
      refine tkz 16 ({ dst := some 111, op := Op.slice 33 (Operand.tmp 108) (some (Operand.const (Value.int IntKind.i64 4))) (some (Operand.tmp 110)) none, type := 33, pos := _, after := #[{ on := 13, ground := Ground.data }, { on := 15, ground := Ground.data }], guard := none }) ?_ rfl ?_ ?_
      rotate_left
      ·intro w hSw
       go_simp
       first | done | with_reducible rfl
      try simp only [pz0, pz2, pz3, pz4]
      refine wpAnyH_ready (rs := [1, 12]) (by kernel_rfl) (by simp) ?_
      refine arz (qRfR0 _) rfl (fun K hK => ?_) ?_
      ·unfold qRfR0
       go_simp
       refine hK.out _ _ (cs'.out _ k0.out) (fun hHeld => ?_)
       clear hK K
       try simp only [pz0, pz2, pz3, pz4]
       refine wpAnyH_ready (rs := [12]) (by kernel_rfl) (by simp) ?_
       refine arz (qRfR1 _) rfl (fun K hK => ?_) AllReadyH.nil
       unfold qRfR1
       go_simp
       obtain ⟨V2, e2⟩ : ∃ U, U0.alloc (.cells #[] 5) = U := ⟨_, rfl⟩
       have m2 : Hid (Below U0.heap.size U0 V2) := Lib.hid (by rw [← e2]; exact alloc_bel _ _)
       have k2 := Lib.hid (k0.out.trans (m2.out.mono k0.out.size))
       have hO2 : Hid (Own byteE V2 U.heap.size (.slice (some ⟨U0.heap.size, 0, none⟩) 0 0) []) := Lib.hid (by rw [← e2]; exact (Own.made byteE U0 #[] [] 0 rfl rfl (Nat.zero_le _)).mono k0.out.size)
       have t2 : V2.cell? ⟨W2.heap.size, 4, none⟩ = some (.slice av A.length cv) := ((hBU.out.below k2.out hBU.out.lt).cell 4).trans rfl
       rw [e2]
       clear e2
       refine hK.out _ _ (cs'.out _ k2.out) (fun hHeld => ?_)
       clear hK K
       try simp only [pz0, pz2, pz3, pz4]
       refine wpAnyH_ready (rs := [17]) (by kernel_rfl) (by simp) ?_
       refine arz (qRfR2 _) rfl (fun K hK => ?_) AllReadyH.nil
       unfold qRfR2
       refine step_lit (E := byteE) (w := U) (by rfl) (.tmp 107) (.tmp 111) (by rfl) Try.underlying33 hi5 hy0 hy1 hy2 (by rfl) (by rfl) (by rfl) hRU.out hNb k2.out hO2.out ?_
       intro aO cO V3 hD3 k3 _
       replace k3 := Lib.hid k3
       have t3 : V3.cell? ⟨W2.heap.size, 4, none⟩ = some (.slice av A.length cv) := ((hBU.out.below k3.out hBU.out.lt).cell 4).trans rfl
       refine hK.out _ _ (cs'.out _ k3.out) (fun hHeld => ?_)
       clear hK K
       try simp only [pz0, pz2, pz3, pz4]
       refine tkz 18 (qRfR3 _) ?_ rfl ?_ ?_
       rotate_left
       ·intro w hSw
        unfold qRfR3
        go_simp
        first | done | with_reducible rfl
       try simp only [qRfR3, pz0, pz2, pz3, pz4]
       refine wpAnyH_ready (rs := [19]) (by kernel_rfl) (by simp) ?_
       refine arz (qRfR4 _) rfl (fun K hK => ?_) AllReadyH.nil
       unfold qRfR4
       go_simp
       obtain ⟨V4, e4⟩ : ∃ U, V3.alloc (.cells #[.int .u16 (E1 : Nat), .slice aO N cO] 53) = U := ⟨_, rfl⟩
       have m4 : Hid (Below V3.heap.size V3 V4) := Lib.hid (by rw [← e4]; exact alloc_bel _ _)
       have k4 := Lib.hid (k3.out.trans (m4.out.mono k3.out.size))
       have hL4 : Hid (Blk V4 V3.heap.size 53 (0, 0) [.int .u16 (E1 : Nat), .slice aO N cO]) := Lib.hid (by rw [← e4]; exact Blk.new V3 53 (0, 0) #[.int .u16 (E1 : Nat), .slice aO N cO])
       have t4 : V4.cell? ⟨W2.heap.size, 4, none⟩ = some (.slice av A.length cv) := ((hBU.out.below k4.out hBU.out.lt).cell 4).trans rfl
       rw [e4]
       clear e4
       refine hK.out _ _ (cs'.out _ k4.out) (fun hHeld => ?_)
       clear hK K
       try simp only [pz0, pz2, pz3, pz4]
       refine wpAnyH_ready (rs := [20]) (by kernel_rfl) (by simp) ?_
       refine arz (qRfR5 _) rfl (fun K hK => ?_) AllReadyH.nil
       unfold qRfR5
       refine step_op2 (W0 := V3) (base := W2.heap.size) (by rfl) (.tmp 96) (.tmp 114) (by rfl) rfl hDl.out (hNU.out.ext k3.out) (hD3.out.mono hWU.out) hL4.out m4.out (Nat.le_trans hWU.out k3.out.size) hAb.out (by rfl) (by rfl) ?_
       intro a9 c9 V5 hN5 hg5
       have hN5 := Lib.hid hN5
       have hO5 := hNU.out.ext k4.out
       have hX5 := Lib.hid (ownO_below (B := W2.heap.size) (hbelU.out.trans (k4.out.mono hWU.out)) hg5 hO5 (Nat.le_trans hWU.out k4.out.size) (Nat.le_refl _))
       have hB5 := Lib.hid (blk_ownO (hBU.out.below k4.out hBU.out.lt) hO5 (by decide) hg5)
       have t5 : V5.cell? ⟨W2.heap.size, 4, none⟩ = some (.slice av A.length cv) := (hB5.out.cell 4).trans rfl
       have f5 : V5.frozen? ⟨W2.heap.size, 4, none⟩ = false := by rw [hB5.out.frozen]; try simp
       have sy := hS2.out _ (kx.out.trans hX5.out)
       clear hO5 hg5
       refine hK.out _ _ sy (fun hHeld => ?_)
       clear hK K
       try simp only [pz0, pz2, pz3, pz4]
       refine tkz 21 (qRfR6 _) ?_ rfl ?_ ?_
       rotate_left
       ·intro w hSw
        unfold qRfR6
        go_simp
        first | done | with_reducible rfl
       try simp only [qRfR6, pz0, pz2, pz3, pz4]
       refine wpAnyH_ready (rs := [22]) (by kernel_rfl) (by simp) ?_
       refine arz (qRfR7 _) rfl (fun K hK => ?_) AllReadyH.nil
       unfold qRfR7
       go_simp
       obtain ⟨Y, hV⟩ : ∃ V, V5.setCell ⟨W2.heap.size, 4, none⟩ (.slice a9 (A.length + 1) c9) = V := ⟨_, rfl⟩
       rw [hV]
       have hgV : V5.grownBy Y (some W2.heap.size) := by rw [← hV]; exact grown_set _ _ _ _
       have yB : Hid (Blk Y W2.heap.size 24 (0, 0) [.int .i64 cl, .int .i64 ((ttl : Int) / 16777216), .int .i64 ((ttl : Int) / 65536 % 256), .bool ((ttl : Int) / 32768 % 2 == 1), .slice a9 (A.length + 1) c9]) := Lib.hid (by rw [← hV]; exact hB5.out.set 4 _)
       have yN : Hid (OwnO Y W2.heap.size (.slice a9 (A.length + 1) c9) (A ++ [(E1, D)])) := Lib.hid (ownO_store hN5.out hB5.out (by decide) (by decide) hgV)
       have yb : Hid (Below W2.heap.size X Y) := Lib.hid (hX5.out.grown hgV (Nat.le_trans (Nat.le_of_lt hzX.out) hX5.out.size) (fun j hj => by have e2 := Option.some.inj hj; omega))
       have sy2 := hS2.out _ (kx.out.trans yb.out)
       clear hV hgV
       refine hK.out _ _ sy2 (fun hHeld => ?_)
       clear hK K
       refine wpAnyH_done (by kernel_rfl) ?_ _
       refine NoPanic.normal ?_
       have hcut3 := hcut3'.out
       clear hcut hHeld g0 g1 g2 g3
       go_wp2_with fail
       go_roundw
       case rel =>
        have hq := hms.out
        have e8 : m - (4 + N) = l.length - (p + (4 + N)) := by omega
        have hRe := hRd'.out
        rw [e8] at hRe
        exact ⟨p + (4 + N), A ++ [(E1, D)], _, a3, c' - (4 + N), by rw [e8], by omega, by simp; omega, Lib.hid hRe, hpr, yB, yN, yb⟩
       case measure =>
        have hq := hms.out
        simp
        omega
      refine arz (qRfR1 _) rfl (fun K hK => ?_) AllReadyH.nil
      unfold qRfR1
      go_simp
      obtain ⟨V7, e7⟩ : ∃ U, U0.alloc (.cells #[] 5) = U := ⟨_, rfl⟩
      have m7 : Hid (Below U0.heap.size U0 V7) := Lib.hid (by rw [← e7]; exact alloc_bel _ _)
      have k7 := Lib.hid (k0.out.trans (m7.out.mono k0.out.size))
      have hO7 : Hid (Own byteE V7 U.heap.size (.slice (some ⟨U0.heap.size, 0, none⟩) 0 0) []) := Lib.hid (by rw [← e7]; exact (Own.made byteE U0 #[] [] 0 rfl rfl (Nat.zero_le _)).mono k0.out.size)
      have t7 : V7.cell? ⟨W2.heap.size, 4, none⟩ = some (.slice av A.length cv) := ((hBU.out.below k7.out hBU.out.lt).cell 4).trans rfl
      rw [e7]
      clear e7
      refine hK.out _ _ (cs'.out _ k7.out) (fun hHeld => ?_)
      clear hK K
      try simp only [pz0, pz2, pz3, pz4]
      refine wpAnyH_ready (rs := [1, 17]) (by kernel_rfl) (by simp) ?_
      refine arz (qRfR0 _) rfl (fun K hK => ?_) ?_
      ·unfold qRfR0
       go_simp
       refine hK.out _ _ (cs'.out _ k7.out) (fun hHeld => ?_)
       clear hK K
       try simp only [pz0, pz2, pz3, pz4]
       refine wpAnyH_ready (rs := [17]) (by kernel_rfl) (by simp) ?_
       refine arz (qRfR2 _) rfl (fun K hK => ?_) AllReadyH.nil
       unfold qRfR2
       refine step_lit (E := byteE) (w := U) (by rfl) (.tmp 107) (.tmp 111) (by rfl) Try.underlying33 hi5 hy0 hy1 hy2 (by rfl) (by rfl) (by rfl) hRU.out hNb k7.out hO7.out ?_
       intro aO cO V9 hD9 k9 _
       replace k9 := Lib.hid k9
       have t9 : V9.cell? ⟨W2.heap.size, 4, none⟩ = some (.slice av A.length cv) := ((hBU.out.below k9.out hBU.out.lt).cell 4).trans rfl
       refine hK.out _ _ (cs'.out _ k9.out) (fun hHeld => ?_)
       clear hK K
       try simp only [pz0, pz2, pz3, pz4]
       refine tkz 18 (qRfR3 _) ?_ rfl ?_ ?_
       rotate_left
       ·intro w hSw
        unfold qRfR3
        go_simp
        first | done | with_reducible rfl
       try simp only [qRfR3, pz0, pz2, pz3, pz4]
       refine wpAnyH_ready (rs := [19]) (by kernel_rfl) (by simp) ?_
       refine arz (qRfR4 _) rfl (fun K hK => ?_) AllReadyH.nil
       unfold qRfR4
       go_simp
       obtain ⟨V10, e10⟩ : ∃ U, V9.alloc (.cells #[.int .u16 (E1 : Nat), .slice aO N cO] 53) = U := ⟨_, rfl⟩
       have m10 : Hid (Below V9.heap.size V9 V10) := Lib.hid (by rw [← e10]; exact alloc_bel _ _)
       have k10 := Lib.hid (k9.out.trans (m10.out.mono k9.out.size))
       have hL10 : Hid (Blk V10 V9.heap.size 53 (0, 0) [.int .u16 (E1 : Nat), .slice aO N cO]) := Lib.hid (by rw [← e10]; exact Blk.new V9 53 (0, 0) #[.int .u16 (E1 : Nat), .slice aO N cO])
       have t10 : V10.cell? ⟨W2.heap.size, 4, none⟩ = some (.slice av A.length cv) := ((hBU.out.below k10.out hBU.out.lt).cell 4).trans rfl
       rw [e10]
       clear e10
       refine hK.out _ _ (cs'.out _ k10.out) (fun hHeld => ?_)
       clear hK K
       try simp only [pz0, pz2, pz3, pz4]
       refine wpAnyH_ready (rs := [20]) (by kernel_rfl) (by simp) ?_
       refine arz (qRfR5 _) rfl (fun K hK => ?_) AllReadyH.nil
       unfold qRfR5
       refine step_op2 (W0 := V9) (base := W2.heap.size) (by rfl) (.tmp 96) (.tmp 114) (by rfl) rfl hDl.out (hNU.out.ext k9.out) (hD9.out.mono hWU.out) hL10.out m10.out (Nat.le_trans hWU.out k9.out.size) hAb.out (by rfl) (by rfl) ?_
       intro a9 c9 V11 hN11 hg11
       have hN11 := Lib.hid hN11
       have hO11 := hNU.out.ext k10.out
       have hX11 := Lib.hid (ownO_below (B := W2.heap.size) (hbelU.out.trans (k10.out.mono hWU.out)) hg11 hO11 (Nat.le_trans hWU.out k10.out.size) (Nat.le_refl _))
       have hB11 := Lib.hid (blk_ownO (hBU.out.below k10.out hBU.out.lt) hO11 (by decide) hg11)
       have t11 : V11.cell? ⟨W2.heap.size, 4, none⟩ = some (.slice av A.length cv) := (hB11.out.cell 4).trans rfl
       have f11 : V11.frozen? ⟨W2.heap.size, 4, none⟩ = false := by rw [hB11.out.frozen]; try simp
       have sy := hS2.out _ (kx.out.trans hX11.out)
       clear hO11 hg11
       refine hK.out _ _ sy (fun hHeld => ?_)
       clear hK K
       try simp only [pz0, pz2, pz3, pz4]
       refine tkz 21 (qRfR6 _) ?_ rfl ?_ ?_
       rotate_left
       ·intro w hSw
        unfold qRfR6
        go_simp
        first | done | with_reducible rfl
       try simp only [qRfR6, pz0, pz2, pz3, pz4]
       refine wpAnyH_ready (rs := [22]) (by kernel_rfl) (by simp) ?_
       refine arz (qRfR7 _) rfl (fun K hK => ?_) AllReadyH.nil
       unfold qRfR7
       go_simp
       obtain ⟨Y, hV⟩ : ∃ V, V11.setCell ⟨W2.heap.size, 4, none⟩ (.slice a9 (A.length + 1) c9) = V := ⟨_, rfl⟩
       rw [hV]
       have hgV : V11.grownBy Y (some W2.heap.size) := by rw [← hV]; exact grown_set _ _ _ _
       have yB : Hid (Blk Y W2.heap.size 24 (0, 0) [.int .i64 cl, .int .i64 ((ttl : Int) / 16777216), .int .i64 ((ttl : Int) / 65536 % 256), .bool ((ttl : Int) / 32768 % 2 == 1), .slice a9 (A.length + 1) c9]) := Lib.hid (by rw [← hV]; exact hB11.out.set 4 _)
       have yN : Hid (OwnO Y W2.heap.size (.slice a9 (A.length + 1) c9) (A ++ [(E1, D)])) := Lib.hid (ownO_store hN11.out hB11.out (by decide) (by decide) hgV)
       have yb : Hid (Below W2.heap.size X Y) := Lib.hid (hX11.out.grown hgV (Nat.le_trans (Nat.le_of_lt hzX.out) hX11.out.size) (fun j hj => by have e2 := Option.some.inj hj; omega))
       have sy2 := hS2.out _ (kx.out.trans yb.out)
       clear hV hgV
       refine hK.out _ _ sy2 (fun hHeld => ?_)
       clear hK K
       refine wpAnyH_done (by kernel_rfl) ?_ _
       refine NoPanic.normal ?_
       have hcut3 := hcut3'.out
       clear hcut hHeld g0 g1 g2 g3
       go_wp2_with fail
       go_roundw
       case rel =>
        have hq := hms.out
        have e8 : m - (4 + N) = l.length - (p + (4 + N)) := by omega
        have hRe := hRd'.out
        rw [e8] at hRe
        exact ⟨p + (4 + N), A ++ [(E1, D)], _, a3, c' - (4 + N), by rw [e8], by omega, by simp; omega, Lib.hid hRe, hpr, yB, yN, yb⟩
       case measure =>
        have hq := hms.out
        simp
        omega
      refine arz (qRfR2 _) rfl (fun K hK => ?_) AllReadyH.nil
      unfold qRfR2
      refine step_lit (E := byteE) (w := U) (by rfl) (.tmp 107) (.tmp 111) (by rfl) Try.underlying33 hi5 hy0 hy1 hy2 (by rfl) (by rfl) (by rfl) hRU.out hNb k7.out hO7.out ?_
      intro aO cO V13 hD13 k13 _
      replace k13 := Lib.hid k13
      have t13 : V13.cell? ⟨W2.heap.size, 4, none⟩ = some (.slice av A.length cv) := ((hBU.out.below k13.out hBU.out.lt).cell 4).trans rfl
      refine hK.out _ _ (cs'.out _ k13.out) (fun hHeld => ?_)
      clear hK K
      try simp only [pz0, pz2, pz3, pz4]
      refine tkz 18 (qRfR3 _) ?_ rfl ?_ ?_
      rotate_left
      ·intro w hSw
       unfold qRfR3
       go_simp
       first | done | with_reducible rfl
      try simp only [qRfR3, pz0, pz2, pz3, pz4]
      refine wpAnyH_ready (rs := [1, 19]) (by kernel_rfl) (by simp) ?_
      refine arz (qRfR0 _) rfl (fun K hK => ?_) ?_
      ·unfold qRfR0
       go_simp
       refine hK.out _ _ (cs'.out _ k13.out) (fun hHeld => ?_)
       clear hK K
       try simp only [pz0, pz2, pz3, pz4]
       refine wpAnyH_ready (rs := [19]) (by kernel_rfl) (by simp) ?_
       refine arz (qRfR4 _) rfl (fun K hK => ?_) AllReadyH.nil
       unfold qRfR4
       go_simp
       obtain ⟨V15, e15⟩ : ∃ U, V13.alloc (.cells #[.int .u16 (E1 : Nat), .slice aO N cO] 53) = U := ⟨_, rfl⟩
       have m15 : Hid (Below V13.heap.size V13 V15) := Lib.hid (by rw [← e15]; exact alloc_bel _ _)
       have k15 := Lib.hid (k13.out.trans (m15.out.mono k13.out.size))
       have hL15 : Hid (Blk V15 V13.heap.size 53 (0, 0) [.int .u16 (E1 : Nat), .slice aO N cO]) := Lib.hid (by rw [← e15]; exact Blk.new V13 53 (0, 0) #[.int .u16 (E1 : Nat), .slice aO N cO])
       have t15 : V15.cell? ⟨W2.heap.size, 4, none⟩ = some (.slice av A.length cv) := ((hBU.out.below k15.out hBU.out.lt).cell 4).trans rfl
       rw [e15]
       clear e15
       refine hK.out _ _ (cs'.out _ k15.out) (fun hHeld => ?_)
       clear hK K
       try simp only [pz0, pz2, pz3, pz4]
       refine wpAnyH_ready (rs := [20]) (by kernel_rfl) (by simp) ?_
       refine arz (qRfR5 _) rfl (fun K hK => ?_) AllReadyH.nil
       unfold qRfR5
       refine step_op2 (W0 := V13) (base := W2.heap.size) (by rfl) (.tmp 96) (.tmp 114) (by rfl) rfl hDl.out (hNU.out.ext k13.out) (hD13.out.mono hWU.out) hL15.out m15.out (Nat.le_trans hWU.out k13.out.size) hAb.out (by rfl) (by rfl) ?_
       intro a9 c9 V16 hN16 hg16
       have hN16 := Lib.hid hN16
       have hO16 := hNU.out.ext k15.out
       have hX16 := Lib.hid (ownO_below (B := W2.heap.size) (hbelU.out.trans (k15.out.mono hWU.out)) hg16 hO16 (Nat.le_trans hWU.out k15.out.size) (Nat.le_refl _))
       have hB16 := Lib.hid (blk_ownO (hBU.out.below k15.out hBU.out.lt) hO16 (by decide) hg16)
       have t16 : V16.cell? ⟨W2.heap.size, 4, none⟩ = some (.slice av A.length cv) := (hB16.out.cell 4).trans rfl
       have f16 : V16.frozen? ⟨W2.heap.size, 4, none⟩ = false := by rw [hB16.out.frozen]; try simp
       have sy := hS2.out _ (kx.out.trans hX16.out)
       clear hO16 hg16
       refine hK.out _ _ sy (fun hHeld => ?_)
       clear hK K
       try simp only [pz0, pz2, pz3, pz4]
       refine tkz 21 (qRfR6 _) ?_ rfl ?_ ?_
       rotate_left
       ·intro w hSw
        unfold qRfR6
        go_simp
        first | done | with_reducible rfl
       try simp only [qRfR6, pz0, pz2, pz3, pz4]
       refine wpAnyH_ready (rs := [22]) (by kernel_rfl) (by simp) ?_
       refine arz (qRfR7 _) rfl (fun K hK => ?_) AllReadyH.nil
       unfold qRfR7
       go_simp
       obtain ⟨Y, hV⟩ : ∃ V, V16.setCell ⟨W2.heap.size, 4, none⟩ (.slice a9 (A.length + 1) c9) = V := ⟨_, rfl⟩
       rw [hV]
       have hgV : V16.grownBy Y (some W2.heap.size) := by rw [← hV]; exact grown_set _ _ _ _
       have yB : Hid (Blk Y W2.heap.size 24 (0, 0) [.int .i64 cl, .int .i64 ((ttl : Int) / 16777216), .int .i64 ((ttl : Int) / 65536 % 256), .bool ((ttl : Int) / 32768 % 2 == 1), .slice a9 (A.length + 1) c9]) := Lib.hid (by rw [← hV]; exact hB16.out.set 4 _)
       have yN : Hid (OwnO Y W2.heap.size (.slice a9 (A.length + 1) c9) (A ++ [(E1, D)])) := Lib.hid (ownO_store hN16.out hB16.out (by decide) (by decide) hgV)
       have yb : Hid (Below W2.heap.size X Y) := Lib.hid (hX16.out.grown hgV (Nat.le_trans (Nat.le_of_lt hzX.out) hX16.out.size) (fun j hj => by have e2 := Option.some.inj hj; omega))
       have sy2 := hS2.out _ (kx.out.trans yb.out)
       clear hV hgV
       refine hK.out _ _ sy2 (fun hHeld => ?_)
       clear hK K
       refine wpAnyH_done (by kernel_rfl) ?_ _
       refine NoPanic.normal ?_
       have hcut3 := hcut3'.out
       clear hcut hHeld g0 g1 g2 g3
       go_wp2_with fail
       go_roundw
       case rel =>
        have hq := hms.out
        have e8 : m - (4 + N) = l.length - (p + (4 + N)) := by omega
        have hRe := hRd'.out
        rw [e8] at hRe
        exact ⟨p + (4 + N), A ++ [(E1, D)], _, a3, c' - (4 + N), by rw [e8], by omega, by simp; omega, Lib.hid hRe, hpr, yB, yN, yb⟩
       case measure =>
        have hq := hms.out
        simp
        omega
      refine arz (qRfR4 _) rfl (fun K hK => ?_) AllReadyH.nil
      unfold qRfR4
      go_simp
      obtain ⟨V18, e18⟩ : ∃ U, V13.alloc (.cells #[.int .u16 (E1 : Nat), .slice aO N cO] 53) = U := ⟨_, rfl⟩
      have m18 : Hid (Below V13.heap.size V13 V18) := Lib.hid (by rw [← e18]; exact alloc_bel _ _)
      have k18 := Lib.hid (k13.out.trans (m18.out.mono k13.out.size))
      have hL18 : Hid (Blk V18 V13.heap.size 53 (0, 0) [.int .u16 (E1 : Nat), .slice aO N cO]) := Lib.hid (by rw [← e18]; exact Blk.new V13 53 (0, 0) #[.int .u16 (E1 : Nat), .slice aO N cO])
      have t18 : V18.cell? ⟨W2.heap.size, 4, none⟩ = some (.slice av A.length cv) := ((hBU.out.below k18.out hBU.out.lt).cell 4).trans rfl
      rw [e18]
      clear e18
      refine hK.out _ _ (cs'.out _ k18.out) (fun hHeld => ?_)
      clear hK K
      try simp only [pz0, pz2, pz3, pz4]
      refine wpAnyH_ready (rs := [1]) (by kernel_rfl) (by simp) ?_
      refine arz (qRfR0 _) rfl (fun K hK => ?_) AllReadyH.nil
      unfold qRfR0
      go_simp
      refine hK.out _ _ (cs'.out _ k18.out) (fun hHeld => ?_)
      clear hK K
      try simp only [pz0, pz2, pz3, pz4]
      refine wpAnyH_ready (rs := [20]) (by kernel_rfl) (by simp) ?_
      refine arz (qRfR5 _) rfl (fun K hK => ?_) AllReadyH.nil
      unfold qRfR5
      refine step_op2 (W0 := V13) (base := W2.heap.size) (by rfl) (.tmp 96) (.tmp 114) (by rfl) rfl hDl.out (hNU.out.ext k13.out) (hD13.out.mono hWU.out) hL18.out m18.out (Nat.le_trans hWU.out k13.out.size) hAb.out (by rfl) (by rfl) ?_
      intro a9 c9 V20 hN20 hg20
      have hN20 := Lib.hid hN20
      have hO20 := hNU.out.ext k18.out
      have hX20 := Lib.hid (ownO_below (B := W2.heap.size) (hbelU.out.trans (k18.out.mono hWU.out)) hg20 hO20 (Nat.le_trans hWU.out k18.out.size) (Nat.le_refl _))
      have hB20 := Lib.hid (blk_ownO (hBU.out.below k18.out hBU.out.lt) hO20 (by decide) hg20)
      have t20 : V20.cell? ⟨W2.heap.size, 4, none⟩ = some (.slice av A.length cv) := (hB20.out.cell 4).trans rfl
      have f20 : V20.frozen? ⟨W2.heap.size, 4, none⟩ = false := by rw [hB20.out.frozen]; try simp
      have sy := hS2.out _ (kx.out.trans hX20.out)
      clear hO20 hg20
      refine hK.out _ _ sy (fun hHeld => ?_)
      clear hK K
      try simp only [pz0, pz2, pz3, pz4]
      refine tkz 21 (qRfR6 _) ?_ rfl ?_ ?_
      rotate_left
      ·intro w hSw
       unfold qRfR6
       go_simp
       first | done | with_reducible rfl
      try simp only [qRfR6, pz0, pz2, pz3, pz4]
      refine wpAnyH_ready (rs := [22]) (by kernel_rfl) (by simp) ?_
      refine arz (qRfR7 _) rfl (fun K hK => ?_) AllReadyH.nil
      unfold qRfR7
      go_simp
      obtain ⟨Y, hV⟩ : ∃ V, V20.setCell ⟨W2.heap.size, 4, none⟩ (.slice a9 (A.length + 1) c9) = V := ⟨_, rfl⟩
      rw [hV]
      have hgV : V20.grownBy Y (some W2.heap.size) := by rw [← hV]; exact grown_set _ _ _ _
      have yB : Hid (Blk Y W2.heap.size 24 (0, 0) [.int .i64 cl, .int .i64 ((ttl : Int) / 16777216), .int .i64 ((ttl : Int) / 65536 % 256), .bool ((ttl : Int) / 32768 % 2 == 1), .slice a9 (A.length + 1) c9]) := Lib.hid (by rw [← hV]; exact hB20.out.set 4 _)
      have yN : Hid (OwnO Y W2.heap.size (.slice a9 (A.length + 1) c9) (A ++ [(E1, D)])) := Lib.hid (ownO_store hN20.out hB20.out (by decide) (by decide) hgV)
      have yb : Hid (Below W2.heap.size X Y) := Lib.hid (hX20.out.grown hgV (Nat.le_trans (Nat.le_of_lt hzX.out) hX20.out.size) (fun j hj => by have e2 := Option.some.inj hj; omega))
      have sy2 := hS2.out _ (kx.out.trans yb.out)
      clear hV hgV
      refine hK.out _ _ sy2 (fun hHeld => ?_)
      clear hK K
      refine wpAnyH_done (by kernel_rfl) ?_ _
      refine NoPanic.normal ?_
      have hcut3 := hcut3'.out
      clear hcut hHeld g0 g1 g2 g3
      go_wp2_with fail
      go_roundw
      case rel =>
       have hq := hms.out
       have e8 : m - (4 + N) = l.length - (p + (4 + N)) := by omega
       have hRe := hRd'.out
       rw [e8] at hRe
       exact ⟨p + (4 + N), A ++ [(E1, D)], _, a3, c' - (4 + N), by rw [e8], by omega, by simp; omega, Lib.hid hRe, hpr, yB, yN, yb⟩
      case measure =>
       have hq := hms.out
       simp
       omega
   ·have h0I : ¬ (0 : Int) < (m : Int) := by omega
    have hfin : Hid (prs l 0 = some A) := Lib.hid (by rw [hg.out, prs_end (by omega)]; simp)
    have t0 : wr.cell? ⟨W2.heap.size, 0, none⟩ = some (.int .i64 cl) := (hB.out.cell 0).trans rfl
    have t1 : wr.cell? ⟨W2.heap.size, 1, none⟩ = some (.int .i64 ((ttl : Int) / 16777216)) := (hB.out.cell 1).trans rfl
    have t2 : wr.cell? ⟨W2.heap.size, 2, none⟩ = some (.int .i64 ((ttl : Int) / 65536 % 256)) := (hB.out.cell 2).trans rfl
    have t3 : wr.cell? ⟨W2.heap.size, 3, none⟩ = some (.bool ((ttl : Int) / 32768 % 2 == 1)) := (hB.out.cell 3).trans rfl
    have t4 : wr.cell? ⟨W2.heap.size, 4, none⟩ = some (.slice av A.length cv) := (hB.out.cell 4).trans rfl
    go_wp2_with (refine store_whole rfl 24 (.tmp 2) (.tmp 121) rfl rfl rfl hZ.out (by rfl) (by kernel_rfl) (by kernel_rfl) ?_; intro w6 hB6 hg6 hz6; have hR6 := Lib.hid hB6; have hg6' := Lib.hid hg6; clear hB6 hg6 hz6)
    refine bodyPost_ret (results_ct rfl _ rfl hR6.out Try.underlying24 rfl (by kernel_rfl)) rfl ?_
    have c1 : ((ttl / 16777216 : Nat) : Int) = (ttl : Int) / 16777216 := by omega
    have c2 : ((ttl / 65536 % 256 : Nat) : Int) = (ttl : Int) / 65536 % 256 := by omega
    have c3 : (ttl / 32768 % 2 == 1) = ((ttl : Int) / 32768 % 2 == 1) := by
     rw [Bool.eq_iff_iff]
     simp
     omega
    refine ⟨ReadB.ok (v := .slice av A.length cv) hok'.out hfin.out ?_ ((ownO_store hN.out hZ.out (by decide) (by decide) hg6'.out).mono hb2.out.size), hbw.out.grown hg6'.out hbw.out.size (fun j hj => by have e2 := Option.some.inj hj; have := hz.out; omega)⟩
    unfold eV
    rw [c1, c2, c3]
    rfl
 ·exact hbad hok
end Go.Proofs.Ythgnlbdolilklaa
