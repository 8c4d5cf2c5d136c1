/- Records are copied: edns.copied's function 66; printed by gen_cls.py. -/
import Derived.Test.YthgnlbdolilklaaClA
import Derived.Test.YthgnlbdolilklaaOfE
namespace Go.Proofs.Ythgnlbdolilklaa
open Go Go.RowKit
def qClS0 (p : String) : Oper := { dst := some 24, op := Op.load 32 (Operand.tmp 23), type := 32, pos := p, after := #[{ on := 1, ground := Ground.data }], guard := none }
def qClS1 (p : String) : Oper := { dst := some 25, op := Op.call { callee := Callee.value (Operand.func 68), args := #[Operand.tmp 24], argTypes := #[32] }, type := 32, pos := p, after := #[{ on := 2, ground := Ground.data }], guard := none }
def qClS2 (p : String) : Oper := { dst := some 28, op := Op.load 25 (Operand.tmp 27), type := 25, pos := p, after := #[{ on := 5, ground := Ground.data }], guard := none }
def qClS3 (p : String) : Oper := { dst := some 29, op := Op.call { callee := Callee.value (Operand.func 69), args := #[Operand.tmp 28], argTypes := #[25] }, type := 25, pos := p, after := #[{ on := 6, ground := Ground.data }, { on := 3, ground := Ground.chain }], guard := none }
def qClS4 (p : String) : Oper := { dst := some 32, op := Op.load 33 (Operand.tmp 31), type := 33, pos := p, after := #[{ on := 9, ground := Ground.data }], guard := none }
def qClS5 (p : String) : Oper := { dst := some 33, op := Op.call { callee := Callee.value (Operand.func 70), args := #[Operand.tmp 32], argTypes := #[33] }, type := 33, pos := p, after := #[{ on := 10, ground := Ground.data }, { on := 7, ground := Ground.chain }], guard := none }
def qClS6 (p : String) : Oper := { dst := some 34, op := Op.build 35 #[(1, Operand.tmp 25), (2, Operand.tmp 29), (3, Operand.tmp 33)], type := 35, pos := p, after := #[{ on := 3, ground := Ground.data }, { on := 7, ground := Ground.data }, { on := 11, ground := Ground.data }], guard := none }
def qClS7 (p : String) : Oper := { dst := some 35, op := Op.fieldAddr 37 (Operand.tmp 5) 4, type := 0, pos := p, after := #[{ on := 0, ground := Ground.phase }, { on := 1, ground := Ground.phase }, { on := 2, ground := Ground.phase }, { on := 3, ground := Ground.phase }, { on := 4, ground := Ground.phase }, { on := 5, ground := Ground.phase }, { on := 6, ground := Ground.phase }, { on := 7, ground := Ground.phase }, { on := 8, ground := Ground.phase }, { on := 9, ground := Ground.phase }, { on := 10, ground := Ground.phase }, { on := 11, ground := Ground.phase }, { on := 12, ground := Ground.phase }], guard := none }
def qClS8 (p : String) : Oper := { dst := none, op := Op.store 35 (Operand.tmp 35) (Operand.tmp 34), type := 0, pos := p, after := #[{ on := 13, ground := Ground.data }, { on := 12, ground := Ground.data }, { on := 11, ground := Ground.chain }, { on := 0, ground := Ground.phase }, { on := 1, ground := Ground.phase }, { on := 2, ground := Ground.phase }, { on := 3, ground := Ground.phase }, { on := 4, ground := Ground.phase }, { on := 5, ground := Ground.phase }, { on := 6, ground := Ground.phase }, { on := 7, ground := Ground.phase }, { on := 8, ground := Ground.phase }, { on := 9, ground := Ground.phase }, { on := 10, ground := Ground.phase }, { on := 11, ground := Ground.phase }, { on := 12, ground := Ground.phase }], guard := none }
def qClS9 (p : String) : Oper := { dst := some 44, op := Op.load 31 (Operand.tmp 43), type := 31, pos := p, after := #[{ on := 1, ground := Ground.data }], guard := none }
def qClS10 (p : String) : Oper := { dst := some 46, op := Op.call { callee := Callee.value (Operand.func 67), args := #[Operand.tmp 45], argTypes := #[26] }, type := 26, pos := p, after := #[{ on := 3, ground := Ground.data }], guard := none }
def qClS11 (p : String) : Oper := { dst := some 47, op := Op.buildSlice 31 1 #[(0, Operand.tmp 46)], type := 31, pos := p, after := #[{ on := 4, ground := Ground.data }], guard := none }
def qClS12 (p : String) : Oper := { dst := some 48, op := Op.call { callee := Callee.builtin Builtin.append, args := #[Operand.tmp 44, Operand.tmp 47], argTypes := #[31, 31] }, type := 31, pos := p, after := #[{ on := 2, ground := Ground.data }, { on := 5, ground := Ground.data }, { on := 4, ground := Ground.chain }], guard := none }
def qClS13 (p : String) : Oper := { dst := some 49, op := Op.fieldAddr 37 (Operand.tmp 5) 4, type := 0, pos := p, after := #[{ on := 0, ground := Ground.phase }, { on := 1, ground := Ground.phase }, { on := 2, ground := Ground.phase }, { on := 3, ground := Ground.phase }, { on := 4, ground := Ground.phase }, { on := 5, ground := Ground.phase }, { on := 6, ground := Ground.phase }], guard := none }
def qClS14 (p : String) : Oper := { dst := some 50, op := Op.fieldAddr 35 (Operand.tmp 49) 0, type := 0, pos := p, after := #[{ on := 7, ground := Ground.data }, { on := 0, ground := Ground.phase }, { on := 1, ground := Ground.phase }, { on := 2, ground := Ground.phase }, { on := 3, ground := Ground.phase }, { on := 4, ground := Ground.phase }, { on := 5, ground := Ground.phase }, { on := 6, ground := Ground.phase }], guard := none }
def qClS15 (p : String) : Oper := { dst := none, op := Op.store 31 (Operand.tmp 50) (Operand.tmp 48), type := 0, pos := p, after := #[{ on := 8, ground := Ground.data }, { on := 6, ground := Ground.data }, { on := 6, ground := Ground.chain }, { on := 0, ground := Ground.phase }, { on := 1, ground := Ground.phase }, { on := 2, ground := Ground.phase }, { on := 3, ground := Ground.phase }, { on := 4, ground := Ground.phase }, { on := 5, ground := Ground.phase }, { on := 6, ground := Ground.phase }], guard := none }
theorem Try.info37 : (Try.prog.info? 37).map (fun i => (i.zero, i.size, i.bytes)) = some (some (.agg #[.slice none 0 0, .int .u16 0, .int .u16 0, .int .u32 0, .slice none 0 0, .slice none 0 0, .slice none 0 0, .slice none 0 0]), 8, 128) := by kernel_rfl
/-- records of the call's own, copies of others -/
def OwnRs (w : World) (base : Nat) (v : Value) (QS : List RD) (LS : List RL) : Prop :=
 ∃ qs : List RD, Own recE w base v qs ∧ qs.length = QS.length ∧ ∀ (j : Nat) (q q0 : RD) (L : RL), qs[j]? = some q → QS[j]? = some q0 → LS[j]? = some L → OwnRec w base q L ∧ q.ty = q0.ty ∧ q.cl = q0.cl ∧ q.ttl = q0.ttl
theorem OwnRs.nil (w : World) (base : Nat) : OwnRs w base (.slice none 0 0) [] [] := ⟨[], Own.nil _ _ _, rfl, fun j q q0 L h => by simp at h⟩
theorem OwnRs.ext {w w' : World} {base : Nat} {v : Value} {QS : List RD} {LS : List RL} (h : OwnRs w base v QS LS) (hb : Below w.heap.size w w') : OwnRs w' base v QS LS := by
 obtain ⟨qs, h1, h2, h3⟩ := h
 exact ⟨qs, h1.ext hb, h2, fun j q q0 L hq h0 hL => ⟨(h3 j q q0 L hq h0 hL).1.ext hb, (h3 j q q0 L hq h0 hL).2⟩⟩
theorem OwnRs.shape {w : World} {base : Nat} {v : Value} {QS : List RD} {LS : List RL} (h : OwnRs w base v QS LS) : ∃ a c, v = .slice a QS.length c := by
 obtain ⟨qs, h1, h2, _⟩ := h
 obtain ⟨a, c, e⟩ := h1.shape
 exact ⟨a, c, by rw [e, h2]⟩
theorem OwnRs.lt {w : World} {base : Nat} {v : Value} {QS : List RD} {LS : List RL} (h : OwnRs w base v QS LS) : ∀ k, v.ownBlock = some k → base ≤ k ∧ k < w.heap.size := by
 obtain ⟨qs, h1, _⟩ := h
 exact h1.lt
theorem ownN_grownR {w w' : World} {base base' : Nat} {v v' : Value} {l : List RD} {A : List Nm} (h : OwnN w base' v' A) (ho : Own recE w base v l) (hg : w.grownBy w' v.ownBlock) : OwnN w' base' v' A := by
 obtain ⟨ps, p1, p2, p3⟩ := h
 exact ⟨ps, own_grown p1 ho (by decide) hg, p2, fun j p o hp ho' => own_grown (p3 j p o hp ho') ho (by decide) hg⟩
theorem OwnRec.grown {w w' : World} {base base' : Nat} {v : Value} {l : List RD} {q : RD} {L : RL} (h : OwnRec w base' q L) (ho : Own recE w base v l) (hg : w.grownBy w' v.ownBlock) : OwnRec w' base' q L :=
 ⟨own_grown h.ow ho (by decide) hg, ownN_grownR h.nm ho hg, own_grown h.nu ho (by decide) hg, own_grown h.tx ho (by decide) hg, own_grown h.raw ho (by decide) hg⟩
/-- one record more -/
theorem OwnRs.app {w w' : World} {base : Nat} {v v' : Value} {QS : List RD} {LS : List RL} {qs : List RD} {q q0 : RD} {L : RL} (h1 : Own recE w base v qs) (h2 : qs.length = QS.length) (h2' : LS.length = QS.length)
 (h3 : ∀ (j : Nat) (q q0 : RD) (L : RL), qs[j]? = some q → QS[j]? = some q0 → LS[j]? = some L → OwnRec w base q L ∧ q.ty = q0.ty ∧ q.cl = q0.cl ∧ q.ttl = q0.ttl)
 (hq : OwnRec w base q L ∧ q.ty = q0.ty ∧ q.cl = q0.cl ∧ q.ttl = q0.ttl) (ho : Own recE w' base v' (qs ++ [q])) (hg : w.grownBy w' v.ownBlock) : OwnRs w' base v' (QS ++ [q0]) (LS ++ [L]) := by
 refine ⟨qs ++ [q], ho, by simp [h2], fun j x x0 Y hx hx0 hY => ?_⟩
 rw [List.getElem?_append] at hx hx0 hY
 by_cases hj : j < qs.length
 ·rw [if_pos hj] at hx
  rw [if_pos (by omega)] at hx0 hY
  obtain ⟨r1, r2⟩ := h3 j x x0 Y hx hx0 hY
  exact ⟨r1.grown h1 hg, r2⟩
 ·rw [if_neg hj] at hx
  rw [if_neg (by omega), ← h2] at hx0
  rw [if_neg (by omega), h2', ← h2] at hY
  obtain ⟨m, hm⟩ : ∃ m, j - qs.length = m := ⟨_, rfl⟩
  rw [hm] at hx hx0 hY
  cases m with
  | succ m => simp at hx
  | zero =>
   simp only [List.getElem?_cons_zero, Option.some.injEq] at hx hx0 hY
   subst hx hx0 hY
   exact ⟨hq.1.grown h1 hg, hq.2⟩
set_option maxHeartbeats 16000000 in
set_option maxRecDepth 100000 in
theorem recs_copy {w : World} {a : Option Addr} {n c : Nat} {QS : List RD} {LS : List RL} (h : RdRs w a n c QS LS) :
 Calls Try.prog 66 #[.slice a n c] w fun e w' => (∃ v, e = .returned v ∧ OwnRs w' w.heap.size v QS LS) ∧ Below w.heap.size w w' := by
 have hl := h.1.len
 have hl2 := h.2.1
 have hn : n ≤ 1152921504606846976 := by have := h.2.2.1; unfold reachBytes at this; omega
 have hnb : Hid (n * 128 ≤ 140737488355328) := Lib.hid (by have := h.2.2.1; unfold reachBytes at this; omega)
 have hH := Lib.hid h
 clear h
 go_enter Try.func66, Try.ntmps66
 go_wp2_with fail
 go_loopw [3, 11] (fun v i wr => ∃ k : Nat, k ≤ n ∧ i = .int .i64 k ∧ Hid (OwnRs wr w.heap.size v (QS.take k) (LS.take k)) ∧ Hid (Below w.heap.size w wr)) (fun _ i _ => n - (intOf i).toNat)
 case atStart => exact ⟨0, Nat.zero_le _, rfl, Lib.hid (OwnRs.nil _ _), Lib.hid (Below.refl _ _)⟩
 case round =>
  obtain ⟨k, hk, rfl, hv, hb⟩ := hrel
  by_cases hlt : k < n
  ·have hkI : (k : Int) < n := by omega
   have hks : k < QS.length := by omega
   obtain ⟨b, o, rfl, hbs, hc⟩ := rd_recs (hH.out.1.ext hb.out) (by omega)
   have hck := hc k hks
   clear hc
   obtain ⟨x, hx⟩ : ∃ x, QS[k] = x := ⟨_, rfl⟩
   have hxs : Hid (QS[k]? = some x) := Lib.hid (by rw [List.getElem?_eq_getElem hks, hx])
   rw [hx] at hck
   clear hx
   obtain ⟨L, hL⟩ : ∃ L, LS[k]? = some L := ⟨LS[k]'(by omega), List.getElem?_eq_getElem _⟩
   have hLs := Lib.hid hL
   have hrec := Lib.hid ((hH.out.2.2.2 k x L hxs.out hL).ext hb.out)
   clear hL
   obtain ⟨oa, on, oc, ty, cl, ttl, ma, mn, mc, ua, un, uc, xa, xn, xc, ra, rn, rc⟩ := x
   have c0 : wr.cell? ⟨b, o + k * 8, none⟩ = some (.slice oa on oc) := hck 0 _ rfl
   have c1 : wr.cell? ⟨b, o + k * 8 + 1, none⟩ = some (.int .u16 ty) := hck 1 _ rfl
   have c2 : wr.cell? ⟨b, o + k * 8 + 2, none⟩ = some (.int .u16 cl) := hck 2 _ rfl
   have c3 : wr.cell? ⟨b, o + k * 8 + 3, none⟩ = some (.int .u32 ttl) := hck 3 _ rfl
   have c4 : wr.cell? ⟨b, o + k * 8 + 4, none⟩ = some (.slice ma mn mc) := hck 4 _ rfl
   have c5 : wr.cell? ⟨b, o + k * 8 + 5, none⟩ = some (.slice ua un uc) := hck 5 _ rfl
   have c6 : wr.cell? ⟨b, o + k * 8 + 6, none⟩ = some (.slice xa xn xc) := hck 6 _ rfl
   have c7 : wr.cell? ⟨b, o + k * 8 + 7, none⟩ = some (.slice ra rn rc) := hck 7 _ rfl
   clear hck
   obtain ⟨av, cv, rfl⟩ := hv.out.shape
   obtain ⟨W5, hW5⟩ : ∃ W, wr.alloc (.cells #[.slice none 0 0, .int .u16 0, .int .u16 0, .int .u32 0, .slice none 0 0, .slice none 0 0, .slice none 0 0, .slice none 0 0] 37) = W := ⟨_, rfl⟩
   have hN5 : Hid (Blk W5 wr.heap.size 37 (0, 0) [.slice none 0 0, .int .u16 0, .int .u16 0, .int .u32 0, .slice none 0 0, .slice none 0 0, .slice none 0 0, .slice none 0 0]) := Lib.hid (by rw [← hW5]; exact Blk.new wr 37 (0, 0) #[.slice none 0 0, .int .u16 0, .int .u16 0, .int .u32 0, .slice none 0 0, .slice none 0 0, .slice none 0 0, .slice none 0 0])
   have hk5 : Hid (Below wr.heap.size wr W5) := Lib.hid (by rw [← hW5]; exact alloc_bel _ _)
   go_upto_region 5 with (refine store_whole rfl 37 (.tmp 5) (.tmp 14) rfl rfl rfl hN5.out (by rfl) (by kernel_rfl) (by kernel_rfl) ?_; intro w5 hB6 hg6 hz6; have hR5 := Lib.hid hB6; have hkR := Lib.hid (fresh_store hk5.out hg6); clear hB6 hg6 hz6)
   clear hW5 hN5 hk5 c0 c1 c2 c3 c4 c5 c6 c7
   have hrec5 := Lib.hid (hrec.out.ext hkR.out)
   have d0 : w5.cell? ⟨wr.heap.size, 0, none⟩ = some (.slice oa on oc) := (hR5.out.cell 0).trans rfl
   have d4 : w5.cell? ⟨wr.heap.size, 4, none⟩ = some (.slice ma mn mc) := (hR5.out.cell 4).trans rfl
   have hon : Hid (on * 16 ≤ 140737488355328) := Lib.hid (by have := hrec.out.ow.2.2; dsimp only at this; unfold reachBytes at this; omega)
   have hcl1 : Hid (Calls Try.prog 67 #[.slice oa on oc] w5 fun e w' => (∃ a' c', e = .returned (.slice a' on c') ∧ Own strE w' w5.heap.size (.slice a' on c') L.ow) ∧ Below w5.heap.size w5 w') := Lib.hid (clone_name hrec5.out.ow.1 hon.out)
   go_wp2_with fail
   refine hcl1.out.mono ?_
   rintro e w6 ⟨⟨aO, cO, rfl, hO⟩, hb6⟩
   have hO6 := Lib.hid hO
   have hkb := Lib.hid hb6
   have h5le : Hid (wr.heap.size ≤ w5.heap.size) := Lib.hid hkR.out.size
   clear hO hb6 hcl1
   have hR6 := Lib.hid (hR5.out.below hkb.out hR5.out.lt)
   have hk6 := Lib.hid (hkR.out.trans (hkb.out.mono hkR.out.size))
   have e0 : w6.cell? ⟨wr.heap.size, 0, none⟩ = some (.slice oa on oc) := (hR6.out.cell 0).trans rfl
   have f0 : w6.frozen? ⟨wr.heap.size, 0, none⟩ = false := by rw [hR6.out.frozen]; try simp
   clear d0 d4
   go_upto_region 7 with (fail)
   obtain ⟨V7, hV7⟩ : ∃ V, w6.setCell ⟨wr.heap.size, 0, none⟩ (.slice aO on cO) = V := ⟨_, rfl⟩
   rw [hV7]
   have hg7 : Hid (w6.grownBy V7 (some wr.heap.size)) := Lib.hid (by rw [← hV7]; exact grown_set _ _ _ _)
   have hR7 : Hid (Blk V7 wr.heap.size 37 (0, 0) [.slice aO on cO, .int .u16 ty, .int .u16 cl, .int .u32 ttl, .slice ma mn mc, .slice ua un uc, .slice xa xn xc, .slice ra rn rc]) := Lib.hid (by rw [← hV7]; exact hR6.out.set 0 _)
   have hO7 := Lib.hid (own_store hO6.out hR6.out (by decide) hg7.out)
   have hk7 : Hid (Below wr.heap.size wr V7) := Lib.hid (hk6.out.grown hg7.out hk6.out.size (fun j hj => by cases hj; exact Nat.le_refl _))
   have hrec7 := Lib.hid (hrec.out.ext hk7.out)
   clear hV7 e0 f0 hR5 hR6 hO6 hk6 hg7 hkb hrec5 hkR
   have hun : Hid (un * 4 ≤ 140737488355328) := Lib.hid (by have := hrec.out.znu; dsimp only at this; unfold reachBytes at this; omega)
   have hxn : Hid (xn * 16 ≤ 140737488355328) := Lib.hid (by have := hrec.out.tx.2.2; dsimp only at this; unfold reachBytes at this; omega)
   have hrn : Hid (rn * 1 ≤ 140737488355328) := Lib.hid (by have := hrec.out.zraw; dsimp only at this; unfold reachBytes at this; omega)
   have hO8 := Lib.hid (hO7.out.mono h5le.out)
   have hqU : Hid (Rd u32E V7 ua un uc L.nu) := Lib.hid hrec7.out.nu
   have hqX : Hid (Rd strE V7 xa xn xc L.tx) := Lib.hid hrec7.out.tx.1
   have hqR : Hid (Rd byteE V7 ra rn rc L.raw) := Lib.hid hrec7.out.raw
   go_cut [5] from 22 to 35 (fun t5 wx => ∃ (aU : Option Addr) (cU : Nat) (aX : Option Addr) (cX : Nat) (aR : Option Addr) (cR : Nat), t5 = .pointer (some ⟨wr.heap.size, 0, none⟩) ∧ Hid (Blk wx wr.heap.size 37 (0, 0) [.slice aO on cO, .int .u16 ty, .int .u16 cl, .int .u32 ttl, .slice none 0 0, .slice aU un cU, .slice aX xn cX, .slice aR rn cR]) ∧ Hid (Own strE wx wr.heap.size (.slice aO on cO) L.ow) ∧ Hid (Own u32E wx wr.heap.size (.slice aU un cU) L.nu) ∧ Hid (Own strE wx wr.heap.size (.slice aX xn cX) L.tx) ∧ Hid (Own byteE wx wr.heap.size (.slice aR rn cR) L.raw) ∧ Hid (Below wr.heap.size wr wx))
   case first =>
    refine wp_region_noPanic ?_
    refine wp_region_held_drew (S := fun _ => True) (by kernel_rfl) trivial (fun hHeld => ?_)
    have k0 : Hid (Below V7.heap.size V7 V7.drew) := Lib.hid (Below.refl _ _).drew
    have B0 : Hid (Blk V7.drew wr.heap.size 37 (0, 0) [.slice aO on cO, .int .u16 ty, .int .u16 cl, .int .u32 ttl, .slice ma mn mc, .slice ua un uc, .slice xa xn xc, .slice ra rn rc]) := Lib.hid (hR7.out.below k0.out hR7.out.lt)
    have O0 := Lib.hid (hO8.out.ext k0.out)
    generalize V7.drew = U0 at *
    have z5_0 : U0.cell? ⟨wr.heap.size, 5, none⟩ = some (.slice ua un uc) := (B0.out.cell 5).trans rfl
    have z6_0 : U0.cell? ⟨wr.heap.size, 6, none⟩ = some (.slice xa xn xc) := (B0.out.cell 6).trans rfl
    have z7_0 : U0.cell? ⟨wr.heap.size, 7, none⟩ = some (.slice ra rn rc) := (B0.out.cell 7).trans rfl
    refine tkz 0 ({ dst := some 22, op := Op.fieldAddr 37 (Operand.tmp 5) 4, type := 0, pos := _, after := #[], guard := none }) ?_ rfl ?_ ?_
    rotate_left
    ·intro w hSw
     go_simp
     first | done | with_reducible rfl
    try simp only [pz0, pz2, pz3, pz4]
    refine tkz 1 ({ dst := some 23, op := Op.fieldAddr 35 (Operand.tmp 22) 1, type := 0, pos := _, after := #[{ on := 0, ground := Ground.data }], guard := none }) ?_ rfl ?_ ?_
    rotate_left
    ·intro w hSw
     go_simp
     first | done | with_reducible rfl
    try simp only [pz0, pz2, pz3, pz4]
    refine tkz 4 ({ dst := some 26, op := Op.fieldAddr 37 (Operand.tmp 5) 4, type := 0, pos := _, after := #[], guard := none }) ?_ rfl ?_ ?_
    rotate_left
    ·intro w hSw
     go_simp
     first | done | with_reducible rfl
    try simp only [pz0, pz2, pz3, pz4]
    refine tkz 5 ({ dst := some 27, op := Op.fieldAddr 35 (Operand.tmp 26) 2, type := 0, pos := _, after := #[{ on := 4, ground := Ground.data }], guard := none }) ?_ rfl ?_ ?_
    rotate_left
    ·intro w hSw
     go_simp
     first | done | with_reducible rfl
    try simp only [pz0, pz2, pz3, pz4]
    refine tkz 8 ({ dst := some 30, op := Op.fieldAddr 37 (Operand.tmp 5) 4, type := 0, pos := _, after := #[], guard := none }) ?_ rfl ?_ ?_
    rotate_left
    ·intro w hSw
     go_simp
     first | done | with_reducible rfl
    try simp only [pz0, pz2, pz3, pz4]
    refine tkz 9 ({ dst := some 31, op := Op.fieldAddr 35 (Operand.tmp 30) 3, type := 0, pos := _, after := #[{ on := 8, ground := Ground.data }], guard := none }) ?_ rfl ?_ ?_
    rotate_left
    ·intro w hSw
     go_simp
     first | done | with_reducible rfl
    try simp only [pz0, pz2, pz3, pz4]
    refine wpAnyH_ready (rs := [2, 6, 10]) (by kernel_rfl) (by simp) ?_
    refine arz (qClS0 _) rfl (fun K hK => ?_) ?_
    ·unfold qClS0
     go_simp
     refine hK.out _ _ trivial (fun hHeld => ?_)
     clear hK K
     try simp only [pz0, pz2, pz3, pz4]
     refine wpAnyH_ready (rs := [3, 6, 10]) (by kernel_rfl) (by simp) ?_
     refine arz (qClS1 _) rfl (fun K hK => ?_) ?_
     ·unfold qClS1
      refine step_call (by rfl) (.tmp 24) 32 (by rfl) (by rfl) enter68 ?_
      refine (clone_u32 (hqU.out.ext k0.out) hun.out).mono ?_
      rintro e G1 ⟨⟨aU, cU, rfl, hw⟩, m1⟩
      have k1 := Lib.hid (k0.out.trans (m1.mono k0.out.size))
      have B1 := Lib.hid (B0.out.below m1 B0.out.lt)
      have O1 := Lib.hid (O0.out.ext m1)
      have U1 := Lib.hid (hw.mono (Nat.le_trans hk7.out.size k0.out.size))
      have z5_1 : G1.cell? ⟨wr.heap.size, 5, none⟩ = some (.slice ua un uc) := (B1.out.cell 5).trans rfl
      have z6_1 : G1.cell? ⟨wr.heap.size, 6, none⟩ = some (.slice xa xn xc) := (B1.out.cell 6).trans rfl
      have z7_1 : G1.cell? ⟨wr.heap.size, 7, none⟩ = some (.slice ra rn rc) := (B1.out.cell 7).trans rfl
      clear hw m1
      refine ⟨_, rfl, ?_⟩
      refine hK.out _ _ trivial (fun hHeld => ?_)
      clear hK K
      try simp only [pz0, pz2, pz3, pz4]
      refine wpAnyH_ready (rs := [6, 10]) (by kernel_rfl) (by simp) ?_
      refine arz (qClS2 _) rfl (fun K hK => ?_) ?_
      ·unfold qClS2
       go_simp
       refine hK.out _ _ trivial (fun hHeld => ?_)
       clear hK K
       try simp only [pz0, pz2, pz3, pz4]
       refine wpAnyH_ready (rs := [7, 10]) (by kernel_rfl) (by simp) ?_
       refine arz (qClS3 _) rfl (fun K hK => ?_) ?_
       ·unfold qClS3
        refine step_call (by rfl) (.tmp 28) 25 (by rfl) (by rfl) enter69 ?_
        refine (clone_strs (hqX.out.ext k1.out) hxn.out).mono ?_
        rintro e G2 ⟨⟨aX, cX, rfl, hw⟩, m2⟩
        have k2 := Lib.hid (k1.out.trans (m2.mono k1.out.size))
        have B2 := Lib.hid (B1.out.below m2 B1.out.lt)
        have O2 := Lib.hid (O1.out.ext m2)
        have X2 := Lib.hid (hw.mono (Nat.le_trans hk7.out.size k1.out.size))
        have U2 := Lib.hid (U1.out.ext m2)
        have z5_2 : G2.cell? ⟨wr.heap.size, 5, none⟩ = some (.slice ua un uc) := (B2.out.cell 5).trans rfl
        have z6_2 : G2.cell? ⟨wr.heap.size, 6, none⟩ = some (.slice xa xn xc) := (B2.out.cell 6).trans rfl
        have z7_2 : G2.cell? ⟨wr.heap.size, 7, none⟩ = some (.slice ra rn rc) := (B2.out.cell 7).trans rfl
        clear hw m2
        refine ⟨_, rfl, ?_⟩
        refine hK.out _ _ trivial (fun hHeld => ?_)
        clear hK K
        try simp only [pz0, pz2, pz3, pz4]
        refine wpAnyH_ready (rs := [10]) (by kernel_rfl) (by simp) ?_
        refine arz (qClS4 _) rfl (fun K hK => ?_) AllReadyH.nil
        unfold qClS4
        go_simp
        refine hK.out _ _ trivial (fun hHeld => ?_)
        clear hK K
        try simp only [pz0, pz2, pz3, pz4]
        refine wpAnyH_ready (rs := [11]) (by kernel_rfl) (by simp) ?_
        refine arz (qClS5 _) rfl (fun K hK => ?_) AllReadyH.nil
        unfold qClS5
        refine step_call (by rfl) (.tmp 32) 33 (by rfl) (by rfl) enter70 ?_
        refine (clone_bytes (hqR.out.ext k2.out) hrn.out).mono ?_
        rintro e G3 ⟨⟨aR, cR, rfl, hw⟩, m3⟩
        have k3 := Lib.hid (k2.out.trans (m3.mono k2.out.size))
        have B3 := Lib.hid (B2.out.below m3 B2.out.lt)
        have O3 := Lib.hid (O2.out.ext m3)
        have R3 := Lib.hid (hw.mono (Nat.le_trans hk7.out.size k2.out.size))
        have U3 := Lib.hid (U2.out.ext m3)
        have X3 := Lib.hid (X2.out.ext m3)
        have z4_3 : G3.cell? ⟨wr.heap.size, 4, none⟩ = some (.slice ma mn mc) := (B3.out.cell 4).trans rfl
        have z5_3 : G3.cell? ⟨wr.heap.size, 5, none⟩ = some (.slice ua un uc) := (B3.out.cell 5).trans rfl
        have z6_3 : G3.cell? ⟨wr.heap.size, 6, none⟩ = some (.slice xa xn xc) := (B3.out.cell 6).trans rfl
        have z7_3 : G3.cell? ⟨wr.heap.size, 7, none⟩ = some (.slice ra rn rc) := (B3.out.cell 7).trans rfl
        have f4_3 : G3.frozen? ⟨wr.heap.size, 4, none⟩ = false := by rw [B3.out.frozen]; try simp
        have f5_3 : G3.frozen? ⟨wr.heap.size, 5, none⟩ = false := by rw [B3.out.frozen]; try simp
        have f6_3 : G3.frozen? ⟨wr.heap.size, 6, none⟩ = false := by rw [B3.out.frozen]; try simp
        have f7_3 : G3.frozen? ⟨wr.heap.size, 7, none⟩ = false := by rw [B3.out.frozen]; try simp
        clear hw m3
        refine ⟨_, rfl, ?_⟩
        refine hK.out _ _ trivial (fun hHeld => ?_)
        clear hK K
        try simp only [pz0, pz2, pz3, pz4]
        refine tkz 12 (qClS6 _) ?_ rfl ?_ ?_
        rotate_left
        ·intro w hSw
         unfold qClS6
         go_simp
         first | done | with_reducible rfl
        try simp only [qClS6, pz0, pz2, pz3, pz4]
        refine tkz 13 (qClS7 _) ?_ rfl ?_ ?_
        rotate_left
        ·intro w hSw
         unfold qClS7
         go_simp
         first | done | with_reducible rfl
        try simp only [qClS7, pz0, pz2, pz3, pz4]
        refine wpAnyH_ready (rs := [14]) (by kernel_rfl) (by simp) ?_
        refine arz (qClS8 _) rfl (fun K hK => ?_) AllReadyH.nil
        unfold qClS8
        go_simp
        obtain ⟨Y, hV⟩ : ∃ V, (((G3.setCell ⟨wr.heap.size, 4, none⟩ (.slice none 0 0)).setCell ⟨wr.heap.size, 5, none⟩ (.slice aU un cU)).setCell ⟨wr.heap.size, 6, none⟩ (.slice aX xn cX)).setCell ⟨wr.heap.size, 7, none⟩ (.slice aR rn cR) = V := ⟨_, rfl⟩
        rw [hV]
        have hgV : G3.grownBy Y (some wr.heap.size) := by rw [← hV]; exact grown_trans (grown_trans (grown_trans (grown_set _ _ _ _) (grown_set _ _ _ _)) (grown_set _ _ _ _)) (grown_set _ _ _ _)
        have yB : Hid (Blk Y wr.heap.size 37 (0, 0) [.slice aO on cO, .int .u16 ty, .int .u16 cl, .int .u32 ttl, .slice none 0 0, .slice aU un cU, .slice aX xn cX, .slice aR rn cR]) := Lib.hid (by rw [← hV]; exact (((B3.out.set 4 _).set 5 _).set 6 _).set 7 _)
        have yO := Lib.hid (own_store O3.out B3.out (by decide) hgV)
        have yU := Lib.hid (own_store U3.out B3.out (by decide) hgV)
        have yX := Lib.hid (own_store X3.out B3.out (by decide) hgV)
        have yR := Lib.hid (own_store R3.out B3.out (by decide) hgV)
        have yb : Hid (Below wr.heap.size wr Y) := Lib.hid ((hk7.out.trans (k3.out.mono hk7.out.size)).grown hgV (Nat.le_trans hk7.out.size k3.out.size) (fun j hj => by cases hj; exact Nat.le_refl _))
        clear hV hgV
        refine hK.out _ _ trivial (fun hHeld => ?_)
        clear hK K
        refine wpAnyH_done (by kernel_rfl) ?_ _
        refine NoPanic.normal ?_
        go_wp2_with fail
        go_meet
        exact ⟨_, _, _, _, _, _, rfl, yB, yO, yU, yX, yR, yb⟩
       refine arz (qClS4 _) rfl (fun K hK => ?_) AllReadyH.nil
       unfold qClS4
       go_simp
       refine hK.out _ _ trivial (fun hHeld => ?_)
       clear hK K
       try simp only [pz0, pz2, pz3, pz4]
       refine wpAnyH_ready (rs := [7]) (by kernel_rfl) (by simp) ?_
       refine arz (qClS3 _) rfl (fun K hK => ?_) AllReadyH.nil
       unfold qClS3
       refine step_call (by rfl) (.tmp 28) 25 (by rfl) (by rfl) enter69 ?_
       refine (clone_strs (hqX.out.ext k1.out) hxn.out).mono ?_
       rintro e G4 ⟨⟨aX, cX, rfl, hw⟩, m4⟩
       have k4 := Lib.hid (k1.out.trans (m4.mono k1.out.size))
       have B4 := Lib.hid (B1.out.below m4 B1.out.lt)
       have O4 := Lib.hid (O1.out.ext m4)
       have X4 := Lib.hid (hw.mono (Nat.le_trans hk7.out.size k1.out.size))
       have U4 := Lib.hid (U1.out.ext m4)
       have z5_4 : G4.cell? ⟨wr.heap.size, 5, none⟩ = some (.slice ua un uc) := (B4.out.cell 5).trans rfl
       have z6_4 : G4.cell? ⟨wr.heap.size, 6, none⟩ = some (.slice xa xn xc) := (B4.out.cell 6).trans rfl
       have z7_4 : G4.cell? ⟨wr.heap.size, 7, none⟩ = some (.slice ra rn rc) := (B4.out.cell 7).trans rfl
       clear hw m4
       refine ⟨_, rfl, ?_⟩
       refine hK.out _ _ trivial (fun hHeld => ?_)
       clear hK K
       try simp only [pz0, pz2, pz3, pz4]
       refine wpAnyH_ready (rs := [11]) (by kernel_rfl) (by simp) ?_
       refine arz (qClS5 _) rfl (fun K hK => ?_) AllReadyH.nil
       unfold qClS5
       refine step_call (by rfl) (.tmp 32) 33 (by rfl) (by rfl) enter70 ?_
       refine (clone_bytes (hqR.out.ext k4.out) hrn.out).mono ?_
       rintro e G5 ⟨⟨aR, cR, rfl, hw⟩, m5⟩
       have k5 := Lib.hid (k4.out.trans (m5.mono k4.out.size))
       have B5 := Lib.hid (B4.out.below m5 B4.out.lt)
       have O5 := Lib.hid (O4.out.ext m5)
       have R5 := Lib.hid (hw.mono (Nat.le_trans hk7.out.size k4.out.size))
       have U5 := Lib.hid (U4.out.ext m5)
       have X5 := Lib.hid (X4.out.ext m5)
       have z4_5 : G5.cell? ⟨wr.heap.size, 4, none⟩ = some (.slice ma mn mc) := (B5.out.cell 4).trans rfl
       have z5_5 : G5.cell? ⟨wr.heap.size, 5, none⟩ = some (.slice ua un uc) := (B5.out.cell 5).trans rfl
       have z6_5 : G5.cell? ⟨wr.heap.size, 6, none⟩ = some (.slice xa xn xc) := (B5.out.cell 6).trans rfl
       have z7_5 : G5.cell? ⟨wr.heap.size, 7, none⟩ = some (.slice ra rn rc) := (B5.out.cell 7).trans rfl
       have f4_5 : G5.frozen? ⟨wr.heap.size, 4, none⟩ = false := by rw [B5.out.frozen]; try simp
       have f5_5 : G5.frozen? ⟨wr.heap.size, 5, none⟩ = false := by rw [B5.out.frozen]; try simp
       have f6_5 : G5.frozen? ⟨wr.heap.size, 6, none⟩ = false := by rw [B5.out.frozen]; try simp
       have f7_5 : G5.frozen? ⟨wr.heap.size, 7, none⟩ = false := by rw [B5.out.frozen]; try simp
       clear hw m5
       refine ⟨_, rfl, ?_⟩
       refine hK.out _ _ trivial (fun hHeld => ?_)
       clear hK K
       try simp only [pz0, pz2, pz3, pz4]
       refine tkz 12 (qClS6 _) ?_ rfl ?_ ?_
       rotate_left
       ·intro w hSw
        unfold qClS6
        go_simp
        first | done | with_reducible rfl
       try simp only [qClS6, pz0, pz2, pz3, pz4]
       refine tkz 13 (qClS7 _) ?_ rfl ?_ ?_
       rotate_left
       ·intro w hSw
        unfold qClS7
        go_simp
        first | done | with_reducible rfl
       try simp only [qClS7, pz0, pz2, pz3, pz4]
       refine wpAnyH_ready (rs := [14]) (by kernel_rfl) (by simp) ?_
       refine arz (qClS8 _) rfl (fun K hK => ?_) AllReadyH.nil
       unfold qClS8
       go_simp
       obtain ⟨Y, hV⟩ : ∃ V, (((G5.setCell ⟨wr.heap.size, 4, none⟩ (.slice none 0 0)).setCell ⟨wr.heap.size, 5, none⟩ (.slice aU un cU)).setCell ⟨wr.heap.size, 6, none⟩ (.slice aX xn cX)).setCell ⟨wr.heap.size, 7, none⟩ (.slice aR rn cR) = V := ⟨_, rfl⟩
       rw [hV]
       have hgV : G5.grownBy Y (some wr.heap.size) := by rw [← hV]; exact grown_trans (grown_trans (grown_trans (grown_set _ _ _ _) (grown_set _ _ _ _)) (grown_set _ _ _ _)) (grown_set _ _ _ _)
       have yB : Hid (Blk Y wr.heap.size 37 (0, 0) [.slice aO on cO, .int .u16 ty, .int .u16 cl, .int .u32 ttl, .slice none 0 0, .slice aU un cU, .slice aX xn cX, .slice aR rn cR]) := Lib.hid (by rw [← hV]; exact (((B5.out.set 4 _).set 5 _).set 6 _).set 7 _)
       have yO := Lib.hid (own_store O5.out B5.out (by decide) hgV)
       have yU := Lib.hid (own_store U5.out B5.out (by decide) hgV)
       have yX := Lib.hid (own_store X5.out B5.out (by decide) hgV)
       have yR := Lib.hid (own_store R5.out B5.out (by decide) hgV)
       have yb : Hid (Below wr.heap.size wr Y) := Lib.hid ((hk7.out.trans (k5.out.mono hk7.out.size)).grown hgV (Nat.le_trans hk7.out.size k5.out.size) (fun j hj => by cases hj; exact Nat.le_refl _))
       clear hV hgV
       refine hK.out _ _ trivial (fun hHeld => ?_)
       clear hK K
       refine wpAnyH_done (by kernel_rfl) ?_ _
       refine NoPanic.normal ?_
       go_wp2_with fail
       go_meet
       exact ⟨_, _, _, _, _, _, rfl, yB, yO, yU, yX, yR, yb⟩
      refine arz (qClS4 _) rfl (fun K hK => ?_) AllReadyH.nil
      unfold qClS4
      go_simp
      refine hK.out _ _ trivial (fun hHeld => ?_)
      clear hK K
      try simp only [pz0, pz2, pz3, pz4]
      refine wpAnyH_ready (rs := [6]) (by kernel_rfl) (by simp) ?_
      refine arz (qClS2 _) rfl (fun K hK => ?_) AllReadyH.nil
      unfold qClS2
      go_simp
      refine hK.out _ _ trivial (fun hHeld => ?_)
      clear hK K
      try simp only [pz0, pz2, pz3, pz4]
      refine wpAnyH_ready (rs := [7]) (by kernel_rfl) (by simp) ?_
      refine arz (qClS3 _) rfl (fun K hK => ?_) AllReadyH.nil
      unfold qClS3
      refine step_call (by rfl) (.tmp 28) 25 (by rfl) (by rfl) enter69 ?_
      refine (clone_strs (hqX.out.ext k1.out) hxn.out).mono ?_
      rintro e G6 ⟨⟨aX, cX, rfl, hw⟩, m6⟩
      have k6 := Lib.hid (k1.out.trans (m6.mono k1.out.size))
      have B6 := Lib.hid (B1.out.below m6 B1.out.lt)
      have O6 := Lib.hid (O1.out.ext m6)
      have X6 := Lib.hid (hw.mono (Nat.le_trans hk7.out.size k1.out.size))
      have U6 := Lib.hid (U1.out.ext m6)
      have z5_6 : G6.cell? ⟨wr.heap.size, 5, none⟩ = some (.slice ua un uc) := (B6.out.cell 5).trans rfl
      have z6_6 : G6.cell? ⟨wr.heap.size, 6, none⟩ = some (.slice xa xn xc) := (B6.out.cell 6).trans rfl
      have z7_6 : G6.cell? ⟨wr.heap.size, 7, none⟩ = some (.slice ra rn rc) := (B6.out.cell 7).trans rfl
      clear hw m6
      refine ⟨_, rfl, ?_⟩
      refine hK.out _ _ trivial (fun hHeld => ?_)
      clear hK K
      try simp only [pz0, pz2, pz3, pz4]
      refine wpAnyH_ready (rs := [11]) (by kernel_rfl) (by simp) ?_
      refine arz (qClS5 _) rfl (fun K hK => ?_) AllReadyH.nil
      unfold qClS5
      refine step_call (by rfl) (.tmp 32) 33 (by rfl) (by rfl) enter70 ?_
      refine (clone_bytes (hqR.out.ext k6.out) hrn.out).mono ?_
      rintro e G7 ⟨⟨aR, cR, rfl, hw⟩, m7⟩
      have k7 := Lib.hid (k6.out.trans (m7.mono k6.out.size))
      have B7 := Lib.hid (B6.out.below m7 B6.out.lt)
      have O7 := Lib.hid (O6.out.ext m7)
      have R7 := Lib.hid (hw.mono (Nat.le_trans hk7.out.size k6.out.size))
      have U7 := Lib.hid (U6.out.ext m7)
      have X7 := Lib.hid (X6.out.ext m7)
      have z4_7 : G7.cell? ⟨wr.heap.size, 4, none⟩ = some (.slice ma mn mc) := (B7.out.cell 4).trans rfl
      have z5_7 : G7.cell? ⟨wr.heap.size, 5, none⟩ = some (.slice ua un uc) := (B7.out.cell 5).trans rfl
      have z6_7 : G7.cell? ⟨wr.heap.size, 6, none⟩ = some (.slice xa xn xc) := (B7.out.cell 6).trans rfl
      have z7_7 : G7.cell? ⟨wr.heap.size, 7, none⟩ = some (.slice ra rn rc) := (B7.out.cell 7).trans rfl
      have f4_7 : G7.frozen? ⟨wr.heap.size, 4, none⟩ = false := by rw [B7.out.frozen]; try simp
      have f5_7 : G7.frozen? ⟨wr.heap.size, 5, none⟩ = false := by rw [B7.out.frozen]; try simp
      have f6_7 : G7.frozen? ⟨wr.heap.size, 6, none⟩ = false := by rw [B7.out.frozen]; try simp
      have f7_7 : G7.frozen? ⟨wr.heap.size, 7, none⟩ = false := by rw [B7.out.frozen]; try simp
      clear hw m7
      refine ⟨_, rfl, ?_⟩
      refine hK.out _ _ trivial (fun hHeld => ?_)
      clear hK K
      try simp only [pz0, pz2, pz3, pz4]
      refine tkz 12 (qClS6 _) ?_ rfl ?_ ?_
      rotate_left
      ·intro w hSw
       unfold qClS6
       go_simp
       first | done | with_reducible rfl
      try simp only [qClS6, pz0, pz2, pz3, pz4]
      refine tkz 13 (qClS7 _) ?_ rfl ?_ ?_
      rotate_left
      ·intro w hSw
       unfold qClS7
       go_simp
       first | done | with_reducible rfl
      try simp only [qClS7, pz0, pz2, pz3, pz4]
      refine wpAnyH_ready (rs := [14]) (by kernel_rfl) (by simp) ?_
      refine arz (qClS8 _) rfl (fun K hK => ?_) AllReadyH.nil
      unfold qClS8
      go_simp
      obtain ⟨Y, hV⟩ : ∃ V, (((G7.setCell ⟨wr.heap.size, 4, none⟩ (.slice none 0 0)).setCell ⟨wr.heap.size, 5, none⟩ (.slice aU un cU)).setCell ⟨wr.heap.size, 6, none⟩ (.slice aX xn cX)).setCell ⟨wr.heap.size, 7, none⟩ (.slice aR rn cR) = V := ⟨_, rfl⟩
      rw [hV]
      have hgV : G7.grownBy Y (some wr.heap.size) := by rw [← hV]; exact grown_trans (grown_trans (grown_trans (grown_set _ _ _ _) (grown_set _ _ _ _)) (grown_set _ _ _ _)) (grown_set _ _ _ _)
      have yB : Hid (Blk Y wr.heap.size 37 (0, 0) [.slice aO on cO, .int .u16 ty, .int .u16 cl, .int .u32 ttl, .slice none 0 0, .slice aU un cU, .slice aX xn cX, .slice aR rn cR]) := Lib.hid (by rw [← hV]; exact (((B7.out.set 4 _).set 5 _).set 6 _).set 7 _)
      have yO := Lib.hid (own_store O7.out B7.out (by decide) hgV)
      have yU := Lib.hid (own_store U7.out B7.out (by decide) hgV)
      have yX := Lib.hid (own_store X7.out B7.out (by decide) hgV)
      have yR := Lib.hid (own_store R7.out B7.out (by decide) hgV)
      have yb : Hid (Below wr.heap.size wr Y) := Lib.hid ((hk7.out.trans (k7.out.mono hk7.out.size)).grown hgV (Nat.le_trans hk7.out.size k7.out.size) (fun j hj => by cases hj; exact Nat.le_refl _))
      clear hV hgV
      refine hK.out _ _ trivial (fun hHeld => ?_)
      clear hK K
      refine wpAnyH_done (by kernel_rfl) ?_ _
      refine NoPanic.normal ?_
      go_wp2_with fail
      go_meet
      exact ⟨_, _, _, _, _, _, rfl, yB, yO, yU, yX, yR, yb⟩
     refine arz (qClS2 _) rfl (fun K hK => ?_) ?_
     ·unfold qClS2
      go_simp
      refine hK.out _ _ trivial (fun hHeld => ?_)
      clear hK K
      try simp only [pz0, pz2, pz3, pz4]
      refine wpAnyH_ready (rs := [3, 10]) (by kernel_rfl) (by simp) ?_
      refine arz (qClS1 _) rfl (fun K hK => ?_) ?_
      ·unfold qClS1
       refine step_call (by rfl) (.tmp 24) 32 (by rfl) (by rfl) enter68 ?_
       refine (clone_u32 (hqU.out.ext k0.out) hun.out).mono ?_
       rintro e G8 ⟨⟨aU, cU, rfl, hw⟩, m8⟩
       have k8 := Lib.hid (k0.out.trans (m8.mono k0.out.size))
       have B8 := Lib.hid (B0.out.below m8 B0.out.lt)
       have O8 := Lib.hid (O0.out.ext m8)
       have U8 := Lib.hid (hw.mono (Nat.le_trans hk7.out.size k0.out.size))
       have z5_8 : G8.cell? ⟨wr.heap.size, 5, none⟩ = some (.slice ua un uc) := (B8.out.cell 5).trans rfl
       have z6_8 : G8.cell? ⟨wr.heap.size, 6, none⟩ = some (.slice xa xn xc) := (B8.out.cell 6).trans rfl
       have z7_8 : G8.cell? ⟨wr.heap.size, 7, none⟩ = some (.slice ra rn rc) := (B8.out.cell 7).trans rfl
       clear hw m8
       refine ⟨_, rfl, ?_⟩
       refine hK.out _ _ trivial (fun hHeld => ?_)
       clear hK K
       try simp only [pz0, pz2, pz3, pz4]
       refine wpAnyH_ready (rs := [7, 10]) (by kernel_rfl) (by simp) ?_
       refine arz (qClS3 _) rfl (fun K hK => ?_) ?_
       ·unfold qClS3
        refine step_call (by rfl) (.tmp 28) 25 (by rfl) (by rfl) enter69 ?_
        refine (clone_strs (hqX.out.ext k8.out) hxn.out).mono ?_
        rintro e G9 ⟨⟨aX, cX, rfl, hw⟩, m9⟩
        have k9 := Lib.hid (k8.out.trans (m9.mono k8.out.size))
        have B9 := Lib.hid (B8.out.below m9 B8.out.lt)
        have O9 := Lib.hid (O8.out.ext m9)
        have X9 := Lib.hid (hw.mono (Nat.le_trans hk7.out.size k8.out.size))
        have U9 := Lib.hid (U8.out.ext m9)
        have z5_9 : G9.cell? ⟨wr.heap.size, 5, none⟩ = some (.slice ua un uc) := (B9.out.cell 5).trans rfl
        have z6_9 : G9.cell? ⟨wr.heap.size, 6, none⟩ = some (.slice xa xn xc) := (B9.out.cell 6).trans rfl
        have z7_9 : G9.cell? ⟨wr.heap.size, 7, none⟩ = some (.slice ra rn rc) := (B9.out.cell 7).trans rfl
        clear hw m9
        refine ⟨_, rfl, ?_⟩
        refine hK.out _ _ trivial (fun hHeld => ?_)
        clear hK K
        try simp only [pz0, pz2, pz3, pz4]
        refine wpAnyH_ready (rs := [10]) (by kernel_rfl) (by simp) ?_
        refine arz (qClS4 _) rfl (fun K hK => ?_) AllReadyH.nil
        unfold qClS4
        go_simp
        refine hK.out _ _ trivial (fun hHeld => ?_)
        clear hK K
        try simp only [pz0, pz2, pz3, pz4]
        refine wpAnyH_ready (rs := [11]) (by kernel_rfl) (by simp) ?_
        refine arz (qClS5 _) rfl (fun K hK => ?_) AllReadyH.nil
        unfold qClS5
        refine step_call (by rfl) (.tmp 32) 33 (by rfl) (by rfl) enter70 ?_
        refine (clone_bytes (hqR.out.ext k9.out) hrn.out).mono ?_
        rintro e G10 ⟨⟨aR, cR, rfl, hw⟩, m10⟩
        have k10 := Lib.hid (k9.out.trans (m10.mono k9.out.size))
        have B10 := Lib.hid (B9.out.below m10 B9.out.lt)
        have O10 := Lib.hid (O9.out.ext m10)
        have R10 := Lib.hid (hw.mono (Nat.le_trans hk7.out.size k9.out.size))
        have U10 := Lib.hid (U9.out.ext m10)
        have X10 := Lib.hid (X9.out.ext m10)
        have z4_10 : G10.cell? ⟨wr.heap.size, 4, none⟩ = some (.slice ma mn mc) := (B10.out.cell 4).trans rfl
        have z5_10 : G10.cell? ⟨wr.heap.size, 5, none⟩ = some (.slice ua un uc) := (B10.out.cell 5).trans rfl
        have z6_10 : G10.cell? ⟨wr.heap.size, 6, none⟩ = some (.slice xa xn xc) := (B10.out.cell 6).trans rfl
        have z7_10 : G10.cell? ⟨wr.heap.size, 7, none⟩ = some (.slice ra rn rc) := (B10.out.cell 7).trans rfl
        have f4_10 : G10.frozen? ⟨wr.heap.size, 4, none⟩ = false := by rw [B10.out.frozen]; try simp
        have f5_10 : G10.frozen? ⟨wr.heap.size, 5, none⟩ = false := by rw [B10.out.frozen]; try simp
        have f6_10 : G10.frozen? ⟨wr.heap.size, 6, none⟩ = false := by rw [B10.out.frozen]; try simp
        have f7_10 : G10.frozen? ⟨wr.heap.size, 7, none⟩ = false := by rw [B10.out.frozen]; try simp
        clear hw m10
        refine ⟨_, rfl, ?_⟩
        refine hK.out _ _ trivial (fun hHeld => ?_)
        clear hK K
        try simp only [pz0, pz2, pz3, pz4]
        refine tkz 12 (qClS6 _) ?_ rfl ?_ ?_
        rotate_left
        ·intro w hSw
         unfold qClS6
         go_simp
         first | done | with_reducible rfl
        try simp only [qClS6, pz0, pz2, pz3, pz4]
        refine tkz 13 (qClS7 _) ?_ rfl ?_ ?_
        rotate_left
        ·intro w hSw
         unfold qClS7
         go_simp
         first | done | with_reducible rfl
        try simp only [qClS7, pz0, pz2, pz3, pz4]
        refine wpAnyH_ready (rs := [14]) (by kernel_rfl) (by simp) ?_
        refine arz (qClS8 _) rfl (fun K hK => ?_) AllReadyH.nil
        unfold qClS8
        go_simp
        obtain ⟨Y, hV⟩ : ∃ V, (((G10.setCell ⟨wr.heap.size, 4, none⟩ (.slice none 0 0)).setCell ⟨wr.heap.size, 5, none⟩ (.slice aU un cU)).setCell ⟨wr.heap.size, 6, none⟩ (.slice aX xn cX)).setCell ⟨wr.heap.size, 7, none⟩ (.slice aR rn cR) = V := ⟨_, rfl⟩
        rw [hV]
        have hgV : G10.grownBy Y (some wr.heap.size) := by rw [← hV]; exact grown_trans (grown_trans (grown_trans (grown_set _ _ _ _) (grown_set _ _ _ _)) (grown_set _ _ _ _)) (grown_set _ _ _ _)
        have yB : Hid (Blk Y wr.heap.size 37 (0, 0) [.slice aO on cO, .int .u16 ty, .int .u16 cl, .int .u32 ttl, .slice none 0 0, .slice aU un cU, .slice aX xn cX, .slice aR rn cR]) := Lib.hid (by rw [← hV]; exact (((B10.out.set 4 _).set 5 _).set 6 _).set 7 _)
        have yO := Lib.hid (own_store O10.out B10.out (by decide) hgV)
        have yU := Lib.hid (own_store U10.out B10.out (by decide) hgV)
        have yX := Lib.hid (own_store X10.out B10.out (by decide) hgV)
        have yR := Lib.hid (own_store R10.out B10.out (by decide) hgV)
        have yb : Hid (Below wr.heap.size wr Y) := Lib.hid ((hk7.out.trans (k10.out.mono hk7.out.size)).grown hgV (Nat.le_trans hk7.out.size k10.out.size) (fun j hj => by cases hj; exact Nat.le_refl _))
        clear hV hgV
        refine hK.out _ _ trivial (fun hHeld => ?_)
        clear hK K
        refine wpAnyH_done (by kernel_rfl) ?_ _
        refine NoPanic.normal ?_
        go_wp2_with fail
        go_meet
        exact ⟨_, _, _, _, _, _, rfl, yB, yO, yU, yX, yR, yb⟩
       refine arz (qClS4 _) rfl (fun K hK => ?_) AllReadyH.nil
       unfold qClS4
       go_simp
       refine hK.out _ _ trivial (fun hHeld => ?_)
       clear hK K
       try simp only [pz0, pz2, pz3, pz4]
       refine wpAnyH_ready (rs := [7]) (by kernel_rfl) (by simp) ?_
       refine arz (qClS3 _) rfl (fun K hK => ?_) AllReadyH.nil
       unfold qClS3
       refine step_call (by rfl) (.tmp 28) 25 (by rfl) (by rfl) enter69 ?_
       refine (clone_strs (hqX.out.ext k8.out) hxn.out).mono ?_
       rintro e G11 ⟨⟨aX, cX, rfl, hw⟩, m11⟩
       have k11 := Lib.hid (k8.out.trans (m11.mono k8.out.size))
       have B11 := Lib.hid (B8.out.below m11 B8.out.lt)
       have O11 := Lib.hid (O8.out.ext m11)
       have X11 := Lib.hid (hw.mono (Nat.le_trans hk7.out.size k8.out.size))
       have U11 := Lib.hid (U8.out.ext m11)
       have z5_11 : G11.cell? ⟨wr.heap.size, 5, none⟩ = some (.slice ua un uc) := (B11.out.cell 5).trans rfl
       have z6_11 : G11.cell? ⟨wr.heap.size, 6, none⟩ = some (.slice xa xn xc) := (B11.out.cell 6).trans rfl
       have z7_11 : G11.cell? ⟨wr.heap.size, 7, none⟩ = some (.slice ra rn rc) := (B11.out.cell 7).trans rfl
       clear hw m11
       refine ⟨_, rfl, ?_⟩
       refine hK.out _ _ trivial (fun hHeld => ?_)
       clear hK K
       try simp only [pz0, pz2, pz3, pz4]
       refine wpAnyH_ready (rs := [11]) (by kernel_rfl) (by simp) ?_
       refine arz (qClS5 _) rfl (fun K hK => ?_) AllReadyH.nil
       unfold qClS5
       refine step_call (by rfl) (.tmp 32) 33 (by rfl) (by rfl) enter70 ?_
       refine (clone_bytes (hqR.out.ext k11.out) hrn.out).mono ?_
       rintro e G12 ⟨⟨aR, cR, rfl, hw⟩, m12⟩
       have k12 := Lib.hid (k11.out.trans (m12.mono k11.out.size))
       have B12 := Lib.hid (B11.out.below m12 B11.out.lt)
       have O12 := Lib.hid (O11.out.ext m12)
       have R12 := Lib.hid (hw.mono (Nat.le_trans hk7.out.size k11.out.size))
       have U12 := Lib.hid (U11.out.ext m12)
       have X12 := Lib.hid (X11.out.ext m12)
       have z4_12 : G12.cell? ⟨wr.heap.size, 4, none⟩ = some (.slice ma mn mc) := (B12.out.cell 4).trans rfl
       have z5_12 : G12.cell? ⟨wr.heap.size, 5, none⟩ = some (.slice ua un uc) := (B12.out.cell 5).trans rfl
       have z6_12 : G12.cell? ⟨wr.heap.size, 6, none⟩ = some (.slice xa xn xc) := (B12.out.cell 6).trans rfl
       have z7_12 : G12.cell? ⟨wr.heap.size, 7, none⟩ = some (.slice ra rn rc) := (B12.out.cell 7).trans rfl
       have f4_12 : G12.frozen? ⟨wr.heap.size, 4, none⟩ = false := by rw [B12.out.frozen]; try simp
       have f5_12 : G12.frozen? ⟨wr.heap.size, 5, none⟩ = false := by rw [B12.out.frozen]; try simp
       have f6_12 : G12.frozen? ⟨wr.heap.size, 6, none⟩ = false := by rw [B12.out.frozen]; try simp
       have f7_12 : G12.frozen? ⟨wr.heap.size, 7, none⟩ = false := by rw [B12.out.frozen]; try simp
       clear hw m12
       refine ⟨_, rfl, ?_⟩
       refine hK.out _ _ trivial (fun hHeld => ?_)
       clear hK K
       try simp only [pz0, pz2, pz3, pz4]
       refine tkz 12 (qClS6 _) ?_ rfl ?_ ?_
       rotate_left
       ·intro w hSw
        unfold qClS6
        go_simp
        first | done | with_reducible rfl
       try simp only [qClS6, pz0, pz2, pz3, pz4]
       refine tkz 13 (qClS7 _) ?_ rfl ?_ ?_
       rotate_left
       ·intro w hSw
        unfold qClS7
        go_simp
        first | done | with_reducible rfl
       try simp only [qClS7, pz0, pz2, pz3, pz4]
       refine wpAnyH_ready (rs := [14]) (by kernel_rfl) (by simp) ?_
       refine arz (qClS8 _) rfl (fun K hK => ?_) AllReadyH.nil
       unfold qClS8
       go_simp
       obtain ⟨Y, hV⟩ : ∃ V, (((G12.setCell ⟨wr.heap.size, 4, none⟩ (.slice none 0 0)).setCell ⟨wr.heap.size, 5, none⟩ (.slice aU un cU)).setCell ⟨wr.heap.size, 6, none⟩ (.slice aX xn cX)).setCell ⟨wr.heap.size, 7, none⟩ (.slice aR rn cR) = V := ⟨_, rfl⟩
       rw [hV]
       have hgV : G12.grownBy Y (some wr.heap.size) := by rw [← hV]; exact grown_trans (grown_trans (grown_trans (grown_set _ _ _ _) (grown_set _ _ _ _)) (grown_set _ _ _ _)) (grown_set _ _ _ _)
       have yB : Hid (Blk Y wr.heap.size 37 (0, 0) [.slice aO on cO, .int .u16 ty, .int .u16 cl, .int .u32 ttl, .slice none 0 0, .slice aU un cU, .slice aX xn cX, .slice aR rn cR]) := Lib.hid (by rw [← hV]; exact (((B12.out.set 4 _).set 5 _).set 6 _).set 7 _)
       have yO := Lib.hid (own_store O12.out B12.out (by decide) hgV)
       have yU := Lib.hid (own_store U12.out B12.out (by decide) hgV)
       have yX := Lib.hid (own_store X12.out B12.out (by decide) hgV)
       have yR := Lib.hid (own_store R12.out B12.out (by decide) hgV)
       have yb : Hid (Below wr.heap.size wr Y) := Lib.hid ((hk7.out.trans (k12.out.mono hk7.out.size)).grown hgV (Nat.le_trans hk7.out.size k12.out.size) (fun j hj => by cases hj; exact Nat.le_refl _))
       clear hV hgV
       refine hK.out _ _ trivial (fun hHeld => ?_)
       clear hK K
       refine wpAnyH_done (by kernel_rfl) ?_ _
       refine NoPanic.normal ?_
       go_wp2_with fail
       go_meet
       exact ⟨_, _, _, _, _, _, rfl, yB, yO, yU, yX, yR, yb⟩
      refine arz (qClS4 _) rfl (fun K hK => ?_) AllReadyH.nil
      unfold qClS4
      go_simp
      refine hK.out _ _ trivial (fun hHeld => ?_)
      clear hK K
      try simp only [pz0, pz2, pz3, pz4]
      refine wpAnyH_ready (rs := [3]) (by kernel_rfl) (by simp) ?_
      refine arz (qClS1 _) rfl (fun K hK => ?_) AllReadyH.nil
      unfold qClS1
      refine step_call (by rfl) (.tmp 24) 32 (by rfl) (by rfl) enter68 ?_
      refine (clone_u32 (hqU.out.ext k0.out) hun.out).mono ?_
      rintro e G13 ⟨⟨aU, cU, rfl, hw⟩, m13⟩
      have k13 := Lib.hid (k0.out.trans (m13.mono k0.out.size))
      have B13 := Lib.hid (B0.out.below m13 B0.out.lt)
      have O13 := Lib.hid (O0.out.ext m13)
      have U13 := Lib.hid (hw.mono (Nat.le_trans hk7.out.size k0.out.size))
      have z5_13 : G13.cell? ⟨wr.heap.size, 5, none⟩ = some (.slice ua un uc) := (B13.out.cell 5).trans rfl
      have z6_13 : G13.cell? ⟨wr.heap.size, 6, none⟩ = some (.slice xa xn xc) := (B13.out.cell 6).trans rfl
      have z7_13 : G13.cell? ⟨wr.heap.size, 7, none⟩ = some (.slice ra rn rc) := (B13.out.cell 7).trans rfl
      clear hw m13
      refine ⟨_, rfl, ?_⟩
      refine hK.out _ _ trivial (fun hHeld => ?_)
      clear hK K
      try simp only [pz0, pz2, pz3, pz4]
      refine wpAnyH_ready (rs := [7]) (by kernel_rfl) (by simp) ?_
      refine arz (qClS3 _) rfl (fun K hK => ?_) AllReadyH.nil
      unfold qClS3
      refine step_call (by rfl) (.tmp 28) 25 (by rfl) (by rfl) enter69 ?_
      refine (clone_strs (hqX.out.ext k13.out) hxn.out).mono ?_
      rintro e G14 ⟨⟨aX, cX, rfl, hw⟩, m14⟩
      have k14 := Lib.hid (k13.out.trans (m14.mono k13.out.size))
      have B14 := Lib.hid (B13.out.below m14 B13.out.lt)
      have O14 := Lib.hid (O13.out.ext m14)
      have X14 := Lib.hid (hw.mono (Nat.le_trans hk7.out.size k13.out.size))
      have U14 := Lib.hid (U13.out.ext m14)
      have z5_14 : G14.cell? ⟨wr.heap.size, 5, none⟩ = some (.slice ua un uc) := (B14.out.cell 5).trans rfl
      have z6_14 : G14.cell? ⟨wr.heap.size, 6, none⟩ = some (.slice xa xn xc) := (B14.out.cell 6).trans rfl
      have z7_14 : G14.cell? ⟨wr.heap.size, 7, none⟩ = some (.slice ra rn rc) := (B14.out.cell 7).trans rfl
      clear hw m14
      refine ⟨_, rfl, ?_⟩
      refine hK.out _ _ trivial (fun hHeld => ?_)
      clear hK K
      try simp only [pz0, pz2, pz3, pz4]
      refine wpAnyH_ready (rs := [11]) (by kernel_rfl) (by simp) ?_
      refine arz (qClS5 _) rfl (fun K hK => ?_) AllReadyH.nil
      unfold qClS5
      refine step_call (by rfl) (.tmp 32) 33 (by rfl) (by rfl) enter70 ?_
      refine (clone_bytes (hqR.out.ext k14.out) hrn.out).mono ?_
      rintro e G15 ⟨⟨aR, cR, rfl, hw⟩, m15⟩
      have k15 := Lib.hid (k14.out.trans (m15.mono k14.out.size))
      have B15 := Lib.hid (B14.out.below m15 B14.out.lt)
      have O15 := Lib.hid (O14.out.ext m15)
      have R15 := Lib.hid (hw.mono (Nat.le_trans hk7.out.size k14.out.size))
      have U15 := Lib.hid (U14.out.ext m15)
      have X15 := Lib.hid (X14.out.ext m15)
      have z4_15 : G15.cell? ⟨wr.heap.size, 4, none⟩ = some (.slice ma mn mc) := (B15.out.cell 4).trans rfl
      have z5_15 : G15.cell? ⟨wr.heap.size, 5, none⟩ = some (.slice ua un uc) := (B15.out.cell 5).trans rfl
      have z6_15 : G15.cell? ⟨wr.heap.size, 6, none⟩ = some (.slice xa xn xc) := (B15.out.cell 6).trans rfl
      have z7_15 : G15.cell? ⟨wr.heap.size, 7, none⟩ = some (.slice ra rn rc) := (B15.out.cell 7).trans rfl
      have f4_15 : G15.frozen? ⟨wr.heap.size, 4, none⟩ = false := by rw [B15.out.frozen]; try simp
      have f5_15 : G15.frozen? ⟨wr.heap.size, 5, none⟩ = false := by rw [B15.out.frozen]; try simp
      have f6_15 : G15.frozen? ⟨wr.heap.size, 6, none⟩ = false := by rw [B15.out.frozen]; try simp
      have f7_15 : G15.frozen? ⟨wr.heap.size, 7, none⟩ = false := by rw [B15.out.frozen]; try simp
      clear hw m15
      refine ⟨_, rfl, ?_⟩
      refine hK.out _ _ trivial (fun hHeld => ?_)
      clear hK K
      try simp only [pz0, pz2, pz3, pz4]
      refine tkz 12 (qClS6 _) ?_ rfl ?_ ?_
      rotate_left
      ·intro w hSw
       unfold qClS6
       go_simp
       first | done | with_reducible rfl
      try simp only [qClS6, pz0, pz2, pz3, pz4]
      refine tkz 13 (qClS7 _) ?_ rfl ?_ ?_
      rotate_left
      ·intro w hSw
       unfold qClS7
       go_simp
       first | done | with_reducible rfl
      try simp only [qClS7, pz0, pz2, pz3, pz4]
      refine wpAnyH_ready (rs := [14]) (by kernel_rfl) (by simp) ?_
      refine arz (qClS8 _) rfl (fun K hK => ?_) AllReadyH.nil
      unfold qClS8
      go_simp
      obtain ⟨Y, hV⟩ : ∃ V, (((G15.setCell ⟨wr.heap.size, 4, none⟩ (.slice none 0 0)).setCell ⟨wr.heap.size, 5, none⟩ (.slice aU un cU)).setCell ⟨wr.heap.size, 6, none⟩ (.slice aX xn cX)).setCell ⟨wr.heap.size, 7, none⟩ (.slice aR rn cR) = V := ⟨_, rfl⟩
      rw [hV]
      have hgV : G15.grownBy Y (some wr.heap.size) := by rw [← hV]; exact grown_trans (grown_trans (grown_trans (grown_set _ _ _ _) (grown_set _ _ _ _)) (grown_set _ _ _ _)) (grown_set _ _ _ _)
      have yB : Hid (Blk Y wr.heap.size 37 (0, 0) [.slice aO on cO, .int .u16 ty, .int .u16 cl, .int .u32 ttl, .slice none 0 0, .slice aU un cU, .slice aX xn cX, .slice aR rn cR]) := Lib.hid (by rw [← hV]; exact (((B15.out.set 4 _).set 5 _).set 6 _).set 7 _)
      have yO := Lib.hid (own_store O15.out B15.out (by decide) hgV)
      have yU := Lib.hid (own_store U15.out B15.out (by decide) hgV)
      have yX := Lib.hid (own_store X15.out B15.out (by decide) hgV)
      have yR := Lib.hid (own_store R15.out B15.out (by decide) hgV)
      have yb : Hid (Below wr.heap.size wr Y) := Lib.hid ((hk7.out.trans (k15.out.mono hk7.out.size)).grown hgV (Nat.le_trans hk7.out.size k15.out.size) (fun j hj => by cases hj; exact Nat.le_refl _))
      clear hV hgV
      refine hK.out _ _ trivial (fun hHeld => ?_)
      clear hK K
      refine wpAnyH_done (by kernel_rfl) ?_ _
      refine NoPanic.normal ?_
      go_wp2_with fail
      go_meet
      exact ⟨_, _, _, _, _, _, rfl, yB, yO, yU, yX, yR, yb⟩
     refine arz (qClS4 _) rfl (fun K hK => ?_) AllReadyH.nil
     unfold qClS4
     go_simp
     refine hK.out _ _ trivial (fun hHeld => ?_)
     clear hK K
     try simp only [pz0, pz2, pz3, pz4]
     refine wpAnyH_ready (rs := [3, 6]) (by kernel_rfl) (by simp) ?_
     refine arz (qClS1 _) rfl (fun K hK => ?_) ?_
     ·unfold qClS1
      refine step_call (by rfl) (.tmp 24) 32 (by rfl) (by rfl) enter68 ?_
      refine (clone_u32 (hqU.out.ext k0.out) hun.out).mono ?_
      rintro e G16 ⟨⟨aU, cU, rfl, hw⟩, m16⟩
      have k16 := Lib.hid (k0.out.trans (m16.mono k0.out.size))
      have B16 := Lib.hid (B0.out.below m16 B0.out.lt)
      have O16 := Lib.hid (O0.out.ext m16)
      have U16 := Lib.hid (hw.mono (Nat.le_trans hk7.out.size k0.out.size))
      have z5_16 : G16.cell? ⟨wr.heap.size, 5, none⟩ = some (.slice ua un uc) := (B16.out.cell 5).trans rfl
      have z6_16 : G16.cell? ⟨wr.heap.size, 6, none⟩ = some (.slice xa xn xc) := (B16.out.cell 6).trans rfl
      have z7_16 : G16.cell? ⟨wr.heap.size, 7, none⟩ = some (.slice ra rn rc) := (B16.out.cell 7).trans rfl
      clear hw m16
      refine ⟨_, rfl, ?_⟩
      refine hK.out _ _ trivial (fun hHeld => ?_)
      clear hK K
      try simp only [pz0, pz2, pz3, pz4]
      refine wpAnyH_ready (rs := [6]) (by kernel_rfl) (by simp) ?_
      refine arz (qClS2 _) rfl (fun K hK => ?_) AllReadyH.nil
      unfold qClS2
      go_simp
      refine hK.out _ _ trivial (fun hHeld => ?_)
      clear hK K
      try simp only [pz0, pz2, pz3, pz4]
      refine wpAnyH_ready (rs := [7]) (by kernel_rfl) (by simp) ?_
      refine arz (qClS3 _) rfl (fun K hK => ?_) AllReadyH.nil
      unfold qClS3
      refine step_call (by rfl) (.tmp 28) 25 (by rfl) (by rfl) enter69 ?_
      refine (clone_strs (hqX.out.ext k16.out) hxn.out).mono ?_
      rintro e G17 ⟨⟨aX, cX, rfl, hw⟩, m17⟩
      have k17 := Lib.hid (k16.out.trans (m17.mono k16.out.size))
      have B17 := Lib.hid (B16.out.below m17 B16.out.lt)
      have O17 := Lib.hid (O16.out.ext m17)
      have X17 := Lib.hid (hw.mono (Nat.le_trans hk7.out.size k16.out.size))
      have U17 := Lib.hid (U16.out.ext m17)
      have z5_17 : G17.cell? ⟨wr.heap.size, 5, none⟩ = some (.slice ua un uc) := (B17.out.cell 5).trans rfl
      have z6_17 : G17.cell? ⟨wr.heap.size, 6, none⟩ = some (.slice xa xn xc) := (B17.out.cell 6).trans rfl
      have z7_17 : G17.cell? ⟨wr.heap.size, 7, none⟩ = some (.slice ra rn rc) := (B17.out.cell 7).trans rfl
      clear hw m17
      refine ⟨_, rfl, ?_⟩
      refine hK.out _ _ trivial (fun hHeld => ?_)
      clear hK K
      try simp only [pz0, pz2, pz3, pz4]
      refine wpAnyH_ready (rs := [11]) (by kernel_rfl) (by simp) ?_
      refine arz (qClS5 _) rfl (fun K hK => ?_) AllReadyH.nil
      unfold qClS5
      refine step_call (by rfl) (.tmp 32) 33 (by rfl) (by rfl) enter70 ?_
      refine (clone_bytes (hqR.out.ext k17.out) hrn.out).mono ?_
      rintro e G18 ⟨⟨aR, cR, rfl, hw⟩, m18⟩
      have k18 := Lib.hid (k17.out.trans (m18.mono k17.out.size))
      have B18 := Lib.hid (B17.out.below m18 B17.out.lt)
      have O18 := Lib.hid (O17.out.ext m18)
      have R18 := Lib.hid (hw.mono (Nat.le_trans hk7.out.size k17.out.size))
      have U18 := Lib.hid (U17.out.ext m18)
      have X18 := Lib.hid (X17.out.ext m18)
      have z4_18 : G18.cell? ⟨wr.heap.size, 4, none⟩ = some (.slice ma mn mc) := (B18.out.cell 4).trans rfl
      have z5_18 : G18.cell? ⟨wr.heap.size, 5, none⟩ = some (.slice ua un uc) := (B18.out.cell 5).trans rfl
      have z6_18 : G18.cell? ⟨wr.heap.size, 6, none⟩ = some (.slice xa xn xc) := (B18.out.cell 6).trans rfl
      have z7_18 : G18.cell? ⟨wr.heap.size, 7, none⟩ = some (.slice ra rn rc) := (B18.out.cell 7).trans rfl
      have f4_18 : G18.frozen? ⟨wr.heap.size, 4, none⟩ = false := by rw [B18.out.frozen]; try simp
      have f5_18 : G18.frozen? ⟨wr.heap.size, 5, none⟩ = false := by rw [B18.out.frozen]; try simp
      have f6_18 : G18.frozen? ⟨wr.heap.size, 6, none⟩ = false := by rw [B18.out.frozen]; try simp
      have f7_18 : G18.frozen? ⟨wr.heap.size, 7, none⟩ = false := by rw [B18.out.frozen]; try simp
      clear hw m18
      refine ⟨_, rfl, ?_⟩
      refine hK.out _ _ trivial (fun hHeld => ?_)
      clear hK K
      try simp only [pz0, pz2, pz3, pz4]
      refine tkz 12 (qClS6 _) ?_ rfl ?_ ?_
      rotate_left
      ·intro w hSw
       unfold qClS6
       go_simp
       first | done | with_reducible rfl
      try simp only [qClS6, pz0, pz2, pz3, pz4]
      refine tkz 13 (qClS7 _) ?_ rfl ?_ ?_
      rotate_left
      ·intro w hSw
       unfold qClS7
       go_simp
       first | done | with_reducible rfl
      try simp only [qClS7, pz0, pz2, pz3, pz4]
      refine wpAnyH_ready (rs := [14]) (by kernel_rfl) (by simp) ?_
      refine arz (qClS8 _) rfl (fun K hK => ?_) AllReadyH.nil
      unfold qClS8
      go_simp
      obtain ⟨Y, hV⟩ : ∃ V, (((G18.setCell ⟨wr.heap.size, 4, none⟩ (.slice none 0 0)).setCell ⟨wr.heap.size, 5, none⟩ (.slice aU un cU)).setCell ⟨wr.heap.size, 6, none⟩ (.slice aX xn cX)).setCell ⟨wr.heap.size, 7, none⟩ (.slice aR rn cR) = V := ⟨_, rfl⟩
      rw [hV]
      have hgV : G18.grownBy Y (some wr.heap.size) := by rw [← hV]; exact grown_trans (grown_trans (grown_trans (grown_set _ _ _ _) (grown_set _ _ _ _)) (grown_set _ _ _ _)) (grown_set _ _ _ _)
      have yB : Hid (Blk Y wr.heap.size 37 (0, 0) [.slice aO on cO, .int .u16 ty, .int .u16 cl, .int .u32 ttl, .slice none 0 0, .slice aU un cU, .slice aX xn cX, .slice aR rn cR]) := Lib.hid (by rw [← hV]; exact (((B18.out.set 4 _).set 5 _).set 6 _).set 7 _)
      have yO := Lib.hid (own_store O18.out B18.out (by decide) hgV)
      have yU := Lib.hid (own_store U18.out B18.out (by decide) hgV)
      have yX := Lib.hid (own_store X18.out B18.out (by decide) hgV)
      have yR := Lib.hid (own_store R18.out B18.out (by decide) hgV)
      have yb : Hid (Below wr.heap.size wr Y) := Lib.hid ((hk7.out.trans (k18.out.mono hk7.out.size)).grown hgV (Nat.le_trans hk7.out.size k18.out.size) (fun j hj => by cases hj; exact Nat.le_refl _))
      clear hV hgV
      refine hK.out _ _ trivial (fun hHeld => ?_)
      clear hK K
      refine wpAnyH_done (by kernel_rfl) ?_ _
      refine NoPanic.normal ?_
      go_wp2_with fail
      go_meet
      exact ⟨_, _, _, _, _, _, rfl, yB, yO, yU, yX, yR, yb⟩
     refine arz (qClS2 _) rfl (fun K hK => ?_) AllReadyH.nil
     unfold qClS2
     go_simp
     refine hK.out _ _ trivial (fun hHeld => ?_)
     clear hK K
     try simp only [pz0, pz2, pz3, pz4]
     refine wpAnyH_ready (rs := [3]) (by kernel_rfl) (by simp) ?_
     refine arz (qClS1 _) rfl (fun K hK => ?_) AllReadyH.nil
     unfold qClS1
     refine step_call (by rfl) (.tmp 24) 32 (by rfl) (by rfl) enter68 ?_
     refine (clone_u32 (hqU.out.ext k0.out) hun.out).mono ?_
     rintro e G19 ⟨⟨aU, cU, rfl, hw⟩, m19⟩
     have k19 := Lib.hid (k0.out.trans (m19.mono k0.out.size))
     have B19 := Lib.hid (B0.out.below m19 B0.out.lt)
     have O19 := Lib.hid (O0.out.ext m19)
     have U19 := Lib.hid (hw.mono (Nat.le_trans hk7.out.size k0.out.size))
     have z5_19 : G19.cell? ⟨wr.heap.size, 5, none⟩ = some (.slice ua un uc) := (B19.out.cell 5).trans rfl
     have z6_19 : G19.cell? ⟨wr.heap.size, 6, none⟩ = some (.slice xa xn xc) := (B19.out.cell 6).trans rfl
     have z7_19 : G19.cell? ⟨wr.heap.size, 7, none⟩ = some (.slice ra rn rc) := (B19.out.cell 7).trans rfl
     clear hw m19
     refine ⟨_, rfl, ?_⟩
     refine hK.out _ _ trivial (fun hHeld => ?_)
     clear hK K
     try simp only [pz0, pz2, pz3, pz4]
     refine wpAnyH_ready (rs := [7]) (by kernel_rfl) (by simp) ?_
     refine arz (qClS3 _) rfl (fun K hK => ?_) AllReadyH.nil
     unfold qClS3
     refine step_call (by rfl) (.tmp 28) 25 (by rfl) (by rfl) enter69 ?_
     refine (clone_strs (hqX.out.ext k19.out) hxn.out).mono ?_
     rintro e G20 ⟨⟨aX, cX, rfl, hw⟩, m20⟩
     have k20 := Lib.hid (k19.out.trans (m20.mono k19.out.size))
     have B20 := Lib.hid (B19.out.below m20 B19.out.lt)
     have O20 := Lib.hid (O19.out.ext m20)
     have X20 := Lib.hid (hw.mono (Nat.le_trans hk7.out.size k19.out.size))
     have U20 := Lib.hid (U19.out.ext m20)
     have z5_20 : G20.cell? ⟨wr.heap.size, 5, none⟩ = some (.slice ua un uc) := (B20.out.cell 5).trans rfl
     have z6_20 : G20.cell? ⟨wr.heap.size, 6, none⟩ = some (.slice xa xn xc) := (B20.out.cell 6).trans rfl
     have z7_20 : G20.cell? ⟨wr.heap.size, 7, none⟩ = some (.slice ra rn rc) := (B20.out.cell 7).trans rfl
     clear hw m20
     refine ⟨_, rfl, ?_⟩
     refine hK.out _ _ trivial (fun hHeld => ?_)
     clear hK K
     try simp only [pz0, pz2, pz3, pz4]
     refine wpAnyH_ready (rs := [11]) (by kernel_rfl) (by simp) ?_
     refine arz (qClS5 _) rfl (fun K hK => ?_) AllReadyH.nil
     unfold qClS5
     refine step_call (by rfl) (.tmp 32) 33 (by rfl) (by rfl) enter70 ?_
     refine (clone_bytes (hqR.out.ext k20.out) hrn.out).mono ?_
     rintro e G21 ⟨⟨aR, cR, rfl, hw⟩, m21⟩
     have k21 := Lib.hid (k20.out.trans (m21.mono k20.out.size))
     have B21 := Lib.hid (B20.out.below m21 B20.out.lt)
     have O21 := Lib.hid (O20.out.ext m21)
     have R21 := Lib.hid (hw.mono (Nat.le_trans hk7.out.size k20.out.size))
     have U21 := Lib.hid (U20.out.ext m21)
     have X21 := Lib.hid (X20.out.ext m21)
     have z4_21 : G21.cell? ⟨wr.heap.size, 4, none⟩ = some (.slice ma mn mc) := (B21.out.cell 4).trans rfl
     have z5_21 : G21.cell? ⟨wr.heap.size, 5, none⟩ = some (.slice ua un uc) := (B21.out.cell 5).trans rfl
     have z6_21 : G21.cell? ⟨wr.heap.size, 6, none⟩ = some (.slice xa xn xc) := (B21.out.cell 6).trans rfl
     have z7_21 : G21.cell? ⟨wr.heap.size, 7, none⟩ = some (.slice ra rn rc) := (B21.out.cell 7).trans rfl
     have f4_21 : G21.frozen? ⟨wr.heap.size, 4, none⟩ = false := by rw [B21.out.frozen]; try simp
     have f5_21 : G21.frozen? ⟨wr.heap.size, 5, none⟩ = false := by rw [B21.out.frozen]; try simp
     have f6_21 : G21.frozen? ⟨wr.heap.size, 6, none⟩ = false := by rw [B21.out.frozen]; try simp
     have f7_21 : G21.frozen? ⟨wr.heap.size, 7, none⟩ = false := by rw [B21.out.frozen]; try simp
     clear hw m21
     refine ⟨_, rfl, ?_⟩
     refine hK.out _ _ trivial (fun hHeld => ?_)
     clear hK K
     try simp only [pz0, pz2, pz3, pz4]
     refine tkz 12 (qClS6 _) ?_ rfl ?_ ?_
     rotate_left
     ·intro w hSw
      unfold qClS6
      go_simp
      first | done | with_reducible rfl
     try simp only [qClS6, pz0, pz2, pz3, pz4]
     refine tkz 13 (qClS7 _) ?_ rfl ?_ ?_
     rotate_left
     ·intro w hSw
      unfold qClS7
      go_simp
      first | done | with_reducible rfl
     try simp only [qClS7, pz0, pz2, pz3, pz4]
     refine wpAnyH_ready (rs := [14]) (by kernel_rfl) (by simp) ?_
     refine arz (qClS8 _) rfl (fun K hK => ?_) AllReadyH.nil
     unfold qClS8
     go_simp
     obtain ⟨Y, hV⟩ : ∃ V, (((G21.setCell ⟨wr.heap.size, 4, none⟩ (.slice none 0 0)).setCell ⟨wr.heap.size, 5, none⟩ (.slice aU un cU)).setCell ⟨wr.heap.size, 6, none⟩ (.slice aX xn cX)).setCell ⟨wr.heap.size, 7, none⟩ (.slice aR rn cR) = V := ⟨_, rfl⟩
     rw [hV]
     have hgV : G21.grownBy Y (some wr.heap.size) := by rw [← hV]; exact grown_trans (grown_trans (grown_trans (grown_set _ _ _ _) (grown_set _ _ _ _)) (grown_set _ _ _ _)) (grown_set _ _ _ _)
     have yB : Hid (Blk Y wr.heap.size 37 (0, 0) [.slice aO on cO, .int .u16 ty, .int .u16 cl, .int .u32 ttl, .slice none 0 0, .slice aU un cU, .slice aX xn cX, .slice aR rn cR]) := Lib.hid (by rw [← hV]; exact (((B21.out.set 4 _).set 5 _).set 6 _).set 7 _)
     have yO := Lib.hid (own_store O21.out B21.out (by decide) hgV)
     have yU := Lib.hid (own_store U21.out B21.out (by decide) hgV)
     have yX := Lib.hid (own_store X21.out B21.out (by decide) hgV)
     have yR := Lib.hid (own_store R21.out B21.out (by decide) hgV)
     have yb : Hid (Below wr.heap.size wr Y) := Lib.hid ((hk7.out.trans (k21.out.mono hk7.out.size)).grown hgV (Nat.le_trans hk7.out.size k21.out.size) (fun j hj => by cases hj; exact Nat.le_refl _))
     clear hV hgV
     refine hK.out _ _ trivial (fun hHeld => ?_)
     clear hK K
     refine wpAnyH_done (by kernel_rfl) ?_ _
     refine NoPanic.normal ?_
     go_wp2_with fail
     go_meet
     exact ⟨_, _, _, _, _, _, rfl, yB, yO, yU, yX, yR, yb⟩
    refine arz (qClS2 _) rfl (fun K hK => ?_) ?_
    ·unfold qClS2
     go_simp
     refine hK.out _ _ trivial (fun hHeld => ?_)
     clear hK K
     try simp only [pz0, pz2, pz3, pz4]
     refine wpAnyH_ready (rs := [2, 10]) (by kernel_rfl) (by simp) ?_
     refine arz (qClS0 _) rfl (fun K hK => ?_) ?_
     ·unfold qClS0
      go_simp
      refine hK.out _ _ trivial (fun hHeld => ?_)
      clear hK K
      try simp only [pz0, pz2, pz3, pz4]
      refine wpAnyH_ready (rs := [3, 10]) (by kernel_rfl) (by simp) ?_
      refine arz (qClS1 _) rfl (fun K hK => ?_) ?_
      ·unfold qClS1
       refine step_call (by rfl) (.tmp 24) 32 (by rfl) (by rfl) enter68 ?_
       refine (clone_u32 (hqU.out.ext k0.out) hun.out).mono ?_
       rintro e G22 ⟨⟨aU, cU, rfl, hw⟩, m22⟩
       have k22 := Lib.hid (k0.out.trans (m22.mono k0.out.size))
       have B22 := Lib.hid (B0.out.below m22 B0.out.lt)
       have O22 := Lib.hid (O0.out.ext m22)
       have U22 := Lib.hid (hw.mono (Nat.le_trans hk7.out.size k0.out.size))
       have z5_22 : G22.cell? ⟨wr.heap.size, 5, none⟩ = some (.slice ua un uc) := (B22.out.cell 5).trans rfl
       have z6_22 : G22.cell? ⟨wr.heap.size, 6, none⟩ = some (.slice xa xn xc) := (B22.out.cell 6).trans rfl
       have z7_22 : G22.cell? ⟨wr.heap.size, 7, none⟩ = some (.slice ra rn rc) := (B22.out.cell 7).trans rfl
       clear hw m22
       refine ⟨_, rfl, ?_⟩
       refine hK.out _ _ trivial (fun hHeld => ?_)
       clear hK K
       try simp only [pz0, pz2, pz3, pz4]
       refine wpAnyH_ready (rs := [7, 10]) (by kernel_rfl) (by simp) ?_
       refine arz (qClS3 _) rfl (fun K hK => ?_) ?_
       ·unfold qClS3
        refine step_call (by rfl) (.tmp 28) 25 (by rfl) (by rfl) enter69 ?_
        refine (clone_strs (hqX.out.ext k22.out) hxn.out).mono ?_
        rintro e G23 ⟨⟨aX, cX, rfl, hw⟩, m23⟩
        have k23 := Lib.hid (k22.out.trans (m23.mono k22.out.size))
        have B23 := Lib.hid (B22.out.below m23 B22.out.lt)
        have O23 := Lib.hid (O22.out.ext m23)
        have X23 := Lib.hid (hw.mono (Nat.le_trans hk7.out.size k22.out.size))
        have U23 := Lib.hid (U22.out.ext m23)
        have z5_23 : G23.cell? ⟨wr.heap.size, 5, none⟩ = some (.slice ua un uc) := (B23.out.cell 5).trans rfl
        have z6_23 : G23.cell? ⟨wr.heap.size, 6, none⟩ = some (.slice xa xn xc) := (B23.out.cell 6).trans rfl
        have z7_23 : G23.cell? ⟨wr.heap.size, 7, none⟩ = some (.slice ra rn rc) := (B23.out.cell 7).trans rfl
        clear hw m23
        refine ⟨_, rfl, ?_⟩
        refine hK.out _ _ trivial (fun hHeld => ?_)
        clear hK K
        try simp only [pz0, pz2, pz3, pz4]
        refine wpAnyH_ready (rs := [10]) (by kernel_rfl) (by simp) ?_
        refine arz (qClS4 _) rfl (fun K hK => ?_) AllReadyH.nil
        unfold qClS4
        go_simp
        refine hK.out _ _ trivial (fun hHeld => ?_)
        clear hK K
        try simp only [pz0, pz2, pz3, pz4]
        refine wpAnyH_ready (rs := [11]) (by kernel_rfl) (by simp) ?_
        refine arz (qClS5 _) rfl (fun K hK => ?_) AllReadyH.nil
        unfold qClS5
        refine step_call (by rfl) (.tmp 32) 33 (by rfl) (by rfl) enter70 ?_
        refine (clone_bytes (hqR.out.ext k23.out) hrn.out).mono ?_
        rintro e G24 ⟨⟨aR, cR, rfl, hw⟩, m24⟩
        have k24 := Lib.hid (k23.out.trans (m24.mono k23.out.size))
        have B24 := Lib.hid (B23.out.below m24 B23.out.lt)
        have O24 := Lib.hid (O23.out.ext m24)
        have R24 := Lib.hid (hw.mono (Nat.le_trans hk7.out.size k23.out.size))
        have U24 := Lib.hid (U23.out.ext m24)
        have X24 := Lib.hid (X23.out.ext m24)
        have z4_24 : G24.cell? ⟨wr.heap.size, 4, none⟩ = some (.slice ma mn mc) := (B24.out.cell 4).trans rfl
        have z5_24 : G24.cell? ⟨wr.heap.size, 5, none⟩ = some (.slice ua un uc) := (B24.out.cell 5).trans rfl
        have z6_24 : G24.cell? ⟨wr.heap.size, 6, none⟩ = some (.slice xa xn xc) := (B24.out.cell 6).trans rfl
        have z7_24 : G24.cell? ⟨wr.heap.size, 7, none⟩ = some (.slice ra rn rc) := (B24.out.cell 7).trans rfl
        have f4_24 : G24.frozen? ⟨wr.heap.size, 4, none⟩ = false := by rw [B24.out.frozen]; try simp
        have f5_24 : G24.frozen? ⟨wr.heap.size, 5, none⟩ = false := by rw [B24.out.frozen]; try simp
        have f6_24 : G24.frozen? ⟨wr.heap.size, 6, none⟩ = false := by rw [B24.out.frozen]; try simp
        have f7_24 : G24.frozen? ⟨wr.heap.size, 7, none⟩ = false := by rw [B24.out.frozen]; try simp
        clear hw m24
        refine ⟨_, rfl, ?_⟩
        refine hK.out _ _ trivial (fun hHeld => ?_)
        clear hK K
        try simp only [pz0, pz2, pz3, pz4]
        refine tkz 12 (qClS6 _) ?_ rfl ?_ ?_
        rotate_left
        ·intro w hSw
         unfold qClS6
         go_simp
         first | done | with_reducible rfl
        try simp only [qClS6, pz0, pz2, pz3, pz4]
        refine tkz 13 (qClS7 _) ?_ rfl ?_ ?_
        rotate_left
        ·intro w hSw
         unfold qClS7
         go_simp
         first | done | with_reducible rfl
        try simp only [qClS7, pz0, pz2, pz3, pz4]
        refine wpAnyH_ready (rs := [14]) (by kernel_rfl) (by simp) ?_
        refine arz (qClS8 _) rfl (fun K hK => ?_) AllReadyH.nil
        unfold qClS8
        go_simp
        obtain ⟨Y, hV⟩ : ∃ V, (((G24.setCell ⟨wr.heap.size, 4, none⟩ (.slice none 0 0)).setCell ⟨wr.heap.size, 5, none⟩ (.slice aU un cU)).setCell ⟨wr.heap.size, 6, none⟩ (.slice aX xn cX)).setCell ⟨wr.heap.size, 7, none⟩ (.slice aR rn cR) = V := ⟨_, rfl⟩
        rw [hV]
        have hgV : G24.grownBy Y (some wr.heap.size) := by rw [← hV]; exact grown_trans (grown_trans (grown_trans (grown_set _ _ _ _) (grown_set _ _ _ _)) (grown_set _ _ _ _)) (grown_set _ _ _ _)
        have yB : Hid (Blk Y wr.heap.size 37 (0, 0) [.slice aO on cO, .int .u16 ty, .int .u16 cl, .int .u32 ttl, .slice none 0 0, .slice aU un cU, .slice aX xn cX, .slice aR rn cR]) := Lib.hid (by rw [← hV]; exact (((B24.out.set 4 _).set 5 _).set 6 _).set 7 _)
        have yO := Lib.hid (own_store O24.out B24.out (by decide) hgV)
        have yU := Lib.hid (own_store U24.out B24.out (by decide) hgV)
        have yX := Lib.hid (own_store X24.out B24.out (by decide) hgV)
        have yR := Lib.hid (own_store R24.out B24.out (by decide) hgV)
        have yb : Hid (Below wr.heap.size wr Y) := Lib.hid ((hk7.out.trans (k24.out.mono hk7.out.size)).grown hgV (Nat.le_trans hk7.out.size k24.out.size) (fun j hj => by cases hj; exact Nat.le_refl _))
        clear hV hgV
        refine hK.out _ _ trivial (fun hHeld => ?_)
        clear hK K
        refine wpAnyH_done (by kernel_rfl) ?_ _
        refine NoPanic.normal ?_
        go_wp2_with fail
        go_meet
        exact ⟨_, _, _, _, _, _, rfl, yB, yO, yU, yX, yR, yb⟩
       refine arz (qClS4 _) rfl (fun K hK => ?_) AllReadyH.nil
       unfold qClS4
       go_simp
       refine hK.out _ _ trivial (fun hHeld => ?_)
       clear hK K
       try simp only [pz0, pz2, pz3, pz4]
       refine wpAnyH_ready (rs := [7]) (by kernel_rfl) (by simp) ?_
       refine arz (qClS3 _) rfl (fun K hK => ?_) AllReadyH.nil
       unfold qClS3
       refine step_call (by rfl) (.tmp 28) 25 (by rfl) (by rfl) enter69 ?_
       refine (clone_strs (hqX.out.ext k22.out) hxn.out).mono ?_
       rintro e G25 ⟨⟨aX, cX, rfl, hw⟩, m25⟩
       have k25 := Lib.hid (k22.out.trans (m25.mono k22.out.size))
       have B25 := Lib.hid (B22.out.below m25 B22.out.lt)
       have O25 := Lib.hid (O22.out.ext m25)
       have X25 := Lib.hid (hw.mono (Nat.le_trans hk7.out.size k22.out.size))
       have U25 := Lib.hid (U22.out.ext m25)
       have z5_25 : G25.cell? ⟨wr.heap.size, 5, none⟩ = some (.slice ua un uc) := (B25.out.cell 5).trans rfl
       have z6_25 : G25.cell? ⟨wr.heap.size, 6, none⟩ = some (.slice xa xn xc) := (B25.out.cell 6).trans rfl
       have z7_25 : G25.cell? ⟨wr.heap.size, 7, none⟩ = some (.slice ra rn rc) := (B25.out.cell 7).trans rfl
       clear hw m25
       refine ⟨_, rfl, ?_⟩
       refine hK.out _ _ trivial (fun hHeld => ?_)
       clear hK K
       try simp only [pz0, pz2, pz3, pz4]
       refine wpAnyH_ready (rs := [11]) (by kernel_rfl) (by simp) ?_
       refine arz (qClS5 _) rfl (fun K hK => ?_) AllReadyH.nil
       unfold qClS5
       refine step_call (by rfl) (.tmp 32) 33 (by rfl) (by rfl) enter70 ?_
       refine (clone_bytes (hqR.out.ext k25.out) hrn.out).mono ?_
       rintro e G26 ⟨⟨aR, cR, rfl, hw⟩, m26⟩
       have k26 := Lib.hid (k25.out.trans (m26.mono k25.out.size))
       have B26 := Lib.hid (B25.out.below m26 B25.out.lt)
       have O26 := Lib.hid (O25.out.ext m26)
       have R26 := Lib.hid (hw.mono (Nat.le_trans hk7.out.size k25.out.size))
       have U26 := Lib.hid (U25.out.ext m26)
       have X26 := Lib.hid (X25.out.ext m26)
       have z4_26 : G26.cell? ⟨wr.heap.size, 4, none⟩ = some (.slice ma mn mc) := (B26.out.cell 4).trans rfl
       have z5_26 : G26.cell? ⟨wr.heap.size, 5, none⟩ = some (.slice ua un uc) := (B26.out.cell 5).trans rfl
       have z6_26 : G26.cell? ⟨wr.heap.size, 6, none⟩ = some (.slice xa xn xc) := (B26.out.cell 6).trans rfl
       have z7_26 : G26.cell? ⟨wr.heap.size, 7, none⟩ = some (.slice ra rn rc) := (B26.out.cell 7).trans rfl
       have f4_26 : G26.frozen? ⟨wr.heap.size, 4, none⟩ = false := by rw [B26.out.frozen]; try simp
       have f5_26 : G26.frozen? ⟨wr.heap.size, 5, none⟩ = false := by rw [B26.out.frozen]; try simp
       have f6_26 : G26.frozen? ⟨wr.heap.size, 6, none⟩ = false := by rw [B26.out.frozen]; try simp
       have f7_26 : G26.frozen? ⟨wr.heap.size, 7, none⟩ = false := by rw [B26.out.frozen]; try simp
       clear hw m26
       refine ⟨_, rfl, ?_⟩
       refine hK.out _ _ trivial (fun hHeld => ?_)
       clear hK K
       try simp only [pz0, pz2, pz3, pz4]
       refine tkz 12 (qClS6 _) ?_ rfl ?_ ?_
       rotate_left
       ·intro w hSw
        unfold qClS6
        go_simp
        first | done | with_reducible rfl
       try simp only [qClS6, pz0, pz2, pz3, pz4]
       refine tkz 13 (qClS7 _) ?_ rfl ?_ ?_
       rotate_left
       ·intro w hSw
        unfold qClS7
        go_simp
        first | done | with_reducible rfl
       try simp only [qClS7, pz0, pz2, pz3, pz4]
       refine wpAnyH_ready (rs := [14]) (by kernel_rfl) (by simp) ?_
       refine arz (qClS8 _) rfl (fun K hK => ?_) AllReadyH.nil
       unfold qClS8
       go_simp
       obtain ⟨Y, hV⟩ : ∃ V, (((G26.setCell ⟨wr.heap.size, 4, none⟩ (.slice none 0 0)).setCell ⟨wr.heap.size, 5, none⟩ (.slice aU un cU)).setCell ⟨wr.heap.size, 6, none⟩ (.slice aX xn cX)).setCell ⟨wr.heap.size, 7, none⟩ (.slice aR rn cR) = V := ⟨_, rfl⟩
       rw [hV]
       have hgV : G26.grownBy Y (some wr.heap.size) := by rw [← hV]; exact grown_trans (grown_trans (grown_trans (grown_set _ _ _ _) (grown_set _ _ _ _)) (grown_set _ _ _ _)) (grown_set _ _ _ _)
       have yB : Hid (Blk Y wr.heap.size 37 (0, 0) [.slice aO on cO, .int .u16 ty, .int .u16 cl, .int .u32 ttl, .slice none 0 0, .slice aU un cU, .slice aX xn cX, .slice aR rn cR]) := Lib.hid (by rw [← hV]; exact (((B26.out.set 4 _).set 5 _).set 6 _).set 7 _)
       have yO := Lib.hid (own_store O26.out B26.out (by decide) hgV)
       have yU := Lib.hid (own_store U26.out B26.out (by decide) hgV)
       have yX := Lib.hid (own_store X26.out B26.out (by decide) hgV)
       have yR := Lib.hid (own_store R26.out B26.out (by decide) hgV)
       have yb : Hid (Below wr.heap.size wr Y) := Lib.hid ((hk7.out.trans (k26.out.mono hk7.out.size)).grown hgV (Nat.le_trans hk7.out.size k26.out.size) (fun j hj => by cases hj; exact Nat.le_refl _))
       clear hV hgV
       refine hK.out _ _ trivial (fun hHeld => ?_)
       clear hK K
       refine wpAnyH_done (by kernel_rfl) ?_ _
       refine NoPanic.normal ?_
       go_wp2_with fail
       go_meet
       exact ⟨_, _, _, _, _, _, rfl, yB, yO, yU, yX, yR, yb⟩
      refine arz (qClS4 _) rfl (fun K hK => ?_) AllReadyH.nil
      unfold qClS4
      go_simp
      refine hK.out _ _ trivial (fun hHeld => ?_)
      clear hK K
      try simp only [pz0, pz2, pz3, pz4]
      refine wpAnyH_ready (rs := [3]) (by kernel_rfl) (by simp) ?_
      refine arz (qClS1 _) rfl (fun K hK => ?_) AllReadyH.nil
      unfold qClS1
      refine step_call (by rfl) (.tmp 24) 32 (by rfl) (by rfl) enter68 ?_
      refine (clone_u32 (hqU.out.ext k0.out) hun.out).mono ?_
      rintro e G27 ⟨⟨aU, cU, rfl, hw⟩, m27⟩
      have k27 := Lib.hid (k0.out.trans (m27.mono k0.out.size))
      have B27 := Lib.hid (B0.out.below m27 B0.out.lt)
      have O27 := Lib.hid (O0.out.ext m27)
      have U27 := Lib.hid (hw.mono (Nat.le_trans hk7.out.size k0.out.size))
      have z5_27 : G27.cell? ⟨wr.heap.size, 5, none⟩ = some (.slice ua un uc) := (B27.out.cell 5).trans rfl
      have z6_27 : G27.cell? ⟨wr.heap.size, 6, none⟩ = some (.slice xa xn xc) := (B27.out.cell 6).trans rfl
      have z7_27 : G27.cell? ⟨wr.heap.size, 7, none⟩ = some (.slice ra rn rc) := (B27.out.cell 7).trans rfl
      clear hw m27
      refine ⟨_, rfl, ?_⟩
      refine hK.out _ _ trivial (fun hHeld => ?_)
      clear hK K
      try simp only [pz0, pz2, pz3, pz4]
      refine wpAnyH_ready (rs := [7]) (by kernel_rfl) (by simp) ?_
      refine arz (qClS3 _) rfl (fun K hK => ?_) AllReadyH.nil
      unfold qClS3
      refine step_call (by rfl) (.tmp 28) 25 (by rfl) (by rfl) enter69 ?_
      refine (clone_strs (hqX.out.ext k27.out) hxn.out).mono ?_
      rintro e G28 ⟨⟨aX, cX, rfl, hw⟩, m28⟩
      have k28 := Lib.hid (k27.out.trans (m28.mono k27.out.size))
      have B28 := Lib.hid (B27.out.below m28 B27.out.lt)
      have O28 := Lib.hid (O27.out.ext m28)
      have X28 := Lib.hid (hw.mono (Nat.le_trans hk7.out.size k27.out.size))
      have U28 := Lib.hid (U27.out.ext m28)
      have z5_28 : G28.cell? ⟨wr.heap.size, 5, none⟩ = some (.slice ua un uc) := (B28.out.cell 5).trans rfl
      have z6_28 : G28.cell? ⟨wr.heap.size, 6, none⟩ = some (.slice xa xn xc) := (B28.out.cell 6).trans rfl
      have z7_28 : G28.cell? ⟨wr.heap.size, 7, none⟩ = some (.slice ra rn rc) := (B28.out.cell 7).trans rfl
      clear hw m28
      refine ⟨_, rfl, ?_⟩
      refine hK.out _ _ trivial (fun hHeld => ?_)
      clear hK K
      try simp only [pz0, pz2, pz3, pz4]
      refine wpAnyH_ready (rs := [11]) (by kernel_rfl) (by simp) ?_
      refine arz (qClS5 _) rfl (fun K hK => ?_) AllReadyH.nil
      unfold qClS5
      refine step_call (by rfl) (.tmp 32) 33 (by rfl) (by rfl) enter70 ?_
      refine (clone_bytes (hqR.out.ext k28.out) hrn.out).mono ?_
      rintro e G29 ⟨⟨aR, cR, rfl, hw⟩, m29⟩
      have k29 := Lib.hid (k28.out.trans (m29.mono k28.out.size))
      have B29 := Lib.hid (B28.out.below m29 B28.out.lt)
      have O29 := Lib.hid (O28.out.ext m29)
      have R29 := Lib.hid (hw.mono (Nat.le_trans hk7.out.size k28.out.size))
      have U29 := Lib.hid (U28.out.ext m29)
      have X29 := Lib.hid (X28.out.ext m29)
      have z4_29 : G29.cell? ⟨wr.heap.size, 4, none⟩ = some (.slice ma mn mc) := (B29.out.cell 4).trans rfl
      have z5_29 : G29.cell? ⟨wr.heap.size, 5, none⟩ = some (.slice ua un uc) := (B29.out.cell 5).trans rfl
      have z6_29 : G29.cell? ⟨wr.heap.size, 6, none⟩ = some (.slice xa xn xc) := (B29.out.cell 6).trans rfl
      have z7_29 : G29.cell? ⟨wr.heap.size, 7, none⟩ = some (.slice ra rn rc) := (B29.out.cell 7).trans rfl
      have f4_29 : G29.frozen? ⟨wr.heap.size, 4, none⟩ = false := by rw [B29.out.frozen]; try simp
      have f5_29 : G29.frozen? ⟨wr.heap.size, 5, none⟩ = false := by rw [B29.out.frozen]; try simp
      have f6_29 : G29.frozen? ⟨wr.heap.size, 6, none⟩ = false := by rw [B29.out.frozen]; try simp
      have f7_29 : G29.frozen? ⟨wr.heap.size, 7, none⟩ = false := by rw [B29.out.frozen]; try simp
      clear hw m29
      refine ⟨_, rfl, ?_⟩
      refine hK.out _ _ trivial (fun hHeld => ?_)
      clear hK K
      try simp only [pz0, pz2, pz3, pz4]
      refine tkz 12 (qClS6 _) ?_ rfl ?_ ?_
      rotate_left
      ·intro w hSw
       unfold qClS6
       go_simp
       first | done | with_reducible rfl
      try simp only [qClS6, pz0, pz2, pz3, pz4]
      refine tkz 13 (qClS7 _) ?_ rfl ?_ ?_
      rotate_left
      ·intro w hSw
       unfold qClS7
       go_simp
       first | done | with_reducible rfl
      try simp only [qClS7, pz0, pz2, pz3, pz4]
      refine wpAnyH_ready (rs := [14]) (by kernel_rfl) (by simp) ?_
      refine arz (qClS8 _) rfl (fun K hK => ?_) AllReadyH.nil
      unfold qClS8
      go_simp
      obtain ⟨Y, hV⟩ : ∃ V, (((G29.setCell ⟨wr.heap.size, 4, none⟩ (.slice none 0 0)).setCell ⟨wr.heap.size, 5, none⟩ (.slice aU un cU)).setCell ⟨wr.heap.size, 6, none⟩ (.slice aX xn cX)).setCell ⟨wr.heap.size, 7, none⟩ (.slice aR rn cR) = V := ⟨_, rfl⟩
      rw [hV]
      have hgV : G29.grownBy Y (some wr.heap.size) := by rw [← hV]; exact grown_trans (grown_trans (grown_trans (grown_set _ _ _ _) (grown_set _ _ _ _)) (grown_set _ _ _ _)) (grown_set _ _ _ _)
      have yB : Hid (Blk Y wr.heap.size 37 (0, 0) [.slice aO on cO, .int .u16 ty, .int .u16 cl, .int .u32 ttl, .slice none 0 0, .slice aU un cU, .slice aX xn cX, .slice aR rn cR]) := Lib.hid (by rw [← hV]; exact (((B29.out.set 4 _).set 5 _).set 6 _).set 7 _)
      have yO := Lib.hid (own_store O29.out B29.out (by decide) hgV)
      have yU := Lib.hid (own_store U29.out B29.out (by decide) hgV)
      have yX := Lib.hid (own_store X29.out B29.out (by decide) hgV)
      have yR := Lib.hid (own_store R29.out B29.out (by decide) hgV)
      have yb : Hid (Below wr.heap.size wr Y) := Lib.hid ((hk7.out.trans (k29.out.mono hk7.out.size)).grown hgV (Nat.le_trans hk7.out.size k29.out.size) (fun j hj => by cases hj; exact Nat.le_refl _))
      clear hV hgV
      refine hK.out _ _ trivial (fun hHeld => ?_)
      clear hK K
      refine wpAnyH_done (by kernel_rfl) ?_ _
      refine NoPanic.normal ?_
      go_wp2_with fail
      go_meet
      exact ⟨_, _, _, _, _, _, rfl, yB, yO, yU, yX, yR, yb⟩
     refine arz (qClS4 _) rfl (fun K hK => ?_) AllReadyH.nil
     unfold qClS4
     go_simp
     refine hK.out _ _ trivial (fun hHeld => ?_)
     clear hK K
     try simp only [pz0, pz2, pz3, pz4]
     refine wpAnyH_ready (rs := [2]) (by kernel_rfl) (by simp) ?_
     refine arz (qClS0 _) rfl (fun K hK => ?_) AllReadyH.nil
     unfold qClS0
     go_simp
     refine hK.out _ _ trivial (fun hHeld => ?_)
     clear hK K
     try simp only [pz0, pz2, pz3, pz4]
     refine wpAnyH_ready (rs := [3]) (by kernel_rfl) (by simp) ?_
     refine arz (qClS1 _) rfl (fun K hK => ?_) AllReadyH.nil
     unfold qClS1
     refine step_call (by rfl) (.tmp 24) 32 (by rfl) (by rfl) enter68 ?_
     refine (clone_u32 (hqU.out.ext k0.out) hun.out).mono ?_
     rintro e G30 ⟨⟨aU, cU, rfl, hw⟩, m30⟩
     have k30 := Lib.hid (k0.out.trans (m30.mono k0.out.size))
     have B30 := Lib.hid (B0.out.below m30 B0.out.lt)
     have O30 := Lib.hid (O0.out.ext m30)
     have U30 := Lib.hid (hw.mono (Nat.le_trans hk7.out.size k0.out.size))
     have z5_30 : G30.cell? ⟨wr.heap.size, 5, none⟩ = some (.slice ua un uc) := (B30.out.cell 5).trans rfl
     have z6_30 : G30.cell? ⟨wr.heap.size, 6, none⟩ = some (.slice xa xn xc) := (B30.out.cell 6).trans rfl
     have z7_30 : G30.cell? ⟨wr.heap.size, 7, none⟩ = some (.slice ra rn rc) := (B30.out.cell 7).trans rfl
     clear hw m30
     refine ⟨_, rfl, ?_⟩
     refine hK.out _ _ trivial (fun hHeld => ?_)
     clear hK K
     try simp only [pz0, pz2, pz3, pz4]
     refine wpAnyH_ready (rs := [7]) (by kernel_rfl) (by simp) ?_
     refine arz (qClS3 _) rfl (fun K hK => ?_) AllReadyH.nil
     unfold qClS3
     refine step_call (by rfl) (.tmp 28) 25 (by rfl) (by rfl) enter69 ?_
     refine (clone_strs (hqX.out.ext k30.out) hxn.out).mono ?_
     rintro e G31 ⟨⟨aX, cX, rfl, hw⟩, m31⟩
     have k31 := Lib.hid (k30.out.trans (m31.mono k30.out.size))
     have B31 := Lib.hid (B30.out.below m31 B30.out.lt)
     have O31 := Lib.hid (O30.out.ext m31)
     have X31 := Lib.hid (hw.mono (Nat.le_trans hk7.out.size k30.out.size))
     have U31 := Lib.hid (U30.out.ext m31)
     have z5_31 : G31.cell? ⟨wr.heap.size, 5, none⟩ = some (.slice ua un uc) := (B31.out.cell 5).trans rfl
     have z6_31 : G31.cell? ⟨wr.heap.size, 6, none⟩ = some (.slice xa xn xc) := (B31.out.cell 6).trans rfl
     have z7_31 : G31.cell? ⟨wr.heap.size, 7, none⟩ = some (.slice ra rn rc) := (B31.out.cell 7).trans rfl
     clear hw m31
     refine ⟨_, rfl, ?_⟩
     refine hK.out _ _ trivial (fun hHeld => ?_)
     clear hK K
     try simp only [pz0, pz2, pz3, pz4]
     refine wpAnyH_ready (rs := [11]) (by kernel_rfl) (by simp) ?_
     refine arz (qClS5 _) rfl (fun K hK => ?_) AllReadyH.nil
     unfold qClS5
     refine step_call (by rfl) (.tmp 32) 33 (by rfl) (by rfl) enter70 ?_
     refine (clone_bytes (hqR.out.ext k31.out) hrn.out).mono ?_
     rintro e G32 ⟨⟨aR, cR, rfl, hw⟩, m32⟩
     have k32 := Lib.hid (k31.out.trans (m32.mono k31.out.size))
     have B32 := Lib.hid (B31.out.below m32 B31.out.lt)
     have O32 := Lib.hid (O31.out.ext m32)
     have R32 := Lib.hid (hw.mono (Nat.le_trans hk7.out.size k31.out.size))
     have U32 := Lib.hid (U31.out.ext m32)
     have X32 := Lib.hid (X31.out.ext m32)
     have z4_32 : G32.cell? ⟨wr.heap.size, 4, none⟩ = some (.slice ma mn mc) := (B32.out.cell 4).trans rfl
     have z5_32 : G32.cell? ⟨wr.heap.size, 5, none⟩ = some (.slice ua un uc) := (B32.out.cell 5).trans rfl
     have z6_32 : G32.cell? ⟨wr.heap.size, 6, none⟩ = some (.slice xa xn xc) := (B32.out.cell 6).trans rfl
     have z7_32 : G32.cell? ⟨wr.heap.size, 7, none⟩ = some (.slice ra rn rc) := (B32.out.cell 7).trans rfl
     have f4_32 : G32.frozen? ⟨wr.heap.size, 4, none⟩ = false := by rw [B32.out.frozen]; try simp
     have f5_32 : G32.frozen? ⟨wr.heap.size, 5, none⟩ = false := by rw [B32.out.frozen]; try simp
     have f6_32 : G32.frozen? ⟨wr.heap.size, 6, none⟩ = false := by rw [B32.out.frozen]; try simp
     have f7_32 : G32.frozen? ⟨wr.heap.size, 7, none⟩ = false := by rw [B32.out.frozen]; try simp
     clear hw m32
     refine ⟨_, rfl, ?_⟩
     refine hK.out _ _ trivial (fun hHeld => ?_)
     clear hK K
     try simp only [pz0, pz2, pz3, pz4]
     refine tkz 12 (qClS6 _) ?_ rfl ?_ ?_
     rotate_left
     ·intro w hSw
      unfold qClS6
      go_simp
      first | done | with_reducible rfl
     try simp only [qClS6, pz0, pz2, pz3, pz4]
     refine tkz 13 (qClS7 _) ?_ rfl ?_ ?_
     rotate_left
     ·intro w hSw
      unfold qClS7
      go_simp
      first | done | with_reducible rfl
     try simp only [qClS7, pz0, pz2, pz3, pz4]
     refine wpAnyH_ready (rs := [14]) (by kernel_rfl) (by simp) ?_
     refine arz (qClS8 _) rfl (fun K hK => ?_) AllReadyH.nil
     unfold qClS8
     go_simp
     obtain ⟨Y, hV⟩ : ∃ V, (((G32.setCell ⟨wr.heap.size, 4, none⟩ (.slice none 0 0)).setCell ⟨wr.heap.size, 5, none⟩ (.slice aU un cU)).setCell ⟨wr.heap.size, 6, none⟩ (.slice aX xn cX)).setCell ⟨wr.heap.size, 7, none⟩ (.slice aR rn cR) = V := ⟨_, rfl⟩
     rw [hV]
     have hgV : G32.grownBy Y (some wr.heap.size) := by rw [← hV]; exact grown_trans (grown_trans (grown_trans (grown_set _ _ _ _) (grown_set _ _ _ _)) (grown_set _ _ _ _)) (grown_set _ _ _ _)
     have yB : Hid (Blk Y wr.heap.size 37 (0, 0) [.slice aO on cO, .int .u16 ty, .int .u16 cl, .int .u32 ttl, .slice none 0 0, .slice aU un cU, .slice aX xn cX, .slice aR rn cR]) := Lib.hid (by rw [← hV]; exact (((B32.out.set 4 _).set 5 _).set 6 _).set 7 _)
     have yO := Lib.hid (own_store O32.out B32.out (by decide) hgV)
     have yU := Lib.hid (own_store U32.out B32.out (by decide) hgV)
     have yX := Lib.hid (own_store X32.out B32.out (by decide) hgV)
     have yR := Lib.hid (own_store R32.out B32.out (by decide) hgV)
     have yb : Hid (Below wr.heap.size wr Y) := Lib.hid ((hk7.out.trans (k32.out.mono hk7.out.size)).grown hgV (Nat.le_trans hk7.out.size k32.out.size) (fun j hj => by cases hj; exact Nat.le_refl _))
     clear hV hgV
     refine hK.out _ _ trivial (fun hHeld => ?_)
     clear hK K
     refine wpAnyH_done (by kernel_rfl) ?_ _
     refine NoPanic.normal ?_
     go_wp2_with fail
     go_meet
     exact ⟨_, _, _, _, _, _, rfl, yB, yO, yU, yX, yR, yb⟩
    refine arz (qClS4 _) rfl (fun K hK => ?_) AllReadyH.nil
    unfold qClS4
    go_simp
    refine hK.out _ _ trivial (fun hHeld => ?_)
    clear hK K
    try simp only [pz0, pz2, pz3, pz4]
    refine wpAnyH_ready (rs := [2, 6]) (by kernel_rfl) (by simp) ?_
    refine arz (qClS0 _) rfl (fun K hK => ?_) ?_
    ·unfold qClS0
     go_simp
     refine hK.out _ _ trivial (fun hHeld => ?_)
     clear hK K
     try simp only [pz0, pz2, pz3, pz4]
     refine wpAnyH_ready (rs := [3, 6]) (by kernel_rfl) (by simp) ?_
     refine arz (qClS1 _) rfl (fun K hK => ?_) ?_
     ·unfold qClS1
      refine step_call (by rfl) (.tmp 24) 32 (by rfl) (by rfl) enter68 ?_
      refine (clone_u32 (hqU.out.ext k0.out) hun.out).mono ?_
      rintro e G33 ⟨⟨aU, cU, rfl, hw⟩, m33⟩
      have k33 := Lib.hid (k0.out.trans (m33.mono k0.out.size))
      have B33 := Lib.hid (B0.out.below m33 B0.out.lt)
      have O33 := Lib.hid (O0.out.ext m33)
      have U33 := Lib.hid (hw.mono (Nat.le_trans hk7.out.size k0.out.size))
      have z5_33 : G33.cell? ⟨wr.heap.size, 5, none⟩ = some (.slice ua un uc) := (B33.out.cell 5).trans rfl
      have z6_33 : G33.cell? ⟨wr.heap.size, 6, none⟩ = some (.slice xa xn xc) := (B33.out.cell 6).trans rfl
      have z7_33 : G33.cell? ⟨wr.heap.size, 7, none⟩ = some (.slice ra rn rc) := (B33.out.cell 7).trans rfl
      clear hw m33
      refine ⟨_, rfl, ?_⟩
      refine hK.out _ _ trivial (fun hHeld => ?_)
      clear hK K
      try simp only [pz0, pz2, pz3, pz4]
      refine wpAnyH_ready (rs := [6]) (by kernel_rfl) (by simp) ?_
      refine arz (qClS2 _) rfl (fun K hK => ?_) AllReadyH.nil
      unfold qClS2
      go_simp
      refine hK.out _ _ trivial (fun hHeld => ?_)
      clear hK K
      try simp only [pz0, pz2, pz3, pz4]
      refine wpAnyH_ready (rs := [7]) (by kernel_rfl) (by simp) ?_
      refine arz (qClS3 _) rfl (fun K hK => ?_) AllReadyH.nil
      unfold qClS3
      refine step_call (by rfl) (.tmp 28) 25 (by rfl) (by rfl) enter69 ?_
      refine (clone_strs (hqX.out.ext k33.out) hxn.out).mono ?_
      rintro e G34 ⟨⟨aX, cX, rfl, hw⟩, m34⟩
      have k34 := Lib.hid (k33.out.trans (m34.mono k33.out.size))
      have B34 := Lib.hid (B33.out.below m34 B33.out.lt)
      have O34 := Lib.hid (O33.out.ext m34)
      have X34 := Lib.hid (hw.mono (Nat.le_trans hk7.out.size k33.out.size))
      have U34 := Lib.hid (U33.out.ext m34)
      have z5_34 : G34.cell? ⟨wr.heap.size, 5, none⟩ = some (.slice ua un uc) := (B34.out.cell 5).trans rfl
      have z6_34 : G34.cell? ⟨wr.heap.size, 6, none⟩ = some (.slice xa xn xc) := (B34.out.cell 6).trans rfl
      have z7_34 : G34.cell? ⟨wr.heap.size, 7, none⟩ = some (.slice ra rn rc) := (B34.out.cell 7).trans rfl
      clear hw m34
      refine ⟨_, rfl, ?_⟩
      refine hK.out _ _ trivial (fun hHeld => ?_)
      clear hK K
      try simp only [pz0, pz2, pz3, pz4]
      refine wpAnyH_ready (rs := [11]) (by kernel_rfl) (by simp) ?_
      refine arz (qClS5 _) rfl (fun K hK => ?_) AllReadyH.nil
      unfold qClS5
      refine step_call (by rfl) (.tmp 32) 33 (by rfl) (by rfl) enter70 ?_
      refine (clone_bytes (hqR.out.ext k34.out) hrn.out).mono ?_
      rintro e G35 ⟨⟨aR, cR, rfl, hw⟩, m35⟩
      have k35 := Lib.hid (k34.out.trans (m35.mono k34.out.size))
      have B35 := Lib.hid (B34.out.below m35 B34.out.lt)
      have O35 := Lib.hid (O34.out.ext m35)
      have R35 := Lib.hid (hw.mono (Nat.le_trans hk7.out.size k34.out.size))
      have U35 := Lib.hid (U34.out.ext m35)
      have X35 := Lib.hid (X34.out.ext m35)
      have z4_35 : G35.cell? ⟨wr.heap.size, 4, none⟩ = some (.slice ma mn mc) := (B35.out.cell 4).trans rfl
      have z5_35 : G35.cell? ⟨wr.heap.size, 5, none⟩ = some (.slice ua un uc) := (B35.out.cell 5).trans rfl
      have z6_35 : G35.cell? ⟨wr.heap.size, 6, none⟩ = some (.slice xa xn xc) := (B35.out.cell 6).trans rfl
      have z7_35 : G35.cell? ⟨wr.heap.size, 7, none⟩ = some (.slice ra rn rc) := (B35.out.cell 7).trans rfl
      have f4_35 : G35.frozen? ⟨wr.heap.size, 4, none⟩ = false := by rw [B35.out.frozen]; try simp
      have f5_35 : G35.frozen? ⟨wr.heap.size, 5, none⟩ = false := by rw [B35.out.frozen]; try simp
      have f6_35 : G35.frozen? ⟨wr.heap.size, 6, none⟩ = false := by rw [B35.out.frozen]; try simp
      have f7_35 : G35.frozen? ⟨wr.heap.size, 7, none⟩ = false := by rw [B35.out.frozen]; try simp
      clear hw m35
      refine ⟨_, rfl, ?_⟩
      refine hK.out _ _ trivial (fun hHeld => ?_)
      clear hK K
      try simp only [pz0, pz2, pz3, pz4]
      refine tkz 12 (qClS6 _) ?_ rfl ?_ ?_
      rotate_left
      ·intro w hSw
       unfold qClS6
       go_simp
       first | done | with_reducible rfl
      try simp only [qClS6, pz0, pz2, pz3, pz4]
      refine tkz 13 (qClS7 _) ?_ rfl ?_ ?_
      rotate_left
      ·intro w hSw
       unfold qClS7
       go_simp
       first | done | with_reducible rfl
      try simp only [qClS7, pz0, pz2, pz3, pz4]
      refine wpAnyH_ready (rs := [14]) (by kernel_rfl) (by simp) ?_
      refine arz (qClS8 _) rfl (fun K hK => ?_) AllReadyH.nil
      unfold qClS8
      go_simp
      obtain ⟨Y, hV⟩ : ∃ V, (((G35.setCell ⟨wr.heap.size, 4, none⟩ (.slice none 0 0)).setCell ⟨wr.heap.size, 5, none⟩ (.slice aU un cU)).setCell ⟨wr.heap.size, 6, none⟩ (.slice aX xn cX)).setCell ⟨wr.heap.size, 7, none⟩ (.slice aR rn cR) = V := ⟨_, rfl⟩
      rw [hV]
      have hgV : G35.grownBy Y (some wr.heap.size) := by rw [← hV]; exact grown_trans (grown_trans (grown_trans (grown_set _ _ _ _) (grown_set _ _ _ _)) (grown_set _ _ _ _)) (grown_set _ _ _ _)
      have yB : Hid (Blk Y wr.heap.size 37 (0, 0) [.slice aO on cO, .int .u16 ty, .int .u16 cl, .int .u32 ttl, .slice none 0 0, .slice aU un cU, .slice aX xn cX, .slice aR rn cR]) := Lib.hid (by rw [← hV]; exact (((B35.out.set 4 _).set 5 _).set 6 _).set 7 _)
      have yO := Lib.hid (own_store O35.out B35.out (by decide) hgV)
      have yU := Lib.hid (own_store U35.out B35.out (by decide) hgV)
      have yX := Lib.hid (own_store X35.out B35.out (by decide) hgV)
      have yR := Lib.hid (own_store R35.out B35.out (by decide) hgV)
      have yb : Hid (Below wr.heap.size wr Y) := Lib.hid ((hk7.out.trans (k35.out.mono hk7.out.size)).grown hgV (Nat.le_trans hk7.out.size k35.out.size) (fun j hj => by cases hj; exact Nat.le_refl _))
      clear hV hgV
      refine hK.out _ _ trivial (fun hHeld => ?_)
      clear hK K
      refine wpAnyH_done (by kernel_rfl) ?_ _
      refine NoPanic.normal ?_
      go_wp2_with fail
      go_meet
      exact ⟨_, _, _, _, _, _, rfl, yB, yO, yU, yX, yR, yb⟩
     refine arz (qClS2 _) rfl (fun K hK => ?_) AllReadyH.nil
     unfold qClS2
     go_simp
     refine hK.out _ _ trivial (fun hHeld => ?_)
     clear hK K
     try simp only [pz0, pz2, pz3, pz4]
     refine wpAnyH_ready (rs := [3]) (by kernel_rfl) (by simp) ?_
     refine arz (qClS1 _) rfl (fun K hK => ?_) AllReadyH.nil
     unfold qClS1
     refine step_call (by rfl) (.tmp 24) 32 (by rfl) (by rfl) enter68 ?_
     refine (clone_u32 (hqU.out.ext k0.out) hun.out).mono ?_
     rintro e G36 ⟨⟨aU, cU, rfl, hw⟩, m36⟩
     have k36 := Lib.hid (k0.out.trans (m36.mono k0.out.size))
     have B36 := Lib.hid (B0.out.below m36 B0.out.lt)
     have O36 := Lib.hid (O0.out.ext m36)
     have U36 := Lib.hid (hw.mono (Nat.le_trans hk7.out.size k0.out.size))
     have z5_36 : G36.cell? ⟨wr.heap.size, 5, none⟩ = some (.slice ua un uc) := (B36.out.cell 5).trans rfl
     have z6_36 : G36.cell? ⟨wr.heap.size, 6, none⟩ = some (.slice xa xn xc) := (B36.out.cell 6).trans rfl
     have z7_36 : G36.cell? ⟨wr.heap.size, 7, none⟩ = some (.slice ra rn rc) := (B36.out.cell 7).trans rfl
     clear hw m36
     refine ⟨_, rfl, ?_⟩
     refine hK.out _ _ trivial (fun hHeld => ?_)
     clear hK K
     try simp only [pz0, pz2, pz3, pz4]
     refine wpAnyH_ready (rs := [7]) (by kernel_rfl) (by simp) ?_
     refine arz (qClS3 _) rfl (fun K hK => ?_) AllReadyH.nil
     unfold qClS3
     refine step_call (by rfl) (.tmp 28) 25 (by rfl) (by rfl) enter69 ?_
     refine (clone_strs (hqX.out.ext k36.out) hxn.out).mono ?_
     rintro e G37 ⟨⟨aX, cX, rfl, hw⟩, m37⟩
     have k37 := Lib.hid (k36.out.trans (m37.mono k36.out.size))
     have B37 := Lib.hid (B36.out.below m37 B36.out.lt)
     have O37 := Lib.hid (O36.out.ext m37)
     have X37 := Lib.hid (hw.mono (Nat.le_trans hk7.out.size k36.out.size))
     have U37 := Lib.hid (U36.out.ext m37)
     have z5_37 : G37.cell? ⟨wr.heap.size, 5, none⟩ = some (.slice ua un uc) := (B37.out.cell 5).trans rfl
     have z6_37 : G37.cell? ⟨wr.heap.size, 6, none⟩ = some (.slice xa xn xc) := (B37.out.cell 6).trans rfl
     have z7_37 : G37.cell? ⟨wr.heap.size, 7, none⟩ = some (.slice ra rn rc) := (B37.out.cell 7).trans rfl
     clear hw m37
     refine ⟨_, rfl, ?_⟩
     refine hK.out _ _ trivial (fun hHeld => ?_)
     clear hK K
     try simp only [pz0, pz2, pz3, pz4]
     refine wpAnyH_ready (rs := [11]) (by kernel_rfl) (by simp) ?_
     refine arz (qClS5 _) rfl (fun K hK => ?_) AllReadyH.nil
     unfold qClS5
     refine step_call (by rfl) (.tmp 32) 33 (by rfl) (by rfl) enter70 ?_
     refine (clone_bytes (hqR.out.ext k37.out) hrn.out).mono ?_
     rintro e G38 ⟨⟨aR, cR, rfl, hw⟩, m38⟩
     have k38 := Lib.hid (k37.out.trans (m38.mono k37.out.size))
     have B38 := Lib.hid (B37.out.below m38 B37.out.lt)
     have O38 := Lib.hid (O37.out.ext m38)
     have R38 := Lib.hid (hw.mono (Nat.le_trans hk7.out.size k37.out.size))
     have U38 := Lib.hid (U37.out.ext m38)
     have X38 := Lib.hid (X37.out.ext m38)
     have z4_38 : G38.cell? ⟨wr.heap.size, 4, none⟩ = some (.slice ma mn mc) := (B38.out.cell 4).trans rfl
     have z5_38 : G38.cell? ⟨wr.heap.size, 5, none⟩ = some (.slice ua un uc) := (B38.out.cell 5).trans rfl
     have z6_38 : G38.cell? ⟨wr.heap.size, 6, none⟩ = some (.slice xa xn xc) := (B38.out.cell 6).trans rfl
     have z7_38 : G38.cell? ⟨wr.heap.size, 7, none⟩ = some (.slice ra rn rc) := (B38.out.cell 7).trans rfl
     have f4_38 : G38.frozen? ⟨wr.heap.size, 4, none⟩ = false := by rw [B38.out.frozen]; try simp
     have f5_38 : G38.frozen? ⟨wr.heap.size, 5, none⟩ = false := by rw [B38.out.frozen]; try simp
     have f6_38 : G38.frozen? ⟨wr.heap.size, 6, none⟩ = false := by rw [B38.out.frozen]; try simp
     have f7_38 : G38.frozen? ⟨wr.heap.size, 7, none⟩ = false := by rw [B38.out.frozen]; try simp
     clear hw m38
     refine ⟨_, rfl, ?_⟩
     refine hK.out _ _ trivial (fun hHeld => ?_)
     clear hK K
     try simp only [pz0, pz2, pz3, pz4]
     refine tkz 12 (qClS6 _) ?_ rfl ?_ ?_
     rotate_left
     ·intro w hSw
      unfold qClS6
      go_simp
      first | done | with_reducible rfl
     try simp only [qClS6, pz0, pz2, pz3, pz4]
     refine tkz 13 (qClS7 _) ?_ rfl ?_ ?_
     rotate_left
     ·intro w hSw
      unfold qClS7
      go_simp
      first | done | with_reducible rfl
     try simp only [qClS7, pz0, pz2, pz3, pz4]
     refine wpAnyH_ready (rs := [14]) (by kernel_rfl) (by simp) ?_
     refine arz (qClS8 _) rfl (fun K hK => ?_) AllReadyH.nil
     unfold qClS8
     go_simp
     obtain ⟨Y, hV⟩ : ∃ V, (((G38.setCell ⟨wr.heap.size, 4, none⟩ (.slice none 0 0)).setCell ⟨wr.heap.size, 5, none⟩ (.slice aU un cU)).setCell ⟨wr.heap.size, 6, none⟩ (.slice aX xn cX)).setCell ⟨wr.heap.size, 7, none⟩ (.slice aR rn cR) = V := ⟨_, rfl⟩
     rw [hV]
     have hgV : G38.grownBy Y (some wr.heap.size) := by rw [← hV]; exact grown_trans (grown_trans (grown_trans (grown_set _ _ _ _) (grown_set _ _ _ _)) (grown_set _ _ _ _)) (grown_set _ _ _ _)
     have yB : Hid (Blk Y wr.heap.size 37 (0, 0) [.slice aO on cO, .int .u16 ty, .int .u16 cl, .int .u32 ttl, .slice none 0 0, .slice aU un cU, .slice aX xn cX, .slice aR rn cR]) := Lib.hid (by rw [← hV]; exact (((B38.out.set 4 _).set 5 _).set 6 _).set 7 _)
     have yO := Lib.hid (own_store O38.out B38.out (by decide) hgV)
     have yU := Lib.hid (own_store U38.out B38.out (by decide) hgV)
     have yX := Lib.hid (own_store X38.out B38.out (by decide) hgV)
     have yR := Lib.hid (own_store R38.out B38.out (by decide) hgV)
     have yb : Hid (Below wr.heap.size wr Y) := Lib.hid ((hk7.out.trans (k38.out.mono hk7.out.size)).grown hgV (Nat.le_trans hk7.out.size k38.out.size) (fun j hj => by cases hj; exact Nat.le_refl _))
     clear hV hgV
     refine hK.out _ _ trivial (fun hHeld => ?_)
     clear hK K
     refine wpAnyH_done (by kernel_rfl) ?_ _
     refine NoPanic.normal ?_
     go_wp2_with fail
     go_meet
     exact ⟨_, _, _, _, _, _, rfl, yB, yO, yU, yX, yR, yb⟩
    refine arz (qClS2 _) rfl (fun K hK => ?_) AllReadyH.nil
    unfold qClS2
    go_simp
    refine hK.out _ _ trivial (fun hHeld => ?_)
    clear hK K
    try simp only [pz0, pz2, pz3, pz4]
    refine wpAnyH_ready (rs := [2]) (by kernel_rfl) (by simp) ?_
    refine arz (qClS0 _) rfl (fun K hK => ?_) AllReadyH.nil
    unfold qClS0
    go_simp
    refine hK.out _ _ trivial (fun hHeld => ?_)
    clear hK K
    try simp only [pz0, pz2, pz3, pz4]
    refine wpAnyH_ready (rs := [3]) (by kernel_rfl) (by simp) ?_
    refine arz (qClS1 _) rfl (fun K hK => ?_) AllReadyH.nil
    unfold qClS1
    refine step_call (by rfl) (.tmp 24) 32 (by rfl) (by rfl) enter68 ?_
    refine (clone_u32 (hqU.out.ext k0.out) hun.out).mono ?_
    rintro e G39 ⟨⟨aU, cU, rfl, hw⟩, m39⟩
    have k39 := Lib.hid (k0.out.trans (m39.mono k0.out.size))
    have B39 := Lib.hid (B0.out.below m39 B0.out.lt)
    have O39 := Lib.hid (O0.out.ext m39)
    have U39 := Lib.hid (hw.mono (Nat.le_trans hk7.out.size k0.out.size))
    have z5_39 : G39.cell? ⟨wr.heap.size, 5, none⟩ = some (.slice ua un uc) := (B39.out.cell 5).trans rfl
    have z6_39 : G39.cell? ⟨wr.heap.size, 6, none⟩ = some (.slice xa xn xc) := (B39.out.cell 6).trans rfl
    have z7_39 : G39.cell? ⟨wr.heap.size, 7, none⟩ = some (.slice ra rn rc) := (B39.out.cell 7).trans rfl
    clear hw m39
    refine ⟨_, rfl, ?_⟩
    refine hK.out _ _ trivial (fun hHeld => ?_)
    clear hK K
    try simp only [pz0, pz2, pz3, pz4]
    refine wpAnyH_ready (rs := [7]) (by kernel_rfl) (by simp) ?_
    refine arz (qClS3 _) rfl (fun K hK => ?_) AllReadyH.nil
    unfold qClS3
    refine step_call (by rfl) (.tmp 28) 25 (by rfl) (by rfl) enter69 ?_
    refine (clone_strs (hqX.out.ext k39.out) hxn.out).mono ?_
    rintro e G40 ⟨⟨aX, cX, rfl, hw⟩, m40⟩
    have k40 := Lib.hid (k39.out.trans (m40.mono k39.out.size))
    have B40 := Lib.hid (B39.out.below m40 B39.out.lt)
    have O40 := Lib.hid (O39.out.ext m40)
    have X40 := Lib.hid (hw.mono (Nat.le_trans hk7.out.size k39.out.size))
    have U40 := Lib.hid (U39.out.ext m40)
    have z5_40 : G40.cell? ⟨wr.heap.size, 5, none⟩ = some (.slice ua un uc) := (B40.out.cell 5).trans rfl
    have z6_40 : G40.cell? ⟨wr.heap.size, 6, none⟩ = some (.slice xa xn xc) := (B40.out.cell 6).trans rfl
    have z7_40 : G40.cell? ⟨wr.heap.size, 7, none⟩ = some (.slice ra rn rc) := (B40.out.cell 7).trans rfl
    clear hw m40
    refine ⟨_, rfl, ?_⟩
    refine hK.out _ _ trivial (fun hHeld => ?_)
    clear hK K
    try simp only [pz0, pz2, pz3, pz4]
    refine wpAnyH_ready (rs := [11]) (by kernel_rfl) (by simp) ?_
    refine arz (qClS5 _) rfl (fun K hK => ?_) AllReadyH.nil
    unfold qClS5
    refine step_call (by rfl) (.tmp 32) 33 (by rfl) (by rfl) enter70 ?_
    refine (clone_bytes (hqR.out.ext k40.out) hrn.out).mono ?_
    rintro e G41 ⟨⟨aR, cR, rfl, hw⟩, m41⟩
    have k41 := Lib.hid (k40.out.trans (m41.mono k40.out.size))
    have B41 := Lib.hid (B40.out.below m41 B40.out.lt)
    have O41 := Lib.hid (O40.out.ext m41)
    have R41 := Lib.hid (hw.mono (Nat.le_trans hk7.out.size k40.out.size))
    have U41 := Lib.hid (U40.out.ext m41)
    have X41 := Lib.hid (X40.out.ext m41)
    have z4_41 : G41.cell? ⟨wr.heap.size, 4, none⟩ = some (.slice ma mn mc) := (B41.out.cell 4).trans rfl
    have z5_41 : G41.cell? ⟨wr.heap.size, 5, none⟩ = some (.slice ua un uc) := (B41.out.cell 5).trans rfl
    have z6_41 : G41.cell? ⟨wr.heap.size, 6, none⟩ = some (.slice xa xn xc) := (B41.out.cell 6).trans rfl
    have z7_41 : G41.cell? ⟨wr.heap.size, 7, none⟩ = some (.slice ra rn rc) := (B41.out.cell 7).trans rfl
    have f4_41 : G41.frozen? ⟨wr.heap.size, 4, none⟩ = false := by rw [B41.out.frozen]; try simp
    have f5_41 : G41.frozen? ⟨wr.heap.size, 5, none⟩ = false := by rw [B41.out.frozen]; try simp
    have f6_41 : G41.frozen? ⟨wr.heap.size, 6, none⟩ = false := by rw [B41.out.frozen]; try simp
    have f7_41 : G41.frozen? ⟨wr.heap.size, 7, none⟩ = false := by rw [B41.out.frozen]; try simp
    clear hw m41
    refine ⟨_, rfl, ?_⟩
    refine hK.out _ _ trivial (fun hHeld => ?_)
    clear hK K
    try simp only [pz0, pz2, pz3, pz4]
    refine tkz 12 (qClS6 _) ?_ rfl ?_ ?_
    rotate_left
    ·intro w hSw
     unfold qClS6
     go_simp
     first | done | with_reducible rfl
    try simp only [qClS6, pz0, pz2, pz3, pz4]
    refine tkz 13 (qClS7 _) ?_ rfl ?_ ?_
    rotate_left
    ·intro w hSw
     unfold qClS7
     go_simp
     first | done | with_reducible rfl
    try simp only [qClS7, pz0, pz2, pz3, pz4]
    refine wpAnyH_ready (rs := [14]) (by kernel_rfl) (by simp) ?_
    refine arz (qClS8 _) rfl (fun K hK => ?_) AllReadyH.nil
    unfold qClS8
    go_simp
    obtain ⟨Y, hV⟩ : ∃ V, (((G41.setCell ⟨wr.heap.size, 4, none⟩ (.slice none 0 0)).setCell ⟨wr.heap.size, 5, none⟩ (.slice aU un cU)).setCell ⟨wr.heap.size, 6, none⟩ (.slice aX xn cX)).setCell ⟨wr.heap.size, 7, none⟩ (.slice aR rn cR) = V := ⟨_, rfl⟩
    rw [hV]
    have hgV : G41.grownBy Y (some wr.heap.size) := by rw [← hV]; exact grown_trans (grown_trans (grown_trans (grown_set _ _ _ _) (grown_set _ _ _ _)) (grown_set _ _ _ _)) (grown_set _ _ _ _)
    have yB : Hid (Blk Y wr.heap.size 37 (0, 0) [.slice aO on cO, .int .u16 ty, .int .u16 cl, .int .u32 ttl, .slice none 0 0, .slice aU un cU, .slice aX xn cX, .slice aR rn cR]) := Lib.hid (by rw [← hV]; exact (((B41.out.set 4 _).set 5 _).set 6 _).set 7 _)
    have yO := Lib.hid (own_store O41.out B41.out (by decide) hgV)
    have yU := Lib.hid (own_store U41.out B41.out (by decide) hgV)
    have yX := Lib.hid (own_store X41.out B41.out (by decide) hgV)
    have yR := Lib.hid (own_store R41.out B41.out (by decide) hgV)
    have yb : Hid (Below wr.heap.size wr Y) := Lib.hid ((hk7.out.trans (k41.out.mono hk7.out.size)).grown hgV (Nat.le_trans hk7.out.size k41.out.size) (fun j hj => by cases hj; exact Nat.le_refl _))
    clear hV hgV
    refine hK.out _ _ trivial (fun hHeld => ?_)
    clear hK K
    refine wpAnyH_done (by kernel_rfl) ?_ _
    refine NoPanic.normal ?_
    go_wp2_with fail
    go_meet
    exact ⟨_, _, _, _, _, _, rfl, yB, yO, yU, yX, yR, yb⟩
   case rest =>
    obtain ⟨aU, cU, aX, cX, aR, cR, rfl, hB8, hO9, hU9, hX9, hR9, hk8⟩ := hcut
    have hNm : Hid (RdN wr ma mn mc L.nm) := Lib.hid hrec.out.nm
    have hnl := Lib.hid hNm.out.len
    have hmn : Hid (mn * 24 ≤ 140737488355304) := Lib.hid (by obtain ⟨ps, _, _, h4, _⟩ := hNm.out; unfold reachBytes at h4; omega)
    have hmnI : (mn : Int) ≤ 9223372036854775806 := by have := hmn.out; omega
    clear hrec7 hO7 hO8 hR7 hk7 hun hxn hrn hon h5le
    obtain ⟨wo, hwo⟩ : ∃ W, W = wr := ⟨_, rfl⟩
    subst hwo
    go_upto_region 9 with (fail)
    go_loopw [38] (fun i wi => ∃ (j : Nat) (v4 : Value), j ≤ mn ∧ i = .int .i64 j ∧ Hid (Blk wi wo.heap.size 37 (0, 0) [.slice aO on cO, .int .u16 ty, .int .u16 cl, .int .u32 ttl, v4, .slice aU un cU, .slice aX xn cX, .slice aR rn cR]) ∧ Hid (OwnN wi wo.heap.size v4 (L.nm.take j)) ∧ Hid (Own strE wi wo.heap.size (.slice aO on cO) L.ow) ∧ Hid (Own u32E wi wo.heap.size (.slice aU un cU) L.nu) ∧ Hid (Own strE wi wo.heap.size (.slice aX xn cX) L.tx) ∧ Hid (Own byteE wi wo.heap.size (.slice aR rn cR) L.raw) ∧ Hid (Below wo.heap.size wo wi)) (fun i _ => mn - (intOf i).toNat)
    case atStart => exact ⟨0, _, Nat.zero_le _, rfl, hB8, Lib.hid (OwnN.nil _ _), hO9, hU9, hX9, hR9, hk8⟩
    case round =>
     clear hB8 hO9 hU9 hX9 hR9 hk8
     obtain ⟨j, v4, hj, rfl, hB, hN, hO, hU, hX, hR, hkw⟩ := hrel
     obtain ⟨a4, c4, rfl⟩ := hN.out.shape
     by_cases hjl : j < mn
     ·obtain ⟨bb, o2, rfl, hbb, hcs⟩ := (hNm.out.ext hkw.out).at_ (by omega)
      obtain ⟨ax, nx, cx, r1, r2⟩ := hcs j (by rw [hnl.out]; exact hjl)
      have e0 := r2.1.len
      subst e0
      have hjI : (j : Int) < mn := by omega
      have hj0 : 0 ≤ (j : Int) := by omega
      have htl : (L.nm.take j).length = j := by rw [List.length_take, hnl.out]; omega
      have htk : L.nm.take (j + 1) = L.nm.take j ++ [L.nm[j]'(by rw [hnl.out]; exact hjl)] := List.take_succ_eq_append_getElem _
      have htk' := Lib.hid htk
      generalize L.nm[j]'(by rw [hnl.out]; exact hjl) = Y at *
      have htl' := Lib.hid htl
      replace hN : Hid (OwnN wr wo.heap.size (.slice a4 j c4) (L.nm.take j)) := Lib.hid (by have := hN.out; rw [htl] at this; exact this)
      rw [htl] at hB
      have r2' := Lib.hid r2
      have hnx : Hid (Y.length * 16 ≤ 140737488355328) := Lib.hid (by have := r2.2.2; unfold reachBytes at this; omega)
      have hkA : Hid (j * 24 ≤ 140737488355304) := Lib.hid (by have := hmn.out; omega)
      clear hcs r2 htk htl
      go_upto_region 11 with (fail)
      refine wp_region_noPanic ?_
      refine wp_region_held_drew (S := fun _ => True) (by kernel_rfl) trivial (fun hHeld => ?_)
      have k0 : Hid (Below wr.heap.size wr wr.drew) := Lib.hid (Below.refl _ _).drew
      have t0 : wr.drew.cell? ⟨wo.heap.size, 4, none⟩ = some (.slice a4 j c4) := (hB.out.cell 4).trans rfl
      generalize wr.drew = U0 at *
      refine tkz 0 ({ dst := some 42, op := Op.fieldAddr 37 (Operand.tmp 5) 4, type := 0, pos := _, after := #[], guard := none }) ?_ rfl ?_ ?_
      rotate_left
      ·intro w hSw
       go_simp
       first | done | with_reducible rfl
      try simp only [pz0, pz2, pz3, pz4]
      refine tkz 1 ({ dst := some 43, op := Op.fieldAddr 35 (Operand.tmp 42) 0, type := 0, pos := _, after := #[{ on := 0, ground := Ground.data }], guard := none }) ?_ rfl ?_ ?_
      rotate_left
      ·intro w hSw
       go_simp
       first | done | with_reducible rfl
      try simp only [pz0, pz2, pz3, pz4]
      refine tkz 3 ({ dst := some 45, op := Op.move (Operand.tmp 8), type := 26, pos := _, after := #[], guard := none }) ?_ rfl ?_ ?_
      rotate_left
      ·intro w hSw
       go_simp
       first | done | with_reducible rfl
      try simp only [pz0, pz2, pz3, pz4]
      refine wpAnyH_ready (rs := [2, 4]) (by kernel_rfl) (by simp) ?_
      refine arz (qClS9 _) rfl (fun K hK => ?_) ?_
      ·unfold qClS9
       go_simp
       refine hK.out _ _ trivial (fun hHeld => ?_)
       clear hK K
       try simp only [pz0, pz2, pz3, pz4]
       refine wpAnyH_ready (rs := [4]) (by kernel_rfl) (by simp) ?_
       refine arz (qClS10 _) rfl (fun K hK => ?_) AllReadyH.nil
       unfold qClS10
       refine step_call (by rfl) (.tmp 45) 26 (by rfl) (by rfl) enter67 ?_
       refine (clone_name (r2'.out.1.ext k0.out) hnx.out).mono ?_
       rintro e D1 ⟨⟨aY, cY, rfl, hY⟩, m1⟩
       have Y1 := Lib.hid (hY.mono (Nat.le_trans hkw.out.size k0.out.size))
       have k1 := Lib.hid (k0.out.trans (m1.mono k0.out.size))
       clear hY m1
       have t1 : D1.cell? ⟨wo.heap.size, 4, none⟩ = some (.slice a4 j c4) := ((hB.out.below k1.out hB.out.lt).cell 4).trans rfl
       refine ⟨_, rfl, ?_⟩
       refine hK.out _ _ trivial (fun hHeld => ?_)
       clear hK K
       try simp only [pz0, pz2, pz3, pz4]
       refine wpAnyH_ready (rs := [5]) (by kernel_rfl) (by simp) ?_
       refine arz (qClS11 _) rfl (fun K hK => ?_) AllReadyH.nil
       unfold qClS11
       go_simp
       obtain ⟨D2, e2⟩ : ∃ U, D1.alloc (.cells #[.slice aY Y.length cY] 26) = U := ⟨_, rfl⟩
       have m2 : Hid (Below D1.heap.size D1 D2) := Lib.hid (by rw [← e2]; exact alloc_bel _ _)
       have L2 : Hid (Blk D2 D1.heap.size 26 (0, 0) [.slice aY Y.length cY]) := Lib.hid (by rw [← e2]; exact Blk.new D1 26 (0, 0) #[.slice aY Y.length cY])
       have k2 := Lib.hid (k1.out.trans (m2.out.mono k1.out.size))
       have t2 : D2.cell? ⟨wo.heap.size, 4, none⟩ = some (.slice a4 j c4) := ((hB.out.below k2.out hB.out.lt).cell 4).trans rfl
       rw [e2]
       clear e2
       refine hK.out _ _ trivial (fun hHeld => ?_)
       clear hK K
       try simp only [pz0, pz2, pz3, pz4]
       refine wpAnyH_ready (rs := [6]) (by kernel_rfl) (by simp) ?_
       refine arz (qClS12 _) rfl (fun K hK => ?_) AllReadyH.nil
       unfold qClS12
       refine step_nm (W0 := D1) (base := wo.heap.size) (by rfl) (.tmp 44) (.tmp 47) (by rfl) htl'.out (hN.out.ext k1.out) Y1.out L2.out m2.out (Nat.le_trans hkw.out.size k1.out.size) hkA.out (by rfl) (by rfl) ?_
       intro a9 c9 D3 hn3 hg3
       have hn3 := Lib.hid hn3
       have ho3 := hN.out.ext k2.out
       have w3 := Lib.hid (ownN_below (B := wo.heap.size) (hkw.out.trans (k2.out.mono hkw.out.size)) hg3 ho3 (Nat.le_trans hkw.out.size k2.out.size) (Nat.le_refl _))
       have b3 := Lib.hid (blk_ownN (hB.out.below k2.out hB.out.lt) ho3 (by decide) hg3)
       have oo3 := Lib.hid (ownN_grown (hO.out.ext k2.out) ho3 (by decide) hg3)
       have uu3 := Lib.hid (ownN_grown (hU.out.ext k2.out) ho3 (by decide) hg3)
       have xx3 := Lib.hid (ownN_grown (hX.out.ext k2.out) ho3 (by decide) hg3)
       have rr3 := Lib.hid (ownN_grown (hR.out.ext k2.out) ho3 (by decide) hg3)
       have t3 : D3.cell? ⟨wo.heap.size, 4, none⟩ = some (.slice a4 j c4) := (b3.out.cell 4).trans rfl
       have f3 : D3.frozen? ⟨wo.heap.size, 4, none⟩ = false := by rw [b3.out.frozen]; try simp
       clear ho3 hg3
       refine hK.out _ _ trivial (fun hHeld => ?_)
       clear hK K
       try simp only [pz0, pz2, pz3, pz4]
       refine tkz 7 (qClS13 _) ?_ rfl ?_ ?_
       rotate_left
       ·intro w hSw
        unfold qClS13
        go_simp
        first | done | with_reducible rfl
       try simp only [qClS13, pz0, pz2, pz3, pz4]
       refine tkz 8 (qClS14 _) ?_ rfl ?_ ?_
       rotate_left
       ·intro w hSw
        unfold qClS14
        go_simp
        first | done | with_reducible rfl
       try simp only [qClS14, pz0, pz2, pz3, pz4]
       refine wpAnyH_ready (rs := [9]) (by kernel_rfl) (by simp) ?_
       refine arz (qClS15 _) rfl (fun K hK => ?_) AllReadyH.nil
       unfold qClS15
       go_simp
       obtain ⟨Z, hV⟩ : ∃ V, D3.setCell ⟨wo.heap.size, 4, none⟩ (.slice a9 (j + 1) c9) = V := ⟨_, rfl⟩
       rw [hV]
       have hgV : D3.grownBy Z (some wo.heap.size) := by rw [← hV]; exact grown_set _ _ _ _
       have yB : Hid (Blk Z wo.heap.size 37 (0, 0) [.slice aO on cO, .int .u16 ty, .int .u16 cl, .int .u32 ttl, .slice a9 (j + 1) c9, .slice aU un cU, .slice aX xn cX, .slice aR rn cR]) := Lib.hid (by rw [← hV]; exact b3.out.set 4 _)
       have yN : Hid (OwnN Z wo.heap.size (.slice a9 (j + 1) c9) (L.nm.take (j + 1))) := Lib.hid (by rw [htk'.out]; exact ownN_store hn3.out b3.out (by decide) (by decide) hgV)
       have yO := Lib.hid (own_store oo3.out b3.out (by decide) hgV)
       have yU := Lib.hid (own_store uu3.out b3.out (by decide) hgV)
       have yX := Lib.hid (own_store xx3.out b3.out (by decide) hgV)
       have yR := Lib.hid (own_store rr3.out b3.out (by decide) hgV)
       have yb : Hid (Below wo.heap.size wo Z) := Lib.hid (w3.out.grown hgV w3.out.size (fun jj hjj => by cases hjj; exact Nat.le_refl _))
       clear hV hgV
       refine hK.out _ _ trivial (fun hHeld => ?_)
       clear hK K
       refine wpAnyH_done (by kernel_rfl) ?_ _
       refine NoPanic.normal ?_
       go_wp2_with fail
       go_roundw
       case rel => exact ⟨j + 1, _, by omega, by go_num, yB, yN, yO, yU, yX, yR, yb⟩
       case measure => simp [intOf]; omega
      refine arz (qClS10 _) rfl (fun K hK => ?_) AllReadyH.nil
      unfold qClS10
      refine step_call (by rfl) (.tmp 45) 26 (by rfl) (by rfl) enter67 ?_
      refine (clone_name (r2'.out.1.ext k0.out) hnx.out).mono ?_
      rintro e D5 ⟨⟨aY, cY, rfl, hY⟩, m5⟩
      have Y5 := Lib.hid (hY.mono (Nat.le_trans hkw.out.size k0.out.size))
      have k5 := Lib.hid (k0.out.trans (m5.mono k0.out.size))
      clear hY m5
      have t5 : D5.cell? ⟨wo.heap.size, 4, none⟩ = some (.slice a4 j c4) := ((hB.out.below k5.out hB.out.lt).cell 4).trans rfl
      refine ⟨_, rfl, ?_⟩
      refine hK.out _ _ trivial (fun hHeld => ?_)
      clear hK K
      try simp only [pz0, pz2, pz3, pz4]
      refine wpAnyH_ready (rs := [2, 5]) (by kernel_rfl) (by simp) ?_
      refine arz (qClS9 _) rfl (fun K hK => ?_) ?_
      ·unfold qClS9
       go_simp
       refine hK.out _ _ trivial (fun hHeld => ?_)
       clear hK K
       try simp only [pz0, pz2, pz3, pz4]
       refine wpAnyH_ready (rs := [5]) (by kernel_rfl) (by simp) ?_
       refine arz (qClS11 _) rfl (fun K hK => ?_) AllReadyH.nil
       unfold qClS11
       go_simp
       obtain ⟨D6, e6⟩ : ∃ U, D5.alloc (.cells #[.slice aY Y.length cY] 26) = U := ⟨_, rfl⟩
       have m6 : Hid (Below D5.heap.size D5 D6) := Lib.hid (by rw [← e6]; exact alloc_bel _ _)
       have L6 : Hid (Blk D6 D5.heap.size 26 (0, 0) [.slice aY Y.length cY]) := Lib.hid (by rw [← e6]; exact Blk.new D5 26 (0, 0) #[.slice aY Y.length cY])
       have k6 := Lib.hid (k5.out.trans (m6.out.mono k5.out.size))
       have t6 : D6.cell? ⟨wo.heap.size, 4, none⟩ = some (.slice a4 j c4) := ((hB.out.below k6.out hB.out.lt).cell 4).trans rfl
       rw [e6]
       clear e6
       refine hK.out _ _ trivial (fun hHeld => ?_)
       clear hK K
       try simp only [pz0, pz2, pz3, pz4]
       refine wpAnyH_ready (rs := [6]) (by kernel_rfl) (by simp) ?_
       refine arz (qClS12 _) rfl (fun K hK => ?_) AllReadyH.nil
       unfold qClS12
       refine step_nm (W0 := D5) (base := wo.heap.size) (by rfl) (.tmp 44) (.tmp 47) (by rfl) htl'.out (hN.out.ext k5.out) Y5.out L6.out m6.out (Nat.le_trans hkw.out.size k5.out.size) hkA.out (by rfl) (by rfl) ?_
       intro a9 c9 D7 hn7 hg7
       have hn7 := Lib.hid hn7
       have ho7 := hN.out.ext k6.out
       have w7 := Lib.hid (ownN_below (B := wo.heap.size) (hkw.out.trans (k6.out.mono hkw.out.size)) hg7 ho7 (Nat.le_trans hkw.out.size k6.out.size) (Nat.le_refl _))
       have b7 := Lib.hid (blk_ownN (hB.out.below k6.out hB.out.lt) ho7 (by decide) hg7)
       have oo7 := Lib.hid (ownN_grown (hO.out.ext k6.out) ho7 (by decide) hg7)
       have uu7 := Lib.hid (ownN_grown (hU.out.ext k6.out) ho7 (by decide) hg7)
       have xx7 := Lib.hid (ownN_grown (hX.out.ext k6.out) ho7 (by decide) hg7)
       have rr7 := Lib.hid (ownN_grown (hR.out.ext k6.out) ho7 (by decide) hg7)
       have t7 : D7.cell? ⟨wo.heap.size, 4, none⟩ = some (.slice a4 j c4) := (b7.out.cell 4).trans rfl
       have f7 : D7.frozen? ⟨wo.heap.size, 4, none⟩ = false := by rw [b7.out.frozen]; try simp
       clear ho7 hg7
       refine hK.out _ _ trivial (fun hHeld => ?_)
       clear hK K
       try simp only [pz0, pz2, pz3, pz4]
       refine tkz 7 (qClS13 _) ?_ rfl ?_ ?_
       rotate_left
       ·intro w hSw
        unfold qClS13
        go_simp
        first | done | with_reducible rfl
       try simp only [qClS13, pz0, pz2, pz3, pz4]
       refine tkz 8 (qClS14 _) ?_ rfl ?_ ?_
       rotate_left
       ·intro w hSw
        unfold qClS14
        go_simp
        first | done | with_reducible rfl
       try simp only [qClS14, pz0, pz2, pz3, pz4]
       refine wpAnyH_ready (rs := [9]) (by kernel_rfl) (by simp) ?_
       refine arz (qClS15 _) rfl (fun K hK => ?_) AllReadyH.nil
       unfold qClS15
       go_simp
       obtain ⟨Z, hV⟩ : ∃ V, D7.setCell ⟨wo.heap.size, 4, none⟩ (.slice a9 (j + 1) c9) = V := ⟨_, rfl⟩
       rw [hV]
       have hgV : D7.grownBy Z (some wo.heap.size) := by rw [← hV]; exact grown_set _ _ _ _
       have yB : Hid (Blk Z wo.heap.size 37 (0, 0) [.slice aO on cO, .int .u16 ty, .int .u16 cl, .int .u32 ttl, .slice a9 (j + 1) c9, .slice aU un cU, .slice aX xn cX, .slice aR rn cR]) := Lib.hid (by rw [← hV]; exact b7.out.set 4 _)
       have yN : Hid (OwnN Z wo.heap.size (.slice a9 (j + 1) c9) (L.nm.take (j + 1))) := Lib.hid (by rw [htk'.out]; exact ownN_store hn7.out b7.out (by decide) (by decide) hgV)
       have yO := Lib.hid (own_store oo7.out b7.out (by decide) hgV)
       have yU := Lib.hid (own_store uu7.out b7.out (by decide) hgV)
       have yX := Lib.hid (own_store xx7.out b7.out (by decide) hgV)
       have yR := Lib.hid (own_store rr7.out b7.out (by decide) hgV)
       have yb : Hid (Below wo.heap.size wo Z) := Lib.hid (w7.out.grown hgV w7.out.size (fun jj hjj => by cases hjj; exact Nat.le_refl _))
       clear hV hgV
       refine hK.out _ _ trivial (fun hHeld => ?_)
       clear hK K
       refine wpAnyH_done (by kernel_rfl) ?_ _
       refine NoPanic.normal ?_
       go_wp2_with fail
       go_roundw
       case rel => exact ⟨j + 1, _, by omega, by go_num, yB, yN, yO, yU, yX, yR, yb⟩
       case measure => simp [intOf]; omega
      refine arz (qClS11 _) rfl (fun K hK => ?_) AllReadyH.nil
      unfold qClS11
      go_simp
      obtain ⟨D9, e9⟩ : ∃ U, D5.alloc (.cells #[.slice aY Y.length cY] 26) = U := ⟨_, rfl⟩
      have m9 : Hid (Below D5.heap.size D5 D9) := Lib.hid (by rw [← e9]; exact alloc_bel _ _)
      have L9 : Hid (Blk D9 D5.heap.size 26 (0, 0) [.slice aY Y.length cY]) := Lib.hid (by rw [← e9]; exact Blk.new D5 26 (0, 0) #[.slice aY Y.length cY])
      have k9 := Lib.hid (k5.out.trans (m9.out.mono k5.out.size))
      have t9 : D9.cell? ⟨wo.heap.size, 4, none⟩ = some (.slice a4 j c4) := ((hB.out.below k9.out hB.out.lt).cell 4).trans rfl
      rw [e9]
      clear e9
      refine hK.out _ _ trivial (fun hHeld => ?_)
      clear hK K
      try simp only [pz0, pz2, pz3, pz4]
      refine wpAnyH_ready (rs := [2]) (by kernel_rfl) (by simp) ?_
      refine arz (qClS9 _) rfl (fun K hK => ?_) AllReadyH.nil
      unfold qClS9
      go_simp
      refine hK.out _ _ trivial (fun hHeld => ?_)
      clear hK K
      try simp only [pz0, pz2, pz3, pz4]
      refine wpAnyH_ready (rs := [6]) (by kernel_rfl) (by simp) ?_
      refine arz (qClS12 _) rfl (fun K hK => ?_) AllReadyH.nil
      unfold qClS12
      refine step_nm (W0 := D5) (base := wo.heap.size) (by rfl) (.tmp 44) (.tmp 47) (by rfl) htl'.out (hN.out.ext k5.out) Y5.out L9.out m9.out (Nat.le_trans hkw.out.size k5.out.size) hkA.out (by rfl) (by rfl) ?_
      intro a9 c9 D10 hn10 hg10
      have hn10 := Lib.hid hn10
      have ho10 := hN.out.ext k9.out
      have w10 := Lib.hid (ownN_below (B := wo.heap.size) (hkw.out.trans (k9.out.mono hkw.out.size)) hg10 ho10 (Nat.le_trans hkw.out.size k9.out.size) (Nat.le_refl _))
      have b10 := Lib.hid (blk_ownN (hB.out.below k9.out hB.out.lt) ho10 (by decide) hg10)
      have oo10 := Lib.hid (ownN_grown (hO.out.ext k9.out) ho10 (by decide) hg10)
      have uu10 := Lib.hid (ownN_grown (hU.out.ext k9.out) ho10 (by decide) hg10)
      have xx10 := Lib.hid (ownN_grown (hX.out.ext k9.out) ho10 (by decide) hg10)
      have rr10 := Lib.hid (ownN_grown (hR.out.ext k9.out) ho10 (by decide) hg10)
      have t10 : D10.cell? ⟨wo.heap.size, 4, none⟩ = some (.slice a4 j c4) := (b10.out.cell 4).trans rfl
      have f10 : D10.frozen? ⟨wo.heap.size, 4, none⟩ = false := by rw [b10.out.frozen]; try simp
      clear ho10 hg10
      refine hK.out _ _ trivial (fun hHeld => ?_)
      clear hK K
      try simp only [pz0, pz2, pz3, pz4]
      refine tkz 7 (qClS13 _) ?_ rfl ?_ ?_
      rotate_left
      ·intro w hSw
       unfold qClS13
       go_simp
       first | done | with_reducible rfl
      try simp only [qClS13, pz0, pz2, pz3, pz4]
      refine tkz 8 (qClS14 _) ?_ rfl ?_ ?_
      rotate_left
      ·intro w hSw
       unfold qClS14
       go_simp
       first | done | with_reducible rfl
      try simp only [qClS14, pz0, pz2, pz3, pz4]
      refine wpAnyH_ready (rs := [9]) (by kernel_rfl) (by simp) ?_
      refine arz (qClS15 _) rfl (fun K hK => ?_) AllReadyH.nil
      unfold qClS15
      go_simp
      obtain ⟨Z, hV⟩ : ∃ V, D10.setCell ⟨wo.heap.size, 4, none⟩ (.slice a9 (j + 1) c9) = V := ⟨_, rfl⟩
      rw [hV]
      have hgV : D10.grownBy Z (some wo.heap.size) := by rw [← hV]; exact grown_set _ _ _ _
      have yB : Hid (Blk Z wo.heap.size 37 (0, 0) [.slice aO on cO, .int .u16 ty, .int .u16 cl, .int .u32 ttl, .slice a9 (j + 1) c9, .slice aU un cU, .slice aX xn cX, .slice aR rn cR]) := Lib.hid (by rw [← hV]; exact b10.out.set 4 _)
      have yN : Hid (OwnN Z wo.heap.size (.slice a9 (j + 1) c9) (L.nm.take (j + 1))) := Lib.hid (by rw [htk'.out]; exact ownN_store hn10.out b10.out (by decide) (by decide) hgV)
      have yO := Lib.hid (own_store oo10.out b10.out (by decide) hgV)
      have yU := Lib.hid (own_store uu10.out b10.out (by decide) hgV)
      have yX := Lib.hid (own_store xx10.out b10.out (by decide) hgV)
      have yR := Lib.hid (own_store rr10.out b10.out (by decide) hgV)
      have yb : Hid (Below wo.heap.size wo Z) := Lib.hid (w10.out.grown hgV w10.out.size (fun jj hjj => by cases hjj; exact Nat.le_refl _))
      clear hV hgV
      refine hK.out _ _ trivial (fun hHeld => ?_)
      clear hK K
      refine wpAnyH_done (by kernel_rfl) ?_ _
      refine NoPanic.normal ?_
      go_wp2_with fail
      go_roundw
      case rel => exact ⟨j + 1, _, by omega, by go_num, yB, yN, yO, yU, yX, yR, yb⟩
      case measure => simp [intOf]; omega
     ·have hjm : j = mn := by omega
      subst hjm
      have hfull : L.nm.take j = L.nm := List.take_of_length_le (by rw [hnl.out]; exact Nat.le_refl _)
      rw [hfull, hnl.out] at hN hB
      have y0 : wr.cell? ⟨wo.heap.size, 0, none⟩ = some (.slice aO on cO) := (hB.out.cell 0).trans rfl
      have y1 : wr.cell? ⟨wo.heap.size, 1, none⟩ = some (.int .u16 ty) := (hB.out.cell 1).trans rfl
      have y2 : wr.cell? ⟨wo.heap.size, 2, none⟩ = some (.int .u16 cl) := (hB.out.cell 2).trans rfl
      have y3 : wr.cell? ⟨wo.heap.size, 3, none⟩ = some (.int .u32 ttl) := (hB.out.cell 3).trans rfl
      have y4 : wr.cell? ⟨wo.heap.size, 4, none⟩ = some (.slice a4 j c4) := (hB.out.cell 4).trans rfl
      have y5 : wr.cell? ⟨wo.heap.size, 5, none⟩ = some (.slice aU un cU) := (hB.out.cell 5).trans rfl
      have y6 : wr.cell? ⟨wo.heap.size, 6, none⟩ = some (.slice aX xn cX) := (hB.out.cell 6).trans rfl
      have y7 : wr.cell? ⟨wo.heap.size, 7, none⟩ = some (.slice aR rn cR) := (hB.out.cell 7).trans rfl
      obtain ⟨qs, p1, p2, p3⟩ := hv.out
      have hkt : (QS.take k).length = k := by rw [List.length_take]; omega
      rw [hkt] at p1
      have hql : qs.length = k := by rw [p2, hkt]
      have hkw' := Lib.hid (hkw.out)
      have hp1 := Lib.hid (p1.ext hkw.out)
      have hp3 := Lib.hid p3
      have hp2 := Lib.hid p2
      have hnewr : Hid (OwnRec wr wo.heap.size (⟨aO, on, cO, ty, cl, ttl, a4, j, c4, aU, un, cU, aX, xn, cX, aR, rn, cR⟩ : RD) L) := Lib.hid ⟨hO.out, hN.out, hU.out, hX.out, hR.out⟩
      have hwo : Hid (w.heap.size ≤ wo.heap.size) := Lib.hid hb.out.size
      obtain ⟨V1, hV1⟩ : ∃ V, wr.alloc (.cells #[.slice aO on cO, .int .u16 ty, .int .u16 cl, .int .u32 ttl, .slice a4 j c4, .slice aU un cU, .slice aX xn cX, .slice aR rn cR] 37) = V := ⟨_, rfl⟩
      have hkV : Hid (Below wr.heap.size wr V1) := Lib.hid (by rw [← hV1]; exact alloc_bel _ _)
      have hBV : Hid (Blk V1 wr.heap.size 37 (0, 0) [.slice aO on cO, .int .u16 ty, .int .u16 cl, .int .u32 ttl, .slice a4 j c4, .slice aU un cU, .slice aX xn cX, .slice aR rn cR]) := Lib.hid (by rw [← hV1]; exact Blk.new wr 37 (0, 0) #[.slice aO on cO, .int .u16 ty, .int .u16 cl, .int .u32 ttl, .slice a4 j c4, .slice aU un cU, .slice aX xn cX, .slice aR rn cR])
      obtain ⟨i0, hi7, hq0, hq1, hq2⟩ := info_parts Try.info37
      have hsrc : Src Try.prog recE.k 55 (.slice (some ⟨wr.heap.size, 0, none⟩) 1 1) 1 (rowOf recE [(⟨aO, on, cO, ty, cl, ttl, a4, j, c4, aU, un, cU, aX, xn, cX, aR, rn, cR⟩ : RD)]) V1 := (rd_blk (E := recE) (X := [(⟨aO, on, cO, ty, cl, ttl, a4, j, c4, aU, un, cU, aX, xn, cX, aR, rn, cR⟩ : RD)]) (fz := (0, 0)) hBV.out 1 rfl (by decide)).src (P := Try.prog) (tx := 55) Try.underlying55
      have hsz1 : Hid (w.heap.size ≤ V1.heap.size) := Lib.hid (Nat.le_trans hwo.out (Nat.le_trans hkw.out.size hkV.out.size))
      have hnbx := hnb.out
      clear p1 p2 p3 hv hfull
      go_wp2_with (at_builtin; refine app_own (E := recE) (l := qs) (news := [(⟨aO, on, cO, ty, cl, ttl, a4, j, c4, aU, un, cU, aX, xn, cX, aR, rn, cR⟩ : RD)]) (base := w.heap.size) rfl (.tmp 52) (.tmp 54) 55 55 rfl Try.underlying55 hi7 hq0 hq1 hq2 rfl rfl (hp1.out.ext hkV.out) rfl hsrc (by simp [maxLen]; omega) (by simp; omega) hsz1.out ?_)
      intro v9 w9 ho9 hg9 _
      have hown9 := OwnRs.app (QS := QS.take k) (LS := LS.take k) (hp1.out.ext hkV.out) hp2.out (by simp; omega) (fun jj q q0 LL h1 h2 h3 => ⟨((hp3.out jj q q0 LL h1 h2 h3).1.ext hkw.out).ext hkV.out, (hp3.out jj q q0 LL h1 h2 h3).2⟩) (q0 := ⟨oa, on, oc, ty, cl, ttl, ma, j, mc, ua, un, uc, xa, xn, xc, ra, rn, rc⟩) ⟨(hnewr.out.mono hwo.out).ext hkV.out, rfl, rfl, rfl⟩ ho9 hg9
      have eQ : QS.take k ++ [⟨oa, on, oc, ty, cl, ttl, ma, j, mc, ua, un, uc, xa, xn, xc, ra, rn, rc⟩] = QS.take (k + 1) := by
       rw [List.take_add_one, hxs.out]
       rfl
      have eL : LS.take k ++ [L] = LS.take (k + 1) := by
       rw [List.take_add_one, hLs.out]
       rfl
      rw [eQ, eL] at hown9
      have hown9' := Lib.hid hown9
      have hb9 : Hid (Below w.heap.size w w9) := Lib.hid (own_below ((hb.out.trans (hkw.out.mono hb.out.size)).trans (hkV.out.mono (Nat.le_trans hwo.out hkw.out.size))) hg9 (hp1.out.ext hkV.out) hsz1.out (Nat.le_refl _))
      obtain ⟨a9, c9, rfl⟩ := hown9.shape
      clear hown9 ho9 hg9 hV1 hkV hBV hsrc y0 y1 y2 y3 y4 y5 y6 y7
      go_wp2_with fail
      go_roundw
      case rel => exact ⟨k + 1, by omega, by go_num, hown9', hb9⟩
      case measure => simp [intOf]; omega
  ·have hk' : k = n := by omega
   subst hk'
   rw [List.take_of_length_le (by omega), List.take_of_length_le (by omega)] at hv
   obtain ⟨av, cv, rfl⟩ := hv.out.shape
   go_wp2_with fail
   go_ret
   exact ⟨⟨_, rfl, hv.out⟩, hb.out⟩
end Go.Proofs.Ythgnlbdolilklaa
