/- Messages are copied: CopyQuestion 54, CopyRecords 55, CopyMessage 25; printed by gen_cq.py. -/
import Derived.Test.YthgnlbdolilklaaFiM
namespace Go.Proofs.Ythgnlbdolilklaa
open Go Go.RowKit
def qCqM0 (p : String) : Oper := { dst := some 15, op := Op.load 58 (Operand.tmp 14), type := 58, pos := p, after := #[{ on := 0, ground := Ground.data }], guard := none }
def qCqM1 (p : String) : Oper := { dst := some 21, op := Op.call { callee := Callee.value (Operand.func 54), args := #[Operand.tmp 20], argTypes := #[90] }, type := 90, pos := p, after := #[{ on := 6, ground := Ground.data }], guard := none }
def qCqM2 (p : String) : Oper := { dst := some 22, op := Op.buildSlice 58 1 #[(0, Operand.tmp 21)], type := 58, pos := p, after := #[{ on := 7, ground := Ground.data }], guard := none }
def qCqM3 (p : String) : Oper := { dst := some 23, op := Op.call { callee := Callee.builtin Builtin.append, args := #[Operand.tmp 15, Operand.tmp 22], argTypes := #[58, 58] }, type := 58, pos := p, after := #[{ on := 1, ground := Ground.data }, { on := 8, ground := Ground.data }, { on := 7, ground := Ground.chain }], guard := none }
def qCqM4 (p : String) : Oper := { dst := some 24, op := Op.fieldAddr 60 (Operand.tmp 3) 10, type := 0, pos := p, after := #[{ on := 0, ground := Ground.phase }, { on := 1, ground := Ground.phase }, { on := 2, ground := Ground.phase }, { on := 3, ground := Ground.phase }, { on := 4, ground := Ground.phase }, { on := 5, ground := Ground.phase }, { on := 6, ground := Ground.phase }, { on := 7, ground := Ground.phase }, { on := 8, ground := Ground.phase }, { on := 9, ground := Ground.phase }], guard := none }
def qCqM5 (p : String) : Oper := { dst := none, op := Op.store 58 (Operand.tmp 24) (Operand.tmp 23), type := 0, pos := p, after := #[{ on := 10, ground := Ground.data }, { on := 9, ground := Ground.data }, { on := 9, ground := Ground.chain }, { on := 0, ground := Ground.phase }, { on := 1, ground := Ground.phase }, { on := 2, ground := Ground.phase }, { on := 3, ground := Ground.phase }, { on := 4, ground := Ground.phase }, { on := 5, ground := Ground.phase }, { on := 6, ground := Ground.phase }, { on := 7, ground := Ground.phase }, { on := 8, ground := Ground.phase }, { on := 9, ground := Ground.phase }], guard := none }
theorem OwnQs_mono {w : World} {b b' : Nat} {v : Value} {QS : List QD} {NS : List Nm} (h : OwnQs w b v QS NS) (hb : b' ≤ b) : OwnQs w b' v QS NS := by
 obtain ⟨qs, h1, h2, h3⟩ := h
 exact ⟨qs, h1.mono hb, h2, fun j q q0 N hq h0 hN => ⟨(h3 j q q0 N hq h0 hN).1.mono hb, (h3 j q q0 N hq h0 hN).2⟩⟩
theorem enter54 (args : Array Value) (w : World) : (callFunc 54 args).run Try.prog w = .ok (.enter 54 args) w := Go.MuLone.run_callFunc_enter Try.func54 (by kernel_rfl) (by rfl) args w
theorem enter55 (args : Array Value) (w : World) : (callFunc 55 args).run Try.prog w = .ok (.enter 55 args) w := Go.MuLone.run_callFunc_enter Try.func55 (by kernel_rfl) (by rfl) args w
set_option maxHeartbeats 8000000 in
set_option maxRecDepth 100000 in
theorem copy_q {w : World} {xa : Option Addr} {xn xc : Nat} (xt xk : Nat) {N : Nm} (h : RdT w xa xn xc N) : Calls Try.prog 54 #[.agg #[.slice xa xn xc, .int .u16 xt, .int .u16 xk]] w fun e w' => (∃ aO cO, e = .returned (.agg #[.slice aO xn cO, .int .u16 xt, .int .u16 xk]) ∧ Own strE w' w.heap.size (.slice aO xn cO) N) ∧ Below w.heap.size w w' := by
 obtain ⟨W1, hW1⟩ : ∃ W, w.alloc (.cells #[.slice xa xn xc, .int .u16 xt, .int .u16 xk] 90) = W := ⟨_, rfl⟩
 have B1 : Hid (Blk W1 w.heap.size 90 (0, 0) [.slice xa xn xc, .int .u16 xt, .int .u16 xk]) := Lib.hid (by rw [← hW1]; exact Blk.new w 90 (0, 0) #[.slice xa xn xc, .int .u16 xt, .int .u16 xk])
 have k1 : Hid (Below w.heap.size w W1) := Lib.hid (by rw [← hW1]; exact alloc_bel _ _)
 obtain ⟨W2, hW2⟩ : ∃ W, W1.alloc (.cells #[.slice none 0 0, .int .u16 0, .int .u16 0] 90) = W := ⟨_, rfl⟩
 have B2 : Hid (Blk W2 W1.heap.size 90 (0, 0) [.slice none 0 0, .int .u16 0, .int .u16 0]) := Lib.hid (by rw [← hW2]; exact Blk.new W1 90 (0, 0) #[.slice none 0 0, .int .u16 0, .int .u16 0])
 have k2 : Hid (Below W1.heap.size W1 W2) := Lib.hid (by rw [← hW2]; exact alloc_bel _ _)
 have hl1 : Hid (w.heap.size < W1.heap.size) := Lib.hid B1.out.lt
 have B12 := Lib.hid (B1.out.below k2.out B1.out.lt)
 have hb2 := Lib.hid (k1.out.trans (k2.out.mono k1.out.size))
 have hxn : Hid (xn * 16 ≤ 140737488355328) := Lib.hid (by have := h.2.2; unfold reachBytes at this; omega)
 have hN := Lib.hid (h.ext hb2.out)
 clear h k1 k2 B1
 have cs : Hid (∀ U : World, Blk U w.heap.size 90 (0, 0) [.slice xa xn xc, .int .u16 xt, .int .u16 xk] → U.cell? ⟨w.heap.size, 0, none⟩ = some (.slice xa xn xc) ∧ U.cell? ⟨w.heap.size, 1, none⟩ = some (.int .u16 xt) ∧ U.cell? ⟨w.heap.size, 2, none⟩ = some (.int .u16 xk)) := Lib.hid (fun U hB => ⟨(hB.cell 0).trans rfl, (hB.cell 1).trans rfl, (hB.cell 2).trans rfl⟩)
 go_enter Try.func54, Try.ntmps54
 go_upto_region 1 with (fail)
 try rw [hW1]
 try rw [hW2]
 clear hW1 hW2
 refine wp_region_noPanic ?_
 refine wp_region_held_drew (S := fun U => U.cell? ⟨w.heap.size, 0, none⟩ = some (.slice xa xn xc) ∧ U.cell? ⟨w.heap.size, 1, none⟩ = some (.int .u16 xt) ∧ U.cell? ⟨w.heap.size, 2, none⟩ = some (.int .u16 xk)) (by kernel_rfl) (cs.out _ B12.out.drew) (fun hHeld => ?_)
 have M0 : Hid (Below W2.heap.size W2 W2.drew) := Lib.hid (Below.refl _ _).drew
 generalize W2.drew = U0 at *
 refine tkz 0 ({ dst := some 3, op := Op.fieldAddr 90 (Operand.tmp 1) 0, type := 0, pos := _, after := #[], guard := none }) ?_ rfl ?_ ?_
 rotate_left
 ·intro w hSw
  go_simp
  first | done | with_reducible rfl
 try simp only [pz0, pz2, pz3, pz4]
 refine tkz 1 ({ dst := some 4, op := Op.load 26 (Operand.tmp 3), type := 26, pos := _, after := #[{ on := 0, ground := Ground.data }], guard := none }) ?_ rfl ?_ ?_
 rotate_left
 ·intro w hSw
  go_simp
  first | done | with_reducible rfl
 try simp only [pz0, pz2, pz3, pz4]
 refine tkz 3 ({ dst := some 6, op := Op.fieldAddr 90 (Operand.tmp 1) 1, type := 0, pos := _, after := #[], guard := none }) ?_ rfl ?_ ?_
 rotate_left
 ·intro w hSw
  go_simp
  first | done | with_reducible rfl
 try simp only [pz0, pz2, pz3, pz4]
 refine tkz 4 ({ dst := some 7, op := Op.load 28 (Operand.tmp 6), type := 28, pos := _, after := #[{ on := 3, ground := Ground.data }], guard := none }) ?_ rfl ?_ ?_
 rotate_left
 ·intro w hSw
  go_simp
  first | done | with_reducible rfl
 try simp only [pz0, pz2, pz3, pz4]
 refine tkz 5 ({ dst := some 8, op := Op.fieldAddr 90 (Operand.tmp 1) 2, type := 0, pos := _, after := #[], guard := none }) ?_ rfl ?_ ?_
 rotate_left
 ·intro w hSw
  go_simp
  first | done | with_reducible rfl
 try simp only [pz0, pz2, pz3, pz4]
 refine tkz 6 ({ dst := some 9, op := Op.load 29 (Operand.tmp 8), type := 29, pos := _, after := #[{ on := 5, ground := Ground.data }], guard := none }) ?_ rfl ?_ ?_
 rotate_left
 ·intro w hSw
  go_simp
  first | done | with_reducible rfl
 try simp only [pz0, pz2, pz3, pz4]
 refine wpAnyH_ready (rs := [2]) (by kernel_rfl) (by simp) ?_
 refine AllReadyH.cons (o := { dst := some 5, op := Op.call { callee := Callee.value (Operand.func 34), args := #[Operand.tmp 4], argTypes := #[26] }, type := 26, pos := _, after := #[{ on := 1, ground := Ground.data }], guard := none }) rfl (fun K hK => ?_) AllReadyH.nil
 refine step_call (by rfl) (.tmp 4) 26 (by rfl) (by rfl) enter34 ?_
 refine (copy_name (hN.out.1.ext M0.out) hxn.out).mono ?_
 rintro e U1 ⟨⟨aO, cO, rfl, hO⟩, q1⟩
 have hO1 := Lib.hid (hO.mono M0.out.size)
 have M1 := Lib.hid (M0.out.trans (q1.mono M0.out.size))
 clear hO q1
 refine ⟨_, rfl, ?_⟩
 refine hK.out _ _ (cs.out _ (B12.out.below M1.out B12.out.lt)) (fun hHeld => ?_)
 clear hK K
 try simp only [pz0, pz2, pz3, pz4]
 refine tkz 7 ({ dst := some 10, op := Op.build 90 #[(0, Operand.tmp 5), (1, Operand.tmp 7), (2, Operand.tmp 9)], type := 90, pos := _, after := #[{ on := 2, ground := Ground.data }, { on := 4, ground := Ground.data }, { on := 6, ground := Ground.data }], guard := none }) ?_ rfl ?_ ?_
 rotate_left
 ·intro w hSw
  go_simp
  first | done | with_reducible rfl
 try simp only [pz0, pz2, pz3, pz4]
 refine wpAnyH_ready (rs := [8]) (by kernel_rfl) (by simp) ?_
 refine AllReadyH.cons (o := { dst := none, op := Op.store 90 (Operand.tmp 2) (Operand.tmp 10), type := 0, pos := _, after := #[{ on := 7, ground := Ground.data }, { on := 2, ground := Ground.chain }, { on := 0, ground := Ground.phase }, { on := 1, ground := Ground.phase }, { on := 2, ground := Ground.phase }, { on := 3, ground := Ground.phase }, { on := 4, ground := Ground.phase }, { on := 5, ground := Ground.phase }, { on := 6, ground := Ground.phase }, { on := 7, ground := Ground.phase }], guard := none }) rfl (fun K hK => ?_) AllReadyH.nil
 have hZ := Lib.hid (B2.out.below M1.out B2.out.lt)
 have hP := Lib.hid (B12.out.below M1.out B12.out.lt)
 refine step_store (by rfl) 90 (.tmp 2) (.tmp 10) (by rfl) (cells := #[.slice aO xn cO, .int .u16 xt, .int .u16 xk]) (by rfl) (by rfl) hZ.out (by rfl) (by kernel_rfl) (by kernel_rfl) ?_
 intro w8 hB8 hg8 _
 refine hK.out _ _ (cs.out _ (hP.out.grownV2 hg8 (fun e => by have e2 := Option.some.inj e; have := hl1.out; omega))) (fun hHeld => ?_)
 clear hK K
 refine wpAnyH_done (by kernel_rfl) ?_ _
 refine NoPanic.normal ?_
 clear hHeld
 have hle : w.heap.size ≤ W1.heap.size := Nat.le_of_lt hl1.out
 have hbw : Hid (Below w.heap.size w w8) := Lib.hid ((hb2.out.trans (M1.out.mono hb2.out.size)).grown hg8 (Nat.le_trans hb2.out.size M1.out.size) (fun j hj => by have e2 := Option.some.inj hj; omega))
 have hO2 := Lib.hid (own_store hO1.out hZ.out (by decide) hg8)
 have hB8' := Lib.hid hB8
 clear hB8 hg8
 go_wp2_with fail
 refine bodyPost_ret (results_c rfl _ rfl hB8'.out Try.underlying90 rfl (by kernel_rfl)) rfl ?_
 exact ⟨⟨aO, cO, rfl, hO2.out.mono (Nat.le_trans hle (by have := B2.out.lt; omega))⟩, hbw.out⟩
set_option maxHeartbeats 8000000 in
set_option maxRecDepth 100000 in
theorem copy_recs {w : World} {a : Option Addr} {n c : Nat} {QS : List RD} {LS : List RL} (h : RdRs w a n c QS LS) :
 Calls Try.prog 55 #[.slice a n c] w fun e w' => (∃ v, e = .returned v ∧ OwnRs w' w.heap.size v QS LS) ∧ Below w.heap.size w w' := by
 have hl := h.1.len
 have hl2 := h.2.1
 have hn : n ≤ 1152921504606846976 := by have := h.2.2.1; unfold reachBytes at this; omega
 have hnb : Hid (n * 128 ≤ 140737488355328) := Lib.hid (by have := h.2.2.1; unfold reachBytes at this; omega)
 have hH := Lib.hid h
 clear h
 go_enter Try.func55, Try.ntmps55
 go_wp2_with fail
 go_loopw [3, 4] (fun v i wr => ∃ k : Nat, k ≤ n ∧ i = .int .i64 k ∧ Hid (OwnRs wr w.heap.size v (QS.take k) (LS.take k)) ∧ Hid (Below w.heap.size w wr)) (fun _ i _ => n - (intOf i).toNat)
 case atStart => exact ⟨0, Nat.zero_le _, rfl, Lib.hid (OwnRs.nil _ _), Lib.hid (Below.refl _ _)⟩
 case round =>
  obtain ⟨k, hk, rfl, hv, hb⟩ := hrel
  by_cases hlt : k < n
  ·have hkI : (k : Int) < n := by omega
   have hks : k < QS.length := by omega
   obtain ⟨b, o, rfl, hbs, hc⟩ := (hH.out.1.ext hb.out).addr (by omega)
   obtain ⟨x, hx⟩ : ∃ x, QS[k] = x := ⟨_, rfl⟩
   have hxs : Hid (QS[k]? = some x) := Lib.hid (by rw [List.getElem?_eq_getElem hks, hx])
   have hcx := hc k hks
   rw [hx] at hcx
   have c0 : wr.cell? ⟨b, o + k * 8, none⟩ = some (.slice x.oa x.on x.oc) := hcx 0 (by decide)
   have c1 : wr.cell? ⟨b, o + k * 8 + 1, none⟩ = some (.int .u16 x.ty) := hcx 1 (by decide)
   have c2 : wr.cell? ⟨b, o + k * 8 + 2, none⟩ = some (.int .u16 x.cl) := hcx 2 (by decide)
   have c3 : wr.cell? ⟨b, o + k * 8 + 3, none⟩ = some (.int .u32 x.ttl) := hcx 3 (by decide)
   have c4 : wr.cell? ⟨b, o + k * 8 + 4, none⟩ = some (.slice x.ma x.mn x.mc) := hcx 4 (by decide)
   have c5 : wr.cell? ⟨b, o + k * 8 + 5, none⟩ = some (.slice x.ua x.un x.uc) := hcx 5 (by decide)
   have c6 : wr.cell? ⟨b, o + k * 8 + 6, none⟩ = some (.slice x.xa x.xn x.xc) := hcx 6 (by decide)
   have c7 : wr.cell? ⟨b, o + k * 8 + 7, none⟩ = some (.slice x.ra x.rn x.rc) := hcx 7 (by decide)
   clear hc hx hcx
   obtain ⟨L, hL⟩ : ∃ L, LS[k]? = some L := ⟨LS[k]'(by omega), List.getElem?_eq_getElem _⟩
   have hLs := Lib.hid hL
   have hr := Lib.hid ((hH.out.2.2.2 k x L hxs.out hL).ext hb.out)
   clear hL
   have hcr := Lib.hid (copy_rec hr.out)
   unfold RD.val rV at hcr
   obtain ⟨qs, p1, p2, p3⟩ := hv.out
   have hkt : (QS.take k).length = k := by rw [List.length_take]; omega
   obtain ⟨av, cv, rfl⟩ := hv.out.shape
   rw [hkt] at p1 ⊢
   have hql : qs.length = k := by rw [p2, hkt]
   have hp1 := Lib.hid p1
   have hp2 := Lib.hid p2
   have hp3 := Lib.hid p3
   clear p1 p2 p3 hv
   go_wp2_with fail
   refine hcr.out.mono ?_
   rintro e w6 ⟨⟨⟨oa, on, oc, ty, cl, ttl, ma, mn, mc, ua, un, uc, xa, xn, xc, ra, rn, rc⟩, rfl, ho, e1, e2, e3⟩, hb6⟩
   have hk6 := Lib.hid hb6
   have ho6 := Lib.hid ho
   have he := Lib.hid (And.intro e1 (And.intro e2 e3))
   clear ho hb6 hcr e1 e2 e3 c0 c1 c2 c3 c4 c5 c6 c7
   dsimp only
   obtain ⟨V1, hV1⟩ : ∃ V, w6.alloc (.cells #[.slice oa on oc, .int .u16 ty, .int .u16 cl, .int .u32 ttl, .slice ma mn mc, .slice ua un uc, .slice xa xn xc, .slice ra rn rc] 37) = V := ⟨_, rfl⟩
   have hkV : Hid (Below w6.heap.size w6 V1) := Lib.hid (by rw [← hV1]; exact alloc_bel _ _)
   have hBV : Hid (Blk V1 w6.heap.size 37 (0, 0) [.slice oa on oc, .int .u16 ty, .int .u16 cl, .int .u32 ttl, .slice ma mn mc, .slice ua un uc, .slice xa xn xc, .slice ra rn rc]) := Lib.hid (by rw [← hV1]; exact Blk.new w6 37 (0, 0) #[.slice oa on oc, .int .u16 ty, .int .u16 cl, .int .u32 ttl, .slice ma mn mc, .slice ua un uc, .slice xa xn xc, .slice ra rn rc])
   obtain ⟨i0, hi7, hq0, hq1, hq2⟩ := info_parts Try.info37
   have hsrc : Src Try.prog recE.k 55 (.slice (some ⟨w6.heap.size, 0, none⟩) 1 1) 1 (rowOf recE [(⟨oa, on, oc, ty, cl, ttl, ma, mn, mc, ua, un, uc, xa, xn, xc, ra, rn, rc⟩ : RD)]) V1 := (rd_blk (E := recE) (X := [(⟨oa, on, oc, ty, cl, ttl, ma, mn, mc, ua, un, uc, xa, xn, xc, ra, rn, rc⟩ : RD)]) (fz := (0, 0)) hBV.out 1 rfl (by decide)).src (P := Try.prog) (tx := 55) Try.underlying55
   have hwk : Hid (w.heap.size ≤ wr.heap.size) := Lib.hid hb.out.size
   have hkA := Lib.hid (hk6.out.trans (hkV.out.mono hk6.out.size))
   have hsz1 : Hid (w.heap.size ≤ V1.heap.size) := Lib.hid (Nat.le_trans hwk.out hkA.out.size)
   have hnbx := hnb.out
   go_wp2_with (at_builtin; refine app_own (E := recE) (l := qs) (news := [(⟨oa, on, oc, ty, cl, ttl, ma, mn, mc, ua, un, uc, xa, xn, xc, ra, rn, rc⟩ : RD)]) (base := w.heap.size) rfl (.tmp 11) (.tmp 17) 55 55 rfl Try.underlying55 hi7 hq0 hq1 hq2 rfl rfl (hp1.out.ext hkA.out) rfl hsrc (by simp [maxLen]; omega) (by simp; omega) hsz1.out ?_)
   intro v9 w9 ho9 hg9 _
   have hown9 := OwnRs.app (QS := QS.take k) (LS := LS.take k) (hp1.out.ext hkA.out) hp2.out (by simp; omega) (fun jj q q0 LL h1 h2 h3 => ⟨(hp3.out jj q q0 LL h1 h2 h3).1.ext hkA.out, (hp3.out jj q q0 LL h1 h2 h3).2⟩) (q := (⟨oa, on, oc, ty, cl, ttl, ma, mn, mc, ua, un, uc, xa, xn, xc, ra, rn, rc⟩ : RD)) (q0 := x) (L := L) ⟨(ho6.out.ext hkV.out).mono hwk.out, he.out⟩ ho9 hg9
   have eQ : QS.take k ++ [x] = QS.take (k + 1) := by
    rw [List.take_add_one, hxs.out]
    rfl
   have eL : LS.take k ++ [L] = LS.take (k + 1) := by
    rw [List.take_add_one, hLs.out]
    rfl
   rw [eQ, eL] at hown9
   have hown9' := Lib.hid hown9
   have hb9 : Hid (Below w.heap.size w w9) := Lib.hid (own_below (hb.out.trans (hkA.out.mono hwk.out)) hg9 (hp1.out.ext hkA.out) hsz1.out (Nat.le_refl _))
   clear hown9 ho9 hg9 hV1 hkV hBV hsrc eQ eL
   go_wp2_with fail
   exact ⟨⟨k + 1, by omega, by go_num, hown9', hb9⟩, by simp [intOf]; omega⟩
  ·have hkn : k = n := by omega
   subst hkn
   rw [List.take_of_length_le (by omega), List.take_of_length_le (by omega)] at hv
   go_wp2_with fail
   go_ret
   exact ⟨⟨_, rfl, hv.out⟩, hb.out⟩
set_option maxHeartbeats 16000000 in
set_option maxRecDepth 100000 in
theorem copy_msg {w : World} {qa : Option Addr} {qn qc : Nat} {QS : List QD} {NS : List Nm} (hQ : RdQs w qa qn qc QS NS) {an : Option Addr} {nn1 nc1 : Nat} {Q1 : List RD} {L1 : List RL} (h1 : RdRs w an nn1 nc1 Q1 L1) {au : Option Addr} {nn2 nc2 : Nat} {Q2 : List RD} {L2 : List RL} (h2 : RdRs w au nn2 nc2 Q2 L2)
 {ad : Option Addr} {nn3 nc3 : Nat} {Q3 : List RD} {L3 : List RL} (h3 : RdRs w ad nn3 nc3 Q3 L3) (m0 m1 m2 m3 m4 m5 m6 m7 m8 m9 : Value) (ho : [m0, m1, m2, m3, m4, m5, m6, m7, m8, m9].all (·.oneCell') = true) :
 Calls Try.prog 25 #[.agg #[m0, m1, m2, m3, m4, m5, m6, m7, m8, m9, .slice qa qn qc, .slice an nn1 nc1, .slice au nn2 nc2, .slice ad nn3 nc3]] w fun e w' => (∃ vq v1 v2 v3, e = .returned (.agg #[m0, m1, m2, m3, m4, m5, m6, m7, m8, m9, vq, v1, v2, v3]) ∧ OwnQs w' w.heap.size vq QS NS ∧ OwnRs w' w.heap.size v1 Q1 L1 ∧ OwnRs w' w.heap.size v2 Q2 L2 ∧ OwnRs w' w.heap.size v3 Q3 L3) ∧ Below w.heap.size w w' := by
 obtain ⟨W1, hW1⟩ : ∃ W, w.alloc (.cells #[m0, m1, m2, m3, m4, m5, m6, m7, m8, m9, .slice qa qn qc, .slice an nn1 nc1, .slice au nn2 nc2, .slice ad nn3 nc3] 60) = W := ⟨_, rfl⟩
 have B1 : Hid (Blk W1 w.heap.size 60 (0, 0) [m0, m1, m2, m3, m4, m5, m6, m7, m8, m9, .slice qa qn qc, .slice an nn1 nc1, .slice au nn2 nc2, .slice ad nn3 nc3]) := Lib.hid (by rw [← hW1]; exact Blk.new w 60 (0, 0) #[m0, m1, m2, m3, m4, m5, m6, m7, m8, m9, .slice qa qn qc, .slice an nn1 nc1, .slice au nn2 nc2, .slice ad nn3 nc3])
 have k1 : Hid (Below w.heap.size w W1) := Lib.hid (by rw [← hW1]; exact alloc_bel _ _)
 obtain ⟨W2, hW2⟩ : ∃ W, W1.alloc (.cells #[.int .u16 0, .bool false, .int .i64 0, .bool false, .bool false, .bool false, .bool false, .bool false, .bool false, .int .i64 0, .slice none 0 0, .slice none 0 0, .slice none 0 0, .slice none 0 0] 60) = W := ⟨_, rfl⟩
 have B2 : Hid (Blk W2 W1.heap.size 60 (0, 0) [.int .u16 0, .bool false, .int .i64 0, .bool false, .bool false, .bool false, .bool false, .bool false, .bool false, .int .i64 0, .slice none 0 0, .slice none 0 0, .slice none 0 0, .slice none 0 0]) := Lib.hid (by rw [← hW2]; exact Blk.new W1 60 (0, 0) #[.int .u16 0, .bool false, .int .i64 0, .bool false, .bool false, .bool false, .bool false, .bool false, .bool false, .int .i64 0, .slice none 0 0, .slice none 0 0, .slice none 0 0, .slice none 0 0])
 have k2 : Hid (Below W1.heap.size W1 W2) := Lib.hid (by rw [← hW2]; exact alloc_bel _ _)
 have hl1 : Hid (w.heap.size < W1.heap.size) := Lib.hid B1.out.lt
 have hl2 : Hid (W1.heap.size < W2.heap.size) := Lib.hid B2.out.lt
 have kb := Lib.hid (k1.out.trans (k2.out.mono k1.out.size))
 have BM := Lib.hid (B1.out.below k2.out B1.out.lt)
 have BZ := B2
 have hQl := hQ.1.len
 have hQl2 := hQ.2.1
 have hqn : qn ≤ 1152921504606846976 := by have := hQ.2.2.1; unfold reachBytes at this; omega
 have hqb : Hid (qn * 32 ≤ 140737488355328) := Lib.hid (by have := hQ.2.2.1; unfold reachBytes at this; omega)
 have hH := Lib.hid (hQ.ext kb.out)
 have hR1 := Lib.hid (h1.ext kb.out)
 have hR2 := Lib.hid (h2.ext kb.out)
 have hR3 := Lib.hid (h3.ext kb.out)
 have L0 : Hid (Below W2.heap.size W2 W2) := Lib.hid (Below.refl _ _)
 clear hQ h1 h2 h3 B1 B2 k1 k2
 have ho' := Lib.hid ho
 clear ho
 have hoC : Hid (#[m0, m1, m2, m3, m4, m5, m6, m7, m8, m9, .slice qa qn qc, .slice an nn1 nc1, .slice au nn2 nc2, .slice ad nn3 nc3].all (·.oneCell') = true) := Lib.hid (by
  have h9 := ho'.out
  simp only [List.all_cons, List.all_nil, Bool.and_eq_true, Bool.and_true, List.all_toArray] at h9 ⊢
  obtain ⟨o0, o1, o2, o3, o4, o5, o6, o7, o8, o9⟩ := h9
  exact ⟨o0, o1, o2, o3, o4, o5, o6, o7, o8, o9, rfl, rfl, rfl, rfl⟩)
 go_enter Try.func25, Try.ntmps25
 go_upto_region 1 with (fail)
 try rw [hW1]
 try rw [hW2]
 clear hW1 hW2
 have p0 : W2.cell? ⟨w.heap.size, 0, none⟩ = some (m0) := (BM.out.cell 0).trans rfl
 have p1 : W2.cell? ⟨w.heap.size, 1, none⟩ = some (m1) := (BM.out.cell 1).trans rfl
 have p2 : W2.cell? ⟨w.heap.size, 2, none⟩ = some (m2) := (BM.out.cell 2).trans rfl
 have p3 : W2.cell? ⟨w.heap.size, 3, none⟩ = some (m3) := (BM.out.cell 3).trans rfl
 have p4 : W2.cell? ⟨w.heap.size, 4, none⟩ = some (m4) := (BM.out.cell 4).trans rfl
 have p5 : W2.cell? ⟨w.heap.size, 5, none⟩ = some (m5) := (BM.out.cell 5).trans rfl
 have p6 : W2.cell? ⟨w.heap.size, 6, none⟩ = some (m6) := (BM.out.cell 6).trans rfl
 have p7 : W2.cell? ⟨w.heap.size, 7, none⟩ = some (m7) := (BM.out.cell 7).trans rfl
 have p8 : W2.cell? ⟨w.heap.size, 8, none⟩ = some (m8) := (BM.out.cell 8).trans rfl
 have p9 : W2.cell? ⟨w.heap.size, 9, none⟩ = some (m9) := (BM.out.cell 9).trans rfl
 have p10 : W2.cell? ⟨w.heap.size, 10, none⟩ = some (.slice qa qn qc) := (BM.out.cell 10).trans rfl
 have p11 : W2.cell? ⟨w.heap.size, 11, none⟩ = some (.slice an nn1 nc1) := (BM.out.cell 11).trans rfl
 have p12 : W2.cell? ⟨w.heap.size, 12, none⟩ = some (.slice au nn2 nc2) := (BM.out.cell 12).trans rfl
 have p13 : W2.cell? ⟨w.heap.size, 13, none⟩ = some (.slice ad nn3 nc3) := (BM.out.cell 13).trans rfl
 obtain ⟨W3, hW3⟩ : ∃ W, W2.alloc (.cells #[.int .u16 0, .bool false, .int .i64 0, .bool false, .bool false, .bool false, .bool false, .bool false, .bool false, .int .i64 0, .slice none 0 0, .slice none 0 0, .slice none 0 0, .slice none 0 0] 60) = W := ⟨_, rfl⟩
 have N3 : Hid (Blk W3 W2.heap.size 60 (0, 0) [.int .u16 0, .bool false, .int .i64 0, .bool false, .bool false, .bool false, .bool false, .bool false, .bool false, .int .i64 0, .slice none 0 0, .slice none 0 0, .slice none 0 0, .slice none 0 0]) := Lib.hid (by rw [← hW3]; exact Blk.new W2 60 (0, 0) #[.int .u16 0, .bool false, .int .i64 0, .bool false, .bool false, .bool false, .bool false, .bool false, .bool false, .int .i64 0, .slice none 0 0, .slice none 0 0, .slice none 0 0, .slice none 0 0])
 have n3 : Hid (Below W2.heap.size W2 W3) := Lib.hid (by rw [← hW3]; exact alloc_bel _ _)
 go_upto_region 2 with (refine store_whole rfl 60 (.tmp 3) (.tmp 5) rfl rfl rfl N3.out (by rfl) (by kernel_rfl) hoC.out ?_; intro w4 hBx hgx hzx; have R3 := Lib.hid hBx; have g3 := Lib.hid hgx; clear hBx hgx hzx)
 try rw [hW3]
 clear hW3
 have s3 := Lib.hid (fresh_store n3.out g3.out)
 have L_1 := Lib.hid (L0.out.trans ((s3.out).mono L0.out.size))
 clear L0
 have l3 : Hid (W2.heap.size < w4.heap.size) := Lib.hid R3.out.lt
 clear N3 n3 g3 s3
 clear p0 p1 p2 p3 p4 p5 p6 p7 p8 p9 p10 p11 p12 p13
 have f10 : w4.frozen? ⟨W2.heap.size, 10, none⟩ = false := by rw [R3.out.frozen]; try simp
 have c10 : w4.cell? ⟨W2.heap.size, 10, none⟩ = some (.slice qa qn qc) := (R3.out.cell 10).trans rfl
 go_upto_region 3 with (fail)
 obtain ⟨V, hV⟩ : ∃ V, w4.setCell ⟨W2.heap.size, 10, none⟩ (.slice none 0 0) = V := ⟨_, rfl⟩
 try rw [hV]
 have hgV : Hid (w4.grownBy V (some W2.heap.size)) := Lib.hid (by rw [← hV]; exact grown_set _ _ _ _)
 have oV : Hid (Blk V W2.heap.size 60 (0, 0) [m0, m1, m2, m3, m4, m5, m6, m7, m8, m9, .slice none 0 0, .slice an nn1 nc1, .slice au nn2 nc2, .slice ad nn3 nc3]) := Lib.hid (by rw [← hV]; exact R3.out.set 10 _)
 have LV : Hid (Below W2.heap.size W2 V) := Lib.hid (L_1.out.grown hgV.out L_1.out.size (fun j hj => by cases hj; exact Nat.le_refl _))
 clear hV hgV c10 f10 l3 L_1 R3
 go_wp2_with fail
 go_loopw [4] (fun i wr => ∃ (k : Nat) (v : Value), k ≤ qn ∧ i = .int .i64 k ∧ Hid (Blk wr W2.heap.size 60 (0, 0) [m0, m1, m2, m3, m4, m5, m6, m7, m8, m9, v, .slice an nn1 nc1, .slice au nn2 nc2, .slice ad nn3 nc3]) ∧ Hid (OwnQs wr W2.heap.size v (QS.take k) (NS.take k)) ∧ Hid (Below W2.heap.size W2 wr)) (fun i _ => qn - (intOf i).toNat)
 case atStart => exact ⟨0, _, Nat.zero_le _, rfl, oV, Lib.hid (OwnQs.nil _ _), LV⟩
 case round =>
  clear oV LV
  obtain ⟨k, v, hk, rfl, hM, hv, hL⟩ := hrel
  have cP : wr.cell? ⟨w.heap.size, 10, none⟩ = some (.slice qa qn qc) := (BM.out.below hL.out BM.out.lt).cell 10 |>.trans rfl
  by_cases hlt : k < qn
  ·skip
   have hkI : (k : Int) < qn := by omega
   have hks : k < QS.length := by omega
   obtain ⟨b, o, rfl, hbs, hc⟩ := rd_qs hH.out.1 (by omega)
   obtain ⟨c0, c1, c2⟩ := hc k hks
   clear hc
   obtain ⟨x, hx⟩ : ∃ x, QS[k] = x := ⟨_, rfl⟩
   have hxs : Hid (QS[k]? = some x) := Lib.hid (by rw [List.getElem?_eq_getElem hks, hx])
   rw [hx] at c0 c1 c2
   clear hx
   obtain ⟨NN, hN⟩ : ∃ N, NS[k]? = some N := ⟨NS[k]'(by omega), List.getElem?_eq_getElem _⟩
   have hNs := Lib.hid hN
   have hnm := Lib.hid (hH.out.2.2.2 k x NN hxs.out hN)
   clear hN
   obtain ⟨xa, xn, xc, xt, xk⟩ := x
   dsimp only at c0 c1 c2
   have hnm' : Hid (RdT W2 xa xn xc NN) := hnm
   clear hnm
   obtain ⟨qs, p1, p2, p3⟩ := hv.out
   have hkt : (QS.take k).length = k := by rw [List.length_take]; omega
   obtain ⟨av, cv, rfl⟩ := hv.out.shape
   rw [hkt] at p1 hM
   have hql : qs.length = k := by rw [p2, hkt]
   have P0 := Lib.hid p1
   have hp2 := Lib.hid p2
   have hp3 := Lib.hid p3
   clear p1 p2 p3 hv
   have cs : Hid (∀ U : World, Below W2.heap.size W2 U → U.cell? ⟨w.heap.size, 10, none⟩ = some (.slice (some ⟨b, o, none⟩) qn qc) ∧ U.cell? ⟨b, o + k * 3, none⟩ = some (.slice xa xn xc) ∧ U.cell? ⟨b, o + k * 3 + 1, none⟩ = some (.int .u16 xt) ∧ U.cell? ⟨b, o + k * 3 + 2, none⟩ = some (.int .u16 xk)) := Lib.hid (fun U hU => ⟨((BM.out.below hU BM.out.lt).cell 10).trans rfl, cell_later hU c0, cell_later hU c1, cell_later hU c2⟩)
   clear c0 c1 c2
   have cPk := Lib.hid cP
   clear cP
   have cP := cPk.out
   have hMk : wr.cell? ⟨W2.heap.size, 10, none⟩ = some (.slice av k cv) := (hM.out.cell 10).trans rfl
   go_upto_region 6 with (fail)
   clear cP hMk
   refine wp_region_noPanic ?_
   refine wp_region_held_drew (S := fun U => U.cell? ⟨w.heap.size, 10, none⟩ = some (.slice (some ⟨b, o, none⟩) qn qc) ∧ U.cell? ⟨b, o + k * 3, none⟩ = some (.slice xa xn xc) ∧ U.cell? ⟨b, o + k * 3 + 1, none⟩ = some (.int .u16 xt) ∧ U.cell? ⟨b, o + k * 3 + 2, none⟩ = some (.int .u16 xk)) (by kernel_rfl) (cs.out _ hL.out.drew) (fun hHeld => ?_)
   have L0 : Hid (Below W2.heap.size W2 wr.drew) := Lib.hid hL.out.drew
   have N0 : Hid (Below wr.heap.size wr wr.drew) := Lib.hid (Below.refl _ _).drew
   have O0 : Hid (Blk wr.drew W2.heap.size 60 (0, 0) [m0, m1, m2, m3, m4, m5, m6, m7, m8, m9, .slice av k cv, .slice an nn1 nc1, .slice au nn2 nc2, .slice ad nn3 nc3]) := Lib.hid hM.out.drew
   generalize wr.drew = U0 at *
   refine tkz 0 ({ dst := some 14, op := Op.fieldAddr 60 (Operand.tmp 3) 10, type := 0, pos := _, after := #[], guard := none }) ?_ rfl ?_ ?_
   rotate_left
   ·intro w hSw
    go_simp
    first | done | with_reducible rfl
   try simp only [pz0, pz2, pz3, pz4]
   refine tkz 2 ({ dst := some 16, op := Op.fieldAddr 60 (Operand.tmp 1) 10, type := 0, pos := _, after := #[], guard := none }) ?_ rfl ?_ ?_
   rotate_left
   ·intro w hSw
    go_simp
    first | done | with_reducible rfl
   try simp only [pz0, pz2, pz3, pz4]
   refine tkz 3 ({ dst := some 17, op := Op.load 58 (Operand.tmp 16), type := 58, pos := _, after := #[{ on := 2, ground := Ground.data }], guard := none }) ?_ rfl ?_ ?_
   rotate_left
   ·intro w hSw
    go_simp
    first | done | with_reducible rfl
   try simp only [pz0, pz2, pz3, pz4]
   refine tkz 4 ({ dst := some 18, op := Op.move (Operand.tmp 4), type := 3, pos := _, after := #[], guard := none }) ?_ rfl ?_ ?_
   rotate_left
   ·intro w hSw
    go_simp
    first | done | with_reducible rfl
   try simp only [pz0, pz2, pz3, pz4]
   refine tkz 5 ({ dst := some 19, op := Op.indexAddr 58 (Operand.tmp 17) (Operand.tmp 18), type := 0, pos := _, after := #[{ on := 3, ground := Ground.data }, { on := 4, ground := Ground.data }], guard := none }) ?_ rfl ?_ ?_
   rotate_left
   ·intro w hSw
    go_simp
    first | done | with_reducible rfl
   try simp only [pz0, pz2, pz3, pz4]
   refine tkz 6 ({ dst := some 20, op := Op.load 90 (Operand.tmp 19), type := 90, pos := _, after := #[{ on := 5, ground := Ground.data }], guard := none }) ?_ rfl ?_ ?_
   rotate_left
   ·intro w hSw
    go_simp
    first | done | with_reducible rfl
   try simp only [pz0, pz2, pz3, pz4]
   refine wpAnyH_ready (rs := [1, 7]) (by kernel_rfl) (by simp) ?_
   refine arz (qCqM0 _) rfl (fun K hK => ?_) ?_
   ·unfold qCqM0
    have t1 : U0.cell? ⟨W2.heap.size, 10, none⟩ = some (.slice av k cv) := (O0.out.cell 10).trans rfl
    go_simp
    clear t1
    refine hK.out _ _ (cs.out _ L0.out) (fun hHeld => ?_)
    clear hK K
    try simp only [pz0, pz2, pz3, pz4]
    refine wpAnyH_ready (rs := [7]) (by kernel_rfl) (by simp) ?_
    refine arz (qCqM1 _) rfl (fun K hK => ?_) AllReadyH.nil
    unfold qCqM1
    refine step_call (by rfl) (.tmp 20) 90 (by rfl) (by rfl) enter54 ?_
    refine (copy_q xt xk (hnm'.out.ext L0.out)).mono ?_
    rintro e U2 ⟨⟨aO, cO, rfl, hO⟩, q1⟩
    have X2 := Lib.hid (hO.mono L0.out.size)
    have L2 := Lib.hid (L0.out.trans (q1.mono L0.out.size))
    have N2 := Lib.hid (N0.out.trans (q1.mono N0.out.size))
    have O2 := Lib.hid (O0.out.below q1 O0.out.lt)
    clear hO q1
    refine ⟨_, rfl, ?_⟩
    refine hK.out _ _ (cs.out _ L2.out) (fun hHeld => ?_)
    clear hK K
    try simp only [pz0, pz2, pz3, pz4]
    refine wpAnyH_ready (rs := [8]) (by kernel_rfl) (by simp) ?_
    refine arz (qCqM2 _) rfl (fun K hK => ?_) AllReadyH.nil
    unfold qCqM2
    go_simp
    obtain ⟨U3, e3⟩ : ∃ U, U2.alloc (.cells #[.slice aO xn cO, .int .u16 xt, .int .u16 xk] 90) = U := ⟨_, rfl⟩
    have q3 : Hid (Below U2.heap.size U2 U3) := Lib.hid (by rw [← e3]; exact alloc_bel _ _)
    have B3 : Hid (Blk U3 U2.heap.size 90 (0, 0) [.slice aO xn cO, .int .u16 xt, .int .u16 xk]) := Lib.hid (by rw [← e3]; exact Blk.new U2 90 (0, 0) #[.slice aO xn cO, .int .u16 xt, .int .u16 xk])
    have L3 := Lib.hid (L2.out.trans (q3.out.mono L2.out.size))
    have N3 := Lib.hid (N2.out.trans (q3.out.mono N2.out.size))
    have O3 := Lib.hid (O2.out.below q3.out O2.out.lt)
    have X3 := Lib.hid (X2.out.ext q3.out)
    rw [e3]
    clear e3
    refine hK.out _ _ (cs.out _ L3.out) (fun hHeld => ?_)
    clear hK K
    try simp only [pz0, pz2, pz3, pz4]
    refine wpAnyH_ready (rs := [9]) (by kernel_rfl) (by simp) ?_
    refine arz (qCqM3 _) rfl (fun K hK => ?_) AllReadyH.nil
    unfold qCqM3
    obtain ⟨i0, hi7, hq0, hq1, hq2⟩ := info_parts Try.info90
    have hqbx := hqb.out
    have hsrc : Src Try.prog qsE.k 58 (.slice (some ⟨U2.heap.size, 0, none⟩) 1 1) 1 (rowOf qsE [(⟨aO, xn, cO, xt, xk⟩ : QD)]) U3 := (rd_blk (E := qsE) (X := [(⟨aO, xn, cO, xt, xk⟩ : QD)]) (fz := (0, 0)) (B3.out) 1 rfl (by decide)).src (P := Try.prog) (tx := 58) Try.underlying58
    refine step_own (E := qsE) (l := qs) (news := [(⟨aO, xn, cO, xt, xk⟩ : QD)]) (base := W2.heap.size) (by rfl) (.tmp 15) (.tmp 22) 58 58 (by rfl) Try.underlying58 hi7 hq0 hq1 hq2 rfl (by rfl) (P0.out.ext N3.out) (by rfl) hsrc (by simp [maxLen]; omega) (by simp; omega) L3.out.size ?_
    intro v9 U4 ho9 hg9 _
    have hown9 := OwnQs.app (QS := QS.take k) (NS := NS.take k) (P0.out.ext N3.out) hp2.out (by simp; omega) (fun jj q q0 LL h1 h2 h3 => ⟨(hp3.out jj q q0 LL h1 h2 h3).1.ext N3.out, (hp3.out jj q q0 LL h1 h2 h3).2⟩) (q := (⟨aO, xn, cO, xt, xk⟩ : QD)) (q0 := ⟨xa, xn, xc, xt, xk⟩) (N := NN) ⟨X3.out, rfl, rfl⟩ ho9 hg9
    rw [show QS.take k ++ [⟨xa, xn, xc, xt, xk⟩] = QS.take (k + 1) by rw [List.take_add_one, hxs.out]; rfl, show NS.take k ++ [NN] = NS.take (k + 1) by rw [List.take_add_one, hNs.out]; rfl] at hown9
    have O4 := Lib.hid (blk_own O3.out (P0.out.ext N3.out) (by decide) hg9)
    have L4 : Hid (Below W2.heap.size W2 U4) := Lib.hid (own_below L3.out hg9 (P0.out.ext N3.out) L3.out.size (Nat.le_refl _))
    obtain ⟨a9, c9, rfl⟩ := hown9.shape
    generalize (QS.take (k + 1)).length = lk at *
    have Y4 := Lib.hid hown9
    clear hown9 ho9 hg9 hsrc hi7 hq0 hq1 hq2 hqbx
    refine hK.out _ _ (cs.out _ L4.out) (fun hHeld => ?_)
    clear hK K
    try simp only [pz0, pz2, pz3, pz4]
    refine tkz 10 (qCqM4 _) ?_ rfl ?_ ?_
    rotate_left
    ·intro w hSw
     unfold qCqM4
     go_simp
     first | done | with_reducible rfl
    try simp only [qCqM4, pz0, pz2, pz3, pz4]
    refine wpAnyH_ready (rs := [11]) (by kernel_rfl) (by simp) ?_
    refine arz (qCqM5 _) rfl (fun K hK => ?_) AllReadyH.nil
    unfold qCqM5
    have t5 : U4.cell? ⟨W2.heap.size, 10, none⟩ = some (.slice av k cv) := (O4.out.cell 10).trans rfl
    have f5 : U4.frozen? ⟨W2.heap.size, 10, none⟩ = false := by rw [O4.out.frozen]; try simp
    go_simp
    obtain ⟨U5, e5⟩ : ∃ U, U4.setCell ⟨W2.heap.size, 10, none⟩ (.slice a9 lk c9) = U := ⟨_, rfl⟩
    try rw [e5]
    have g5 : U4.grownBy U5 (some W2.heap.size) := by rw [← e5]; exact grown_set _ _ _ _
    have O5 : Hid (Blk U5 W2.heap.size 60 (0, 0) [m0, m1, m2, m3, m4, m5, m6, m7, m8, m9, .slice a9 lk c9, .slice an nn1 nc1, .slice au nn2 nc2, .slice ad nn3 nc3]) := Lib.hid (by rw [← e5]; exact O4.out.set 10 _)
    have Y5 := Lib.hid (ownQs_store Y4.out O4.out (by decide) (by decide) g5)
    have L5 : Hid (Below W2.heap.size W2 U5) := Lib.hid (L4.out.grown g5 L4.out.size (fun j hj => by cases hj; exact Nat.le_refl _))
    clear t5 f5 e5 g5
    refine hK.out _ _ (cs.out _ L5.out) (fun hHeld => ?_)
    clear hK K
    refine wpAnyH_done (by kernel_rfl) ?_ _
    refine NoPanic.normal ?_
    clear hHeld
    go_wp2_with fail
    exact ⟨⟨k + 1, _, by omega, by go_num, O5, Y5, L5⟩, by simp [intOf]; omega⟩
   refine arz (qCqM1 _) rfl (fun K hK => ?_) AllReadyH.nil
   unfold qCqM1
   refine step_call (by rfl) (.tmp 20) 90 (by rfl) (by rfl) enter54 ?_
   refine (copy_q xt xk (hnm'.out.ext L0.out)).mono ?_
   rintro e U6 ⟨⟨aO, cO, rfl, hO⟩, q1⟩
   have X6 := Lib.hid (hO.mono L0.out.size)
   have L6 := Lib.hid (L0.out.trans (q1.mono L0.out.size))
   have N6 := Lib.hid (N0.out.trans (q1.mono N0.out.size))
   have O6 := Lib.hid (O0.out.below q1 O0.out.lt)
   clear hO q1
   refine ⟨_, rfl, ?_⟩
   refine hK.out _ _ (cs.out _ L6.out) (fun hHeld => ?_)
   clear hK K
   try simp only [pz0, pz2, pz3, pz4]
   refine wpAnyH_ready (rs := [1, 8]) (by kernel_rfl) (by simp) ?_
   refine arz (qCqM0 _) rfl (fun K hK => ?_) ?_
   ·unfold qCqM0
    have t7 : U6.cell? ⟨W2.heap.size, 10, none⟩ = some (.slice av k cv) := (O6.out.cell 10).trans rfl
    go_simp
    clear t7
    refine hK.out _ _ (cs.out _ L6.out) (fun hHeld => ?_)
    clear hK K
    try simp only [pz0, pz2, pz3, pz4]
    refine wpAnyH_ready (rs := [8]) (by kernel_rfl) (by simp) ?_
    refine arz (qCqM2 _) rfl (fun K hK => ?_) AllReadyH.nil
    unfold qCqM2
    go_simp
    obtain ⟨U8, e8⟩ : ∃ U, U6.alloc (.cells #[.slice aO xn cO, .int .u16 xt, .int .u16 xk] 90) = U := ⟨_, rfl⟩
    have q8 : Hid (Below U6.heap.size U6 U8) := Lib.hid (by rw [← e8]; exact alloc_bel _ _)
    have B8 : Hid (Blk U8 U6.heap.size 90 (0, 0) [.slice aO xn cO, .int .u16 xt, .int .u16 xk]) := Lib.hid (by rw [← e8]; exact Blk.new U6 90 (0, 0) #[.slice aO xn cO, .int .u16 xt, .int .u16 xk])
    have L8 := Lib.hid (L6.out.trans (q8.out.mono L6.out.size))
    have N8 := Lib.hid (N6.out.trans (q8.out.mono N6.out.size))
    have O8 := Lib.hid (O6.out.below q8.out O6.out.lt)
    have X8 := Lib.hid (X6.out.ext q8.out)
    rw [e8]
    clear e8
    refine hK.out _ _ (cs.out _ L8.out) (fun hHeld => ?_)
    clear hK K
    try simp only [pz0, pz2, pz3, pz4]
    refine wpAnyH_ready (rs := [9]) (by kernel_rfl) (by simp) ?_
    refine arz (qCqM3 _) rfl (fun K hK => ?_) AllReadyH.nil
    unfold qCqM3
    obtain ⟨i0, hi7, hq0, hq1, hq2⟩ := info_parts Try.info90
    have hqbx := hqb.out
    have hsrc : Src Try.prog qsE.k 58 (.slice (some ⟨U6.heap.size, 0, none⟩) 1 1) 1 (rowOf qsE [(⟨aO, xn, cO, xt, xk⟩ : QD)]) U8 := (rd_blk (E := qsE) (X := [(⟨aO, xn, cO, xt, xk⟩ : QD)]) (fz := (0, 0)) (B8.out) 1 rfl (by decide)).src (P := Try.prog) (tx := 58) Try.underlying58
    refine step_own (E := qsE) (l := qs) (news := [(⟨aO, xn, cO, xt, xk⟩ : QD)]) (base := W2.heap.size) (by rfl) (.tmp 15) (.tmp 22) 58 58 (by rfl) Try.underlying58 hi7 hq0 hq1 hq2 rfl (by rfl) (P0.out.ext N8.out) (by rfl) hsrc (by simp [maxLen]; omega) (by simp; omega) L8.out.size ?_
    intro v9 U9 ho9 hg9 _
    have hown9 := OwnQs.app (QS := QS.take k) (NS := NS.take k) (P0.out.ext N8.out) hp2.out (by simp; omega) (fun jj q q0 LL h1 h2 h3 => ⟨(hp3.out jj q q0 LL h1 h2 h3).1.ext N8.out, (hp3.out jj q q0 LL h1 h2 h3).2⟩) (q := (⟨aO, xn, cO, xt, xk⟩ : QD)) (q0 := ⟨xa, xn, xc, xt, xk⟩) (N := NN) ⟨X8.out, rfl, rfl⟩ ho9 hg9
    rw [show QS.take k ++ [⟨xa, xn, xc, xt, xk⟩] = QS.take (k + 1) by rw [List.take_add_one, hxs.out]; rfl, show NS.take k ++ [NN] = NS.take (k + 1) by rw [List.take_add_one, hNs.out]; rfl] at hown9
    have O9 := Lib.hid (blk_own O8.out (P0.out.ext N8.out) (by decide) hg9)
    have L9 : Hid (Below W2.heap.size W2 U9) := Lib.hid (own_below L8.out hg9 (P0.out.ext N8.out) L8.out.size (Nat.le_refl _))
    obtain ⟨a9, c9, rfl⟩ := hown9.shape
    generalize (QS.take (k + 1)).length = lk at *
    have Y9 := Lib.hid hown9
    clear hown9 ho9 hg9 hsrc hi7 hq0 hq1 hq2 hqbx
    refine hK.out _ _ (cs.out _ L9.out) (fun hHeld => ?_)
    clear hK K
    try simp only [pz0, pz2, pz3, pz4]
    refine tkz 10 (qCqM4 _) ?_ rfl ?_ ?_
    rotate_left
    ·intro w hSw
     unfold qCqM4
     go_simp
     first | done | with_reducible rfl
    try simp only [qCqM4, pz0, pz2, pz3, pz4]
    refine wpAnyH_ready (rs := [11]) (by kernel_rfl) (by simp) ?_
    refine arz (qCqM5 _) rfl (fun K hK => ?_) AllReadyH.nil
    unfold qCqM5
    have t10 : U9.cell? ⟨W2.heap.size, 10, none⟩ = some (.slice av k cv) := (O9.out.cell 10).trans rfl
    have f10 : U9.frozen? ⟨W2.heap.size, 10, none⟩ = false := by rw [O9.out.frozen]; try simp
    go_simp
    obtain ⟨U10, e10⟩ : ∃ U, U9.setCell ⟨W2.heap.size, 10, none⟩ (.slice a9 lk c9) = U := ⟨_, rfl⟩
    try rw [e10]
    have g10 : U9.grownBy U10 (some W2.heap.size) := by rw [← e10]; exact grown_set _ _ _ _
    have O10 : Hid (Blk U10 W2.heap.size 60 (0, 0) [m0, m1, m2, m3, m4, m5, m6, m7, m8, m9, .slice a9 lk c9, .slice an nn1 nc1, .slice au nn2 nc2, .slice ad nn3 nc3]) := Lib.hid (by rw [← e10]; exact O9.out.set 10 _)
    have Y10 := Lib.hid (ownQs_store Y9.out O9.out (by decide) (by decide) g10)
    have L10 : Hid (Below W2.heap.size W2 U10) := Lib.hid (L9.out.grown g10 L9.out.size (fun j hj => by cases hj; exact Nat.le_refl _))
    clear t10 f10 e10 g10
    refine hK.out _ _ (cs.out _ L10.out) (fun hHeld => ?_)
    clear hK K
    refine wpAnyH_done (by kernel_rfl) ?_ _
    refine NoPanic.normal ?_
    clear hHeld
    go_wp2_with fail
    exact ⟨⟨k + 1, _, by omega, by go_num, O10, Y10, L10⟩, by simp [intOf]; omega⟩
   refine arz (qCqM2 _) rfl (fun K hK => ?_) AllReadyH.nil
   unfold qCqM2
   go_simp
   obtain ⟨U11, e11⟩ : ∃ U, U6.alloc (.cells #[.slice aO xn cO, .int .u16 xt, .int .u16 xk] 90) = U := ⟨_, rfl⟩
   have q11 : Hid (Below U6.heap.size U6 U11) := Lib.hid (by rw [← e11]; exact alloc_bel _ _)
   have B11 : Hid (Blk U11 U6.heap.size 90 (0, 0) [.slice aO xn cO, .int .u16 xt, .int .u16 xk]) := Lib.hid (by rw [← e11]; exact Blk.new U6 90 (0, 0) #[.slice aO xn cO, .int .u16 xt, .int .u16 xk])
   have L11 := Lib.hid (L6.out.trans (q11.out.mono L6.out.size))
   have N11 := Lib.hid (N6.out.trans (q11.out.mono N6.out.size))
   have O11 := Lib.hid (O6.out.below q11.out O6.out.lt)
   have X11 := Lib.hid (X6.out.ext q11.out)
   rw [e11]
   clear e11
   refine hK.out _ _ (cs.out _ L11.out) (fun hHeld => ?_)
   clear hK K
   try simp only [pz0, pz2, pz3, pz4]
   refine wpAnyH_ready (rs := [1]) (by kernel_rfl) (by simp) ?_
   refine arz (qCqM0 _) rfl (fun K hK => ?_) AllReadyH.nil
   unfold qCqM0
   have t12 : U11.cell? ⟨W2.heap.size, 10, none⟩ = some (.slice av k cv) := (O11.out.cell 10).trans rfl
   go_simp
   clear t12
   refine hK.out _ _ (cs.out _ L11.out) (fun hHeld => ?_)
   clear hK K
   try simp only [pz0, pz2, pz3, pz4]
   refine wpAnyH_ready (rs := [9]) (by kernel_rfl) (by simp) ?_
   refine arz (qCqM3 _) rfl (fun K hK => ?_) AllReadyH.nil
   unfold qCqM3
   obtain ⟨i0, hi7, hq0, hq1, hq2⟩ := info_parts Try.info90
   have hqbx := hqb.out
   have hsrc : Src Try.prog qsE.k 58 (.slice (some ⟨U6.heap.size, 0, none⟩) 1 1) 1 (rowOf qsE [(⟨aO, xn, cO, xt, xk⟩ : QD)]) U11 := (rd_blk (E := qsE) (X := [(⟨aO, xn, cO, xt, xk⟩ : QD)]) (fz := (0, 0)) (B11.out) 1 rfl (by decide)).src (P := Try.prog) (tx := 58) Try.underlying58
   refine step_own (E := qsE) (l := qs) (news := [(⟨aO, xn, cO, xt, xk⟩ : QD)]) (base := W2.heap.size) (by rfl) (.tmp 15) (.tmp 22) 58 58 (by rfl) Try.underlying58 hi7 hq0 hq1 hq2 rfl (by rfl) (P0.out.ext N11.out) (by rfl) hsrc (by simp [maxLen]; omega) (by simp; omega) L11.out.size ?_
   intro v9 U13 ho9 hg9 _
   have hown9 := OwnQs.app (QS := QS.take k) (NS := NS.take k) (P0.out.ext N11.out) hp2.out (by simp; omega) (fun jj q q0 LL h1 h2 h3 => ⟨(hp3.out jj q q0 LL h1 h2 h3).1.ext N11.out, (hp3.out jj q q0 LL h1 h2 h3).2⟩) (q := (⟨aO, xn, cO, xt, xk⟩ : QD)) (q0 := ⟨xa, xn, xc, xt, xk⟩) (N := NN) ⟨X11.out, rfl, rfl⟩ ho9 hg9
   rw [show QS.take k ++ [⟨xa, xn, xc, xt, xk⟩] = QS.take (k + 1) by rw [List.take_add_one, hxs.out]; rfl, show NS.take k ++ [NN] = NS.take (k + 1) by rw [List.take_add_one, hNs.out]; rfl] at hown9
   have O13 := Lib.hid (blk_own O11.out (P0.out.ext N11.out) (by decide) hg9)
   have L13 : Hid (Below W2.heap.size W2 U13) := Lib.hid (own_below L11.out hg9 (P0.out.ext N11.out) L11.out.size (Nat.le_refl _))
   obtain ⟨a9, c9, rfl⟩ := hown9.shape
   generalize (QS.take (k + 1)).length = lk at *
   have Y13 := Lib.hid hown9
   clear hown9 ho9 hg9 hsrc hi7 hq0 hq1 hq2 hqbx
   refine hK.out _ _ (cs.out _ L13.out) (fun hHeld => ?_)
   clear hK K
   try simp only [pz0, pz2, pz3, pz4]
   refine tkz 10 (qCqM4 _) ?_ rfl ?_ ?_
   rotate_left
   ·intro w hSw
    unfold qCqM4
    go_simp
    first | done | with_reducible rfl
   try simp only [qCqM4, pz0, pz2, pz3, pz4]
   refine wpAnyH_ready (rs := [11]) (by kernel_rfl) (by simp) ?_
   refine arz (qCqM5 _) rfl (fun K hK => ?_) AllReadyH.nil
   unfold qCqM5
   have t14 : U13.cell? ⟨W2.heap.size, 10, none⟩ = some (.slice av k cv) := (O13.out.cell 10).trans rfl
   have f14 : U13.frozen? ⟨W2.heap.size, 10, none⟩ = false := by rw [O13.out.frozen]; try simp
   go_simp
   obtain ⟨U14, e14⟩ : ∃ U, U13.setCell ⟨W2.heap.size, 10, none⟩ (.slice a9 lk c9) = U := ⟨_, rfl⟩
   try rw [e14]
   have g14 : U13.grownBy U14 (some W2.heap.size) := by rw [← e14]; exact grown_set _ _ _ _
   have O14 : Hid (Blk U14 W2.heap.size 60 (0, 0) [m0, m1, m2, m3, m4, m5, m6, m7, m8, m9, .slice a9 lk c9, .slice an nn1 nc1, .slice au nn2 nc2, .slice ad nn3 nc3]) := Lib.hid (by rw [← e14]; exact O13.out.set 10 _)
   have Y14 := Lib.hid (ownQs_store Y13.out O13.out (by decide) (by decide) g14)
   have L14 : Hid (Below W2.heap.size W2 U14) := Lib.hid (L13.out.grown g14 L13.out.size (fun j hj => by cases hj; exact Nat.le_refl _))
   clear t14 f14 e14 g14
   refine hK.out _ _ (cs.out _ L14.out) (fun hHeld => ?_)
   clear hK K
   refine wpAnyH_done (by kernel_rfl) ?_ _
   refine NoPanic.normal ?_
   clear hHeld
   go_wp2_with fail
   exact ⟨⟨k + 1, _, by omega, by go_num, O14, Y14, L14⟩, by simp [intOf]; omega⟩
  ·skip
   have hkn : k = qn := by omega
   subst hkn
   rw [List.take_of_length_le (by omega), List.take_of_length_le (by omega)] at hv
   obtain ⟨av, cv, rfl⟩ := hv.out.shape
   clear hQl hQl2
   generalize QS.length = lq at *
   have cs : Hid (∀ U : World, Below W2.heap.size W2 U → U.cell? ⟨w.heap.size, 11, none⟩ = some (.slice an nn1 nc1) ∧ U.cell? ⟨w.heap.size, 12, none⟩ = some (.slice au nn2 nc2) ∧ U.cell? ⟨w.heap.size, 13, none⟩ = some (.slice ad nn3 nc3)) := Lib.hid (fun U hU => ⟨((BM.out.below hU BM.out.lt).cell 11).trans rfl, ((BM.out.below hU BM.out.lt).cell 12).trans rfl, ((BM.out.below hU BM.out.lt).cell 13).trans rfl⟩)
   go_upto_region 7 with (fail)
   clear cP hlt hk hqb hqn
   refine wp_region_noPanic ?_
   refine wp_region_held_drew (S := fun U => U.cell? ⟨w.heap.size, 11, none⟩ = some (.slice an nn1 nc1) ∧ U.cell? ⟨w.heap.size, 12, none⟩ = some (.slice au nn2 nc2) ∧ U.cell? ⟨w.heap.size, 13, none⟩ = some (.slice ad nn3 nc3)) (by kernel_rfl) (cs.out _ hL.out.drew) (fun hHeld => ?_)
   have L0 : Hid (Below W2.heap.size W2 wr.drew) := Lib.hid hL.out.drew
   have O0 : Hid (Blk wr.drew W2.heap.size 60 (0, 0) [m0, m1, m2, m3, m4, m5, m6, m7, m8, m9, .slice av lq cv, .slice an nn1 nc1, .slice au nn2 nc2, .slice ad nn3 nc3]) := Lib.hid hM.out.drew
   have Y0 : Hid (OwnQs wr.drew W2.heap.size (.slice av lq cv) QS NS) := Lib.hid (hv.out.ext (Below.refl _ _).drew)
   generalize wr.drew = U0 at *
   refine tkz 0 ({ dst := some 25, op := Op.fieldAddr 60 (Operand.tmp 1) 11, type := 0, pos := _, after := #[], guard := none }) ?_ rfl ?_ ?_
   rotate_left
   ·intro w hSw
    go_simp
    first | done | with_reducible rfl
   try simp only [pz0, pz2, pz3, pz4]
   refine tkz 1 ({ dst := some 26, op := Op.load 55 (Operand.tmp 25), type := 55, pos := _, after := #[{ on := 0, ground := Ground.data }], guard := none }) ?_ rfl ?_ ?_
   rotate_left
   ·intro w hSw
    go_simp
    first | done | with_reducible rfl
   try simp only [pz0, pz2, pz3, pz4]
   refine tkz 3 ({ dst := some 28, op := Op.fieldAddr 60 (Operand.tmp 1) 12, type := 0, pos := _, after := #[], guard := none }) ?_ rfl ?_ ?_
   rotate_left
   ·intro w hSw
    go_simp
    first | done | with_reducible rfl
   try simp only [pz0, pz2, pz3, pz4]
   refine tkz 4 ({ dst := some 29, op := Op.load 55 (Operand.tmp 28), type := 55, pos := _, after := #[{ on := 3, ground := Ground.data }], guard := none }) ?_ rfl ?_ ?_
   rotate_left
   ·intro w hSw
    go_simp
    first | done | with_reducible rfl
   try simp only [pz0, pz2, pz3, pz4]
   refine tkz 6 ({ dst := some 31, op := Op.fieldAddr 60 (Operand.tmp 1) 13, type := 0, pos := _, after := #[], guard := none }) ?_ rfl ?_ ?_
   rotate_left
   ·intro w hSw
    go_simp
    first | done | with_reducible rfl
   try simp only [pz0, pz2, pz3, pz4]
   refine tkz 7 ({ dst := some 32, op := Op.load 55 (Operand.tmp 31), type := 55, pos := _, after := #[{ on := 6, ground := Ground.data }], guard := none }) ?_ rfl ?_ ?_
   rotate_left
   ·intro w hSw
    go_simp
    first | done | with_reducible rfl
   try simp only [pz0, pz2, pz3, pz4]
   refine wpAnyH_ready (rs := [2]) (by kernel_rfl) (by simp) ?_
   refine AllReadyH.cons (o := { dst := some 27, op := Op.call { callee := Callee.value (Operand.func 55), args := #[Operand.tmp 26], argTypes := #[55] }, type := 55, pos := _, after := #[{ on := 1, ground := Ground.data }], guard := none }) rfl (fun K hK => ?_) AllReadyH.nil
   refine step_call (by rfl) (.tmp 26) 55 (by rfl) (by rfl) enter55 ?_
   refine (copy_recs (hR1.out.ext L0.out)).mono ?_
   rintro e U1 ⟨⟨v1, rfl, hw⟩, m1⟩
   obtain ⟨a1, c1, rfl⟩ := hw.shape
   have L1 := Lib.hid (L0.out.trans (m1.mono L0.out.size))
   have O1 := Lib.hid (O0.out.below m1 O0.out.lt)
   have Y1 := Lib.hid (Y0.out.ext m1)
   have V1_1 := Lib.hid (hw.mono L0.out.size)
   clear hw m1
   refine ⟨_, rfl, ?_⟩
   refine hK.out _ _ (cs.out _ L1.out) (fun hHeld => ?_)
   clear hK K
   try simp only [pz0, pz2, pz3, pz4]
   refine tkz 9 ({ dst := some 34, op := Op.fieldAddr 60 (Operand.tmp 3) 11, type := 0, pos := _, after := #[{ on := 0, ground := Ground.phase }, { on := 1, ground := Ground.phase }, { on := 2, ground := Ground.phase }, { on := 3, ground := Ground.textOnly Departure.lateStores }, { on := 4, ground := Ground.textOnly Departure.lateStores }, { on := 5, ground := Ground.textOnly Departure.lateStoresUnsure }, { on := 6, ground := Ground.textOnly Departure.lateStores }, { on := 7, ground := Ground.textOnly Departure.lateStores }, { on := 8, ground := Ground.textOnly Departure.lateStoresUnsure }], guard := none }) ?_ rfl ?_ ?_
   rotate_left
   ·intro w hSw
    go_simp
    first | done | with_reducible rfl
   try simp only [pz0, pz2, pz3, pz4]
   refine wpAnyH_ready (rs := [5]) (by kernel_rfl) (by simp) ?_
   refine AllReadyH.cons (o := { dst := some 30, op := Op.call { callee := Callee.value (Operand.func 55), args := #[Operand.tmp 29], argTypes := #[55] }, type := 55, pos := _, after := #[{ on := 4, ground := Ground.data }, { on := 2, ground := Ground.chain }], guard := none }) rfl (fun K hK => ?_) AllReadyH.nil
   refine step_call (by rfl) (.tmp 29) 55 (by rfl) (by rfl) enter55 ?_
   refine (copy_recs (hR2.out.ext L1.out)).mono ?_
   rintro e U2 ⟨⟨v2, rfl, hw⟩, m2⟩
   obtain ⟨a2, c2, rfl⟩ := hw.shape
   have L2 := Lib.hid (L1.out.trans (m2.mono L1.out.size))
   have O2 := Lib.hid (O1.out.below m2 O1.out.lt)
   have Y2 := Lib.hid (Y1.out.ext m2)
   have V2_2 := Lib.hid (hw.mono L1.out.size)
   have V1_2 := Lib.hid (V1_1.out.ext m2)
   clear hw m2
   refine ⟨_, rfl, ?_⟩
   refine hK.out _ _ (cs.out _ L2.out) (fun hHeld => ?_)
   clear hK K
   try simp only [pz0, pz2, pz3, pz4]
   refine wpAnyH_ready (rs := [8]) (by kernel_rfl) (by simp) ?_
   refine AllReadyH.cons (o := { dst := some 33, op := Op.call { callee := Callee.value (Operand.func 55), args := #[Operand.tmp 32], argTypes := #[55] }, type := 55, pos := _, after := #[{ on := 7, ground := Ground.data }, { on := 5, ground := Ground.chain }], guard := none }) rfl (fun K hK => ?_) AllReadyH.nil
   refine step_call (by rfl) (.tmp 32) 55 (by rfl) (by rfl) enter55 ?_
   refine (copy_recs (hR3.out.ext L2.out)).mono ?_
   rintro e U3 ⟨⟨v3, rfl, hw⟩, m3⟩
   obtain ⟨a3, c3, rfl⟩ := hw.shape
   have L3 := Lib.hid (L2.out.trans (m3.mono L2.out.size))
   have O3 := Lib.hid (O2.out.below m3 O2.out.lt)
   have Y3 := Lib.hid (Y2.out.ext m3)
   have V3_3 := Lib.hid (hw.mono L2.out.size)
   have V1_3 := Lib.hid (V1_2.out.ext m3)
   have V2_3 := Lib.hid (V2_2.out.ext m3)
   clear hw m3
   refine ⟨_, rfl, ?_⟩
   refine hK.out _ _ (cs.out _ L3.out) (fun hHeld => ?_)
   clear hK K
   try simp only [pz0, pz2, pz3, pz4]
   refine wpAnyH_ready (rs := [10]) (by kernel_rfl) (by simp) ?_
   refine AllReadyH.cons (o := { dst := none, op := Op.store 55 (Operand.tmp 34) (Operand.tmp 27), type := 0, pos := _, after := #[{ on := 9, ground := Ground.data }, { on := 2, ground := Ground.data }, { on := 8, ground := Ground.chain }, { on := 0, ground := Ground.phase }, { on := 1, ground := Ground.phase }, { on := 2, ground := Ground.phase }, { on := 3, ground := Ground.textOnly Departure.lateStores }, { on := 4, ground := Ground.textOnly Departure.lateStores }, { on := 5, ground := Ground.textOnly Departure.lateStoresUnsure }, { on := 6, ground := Ground.textOnly Departure.lateStores }, { on := 7, ground := Ground.textOnly Departure.lateStores }, { on := 8, ground := Ground.textOnly Departure.lateStoresUnsure }], guard := none }) rfl (fun K hK => ?_) AllReadyH.nil
   have t4 : U3.cell? ⟨W2.heap.size, 11, none⟩ = some (.slice an nn1 nc1) := (O3.out.cell 11).trans rfl
   have f4 : U3.frozen? ⟨W2.heap.size, 11, none⟩ = false := by rw [O3.out.frozen]; try simp
   go_simp
   obtain ⟨U4, e4⟩ : ∃ U, U3.setCell ⟨W2.heap.size, 11, none⟩ (.slice a1 Q1.length c1) = U := ⟨_, rfl⟩
   try rw [e4]
   have g4 : U3.grownBy U4 (some W2.heap.size) := by rw [← e4]; exact grown_set _ _ _ _
   have O4 : Hid (Blk U4 W2.heap.size 60 (0, 0) [m0, m1, m2, m3, m4, m5, m6, m7, m8, m9, .slice av lq cv, .slice a1 Q1.length c1, .slice au nn2 nc2, .slice ad nn3 nc3]) := Lib.hid (by rw [← e4]; exact O3.out.set 11 _)
   have Y4 := Lib.hid (ownQs_store Y3.out O3.out (by decide) (by decide) g4)
   have V1_4 := Lib.hid (ownRs_store V1_3.out O3.out g4)
   have V2_4 := Lib.hid (ownRs_store V2_3.out O3.out g4)
   have V3_4 := Lib.hid (ownRs_store V3_3.out O3.out g4)
   have L4 : Hid (Below W2.heap.size W2 U4) := Lib.hid (L3.out.grown g4 L3.out.size (fun j hj => by cases hj; exact Nat.le_refl _))
   clear t4 f4 e4 g4
   refine hK.out _ _ (cs.out _ L4.out) (fun hHeld => ?_)
   clear hK K
   refine tkz 11 ({ dst := some 35, op := Op.fieldAddr 60 (Operand.tmp 3) 12, type := 0, pos := _, after := #[{ on := 0, ground := Ground.phase }, { on := 1, ground := Ground.phase }, { on := 2, ground := Ground.phase }, { on := 3, ground := Ground.phase }, { on := 4, ground := Ground.phase }, { on := 5, ground := Ground.phase }, { on := 6, ground := Ground.textOnly Departure.lateStores }, { on := 7, ground := Ground.textOnly Departure.lateStores }, { on := 8, ground := Ground.textOnly Departure.lateStoresUnsure }, { on := 9, ground := Ground.phase }, { on := 10, ground := Ground.phase }], guard := none }) ?_ rfl ?_ ?_
   rotate_left
   ·intro w hSw
    go_simp
    first | done | with_reducible rfl
   try simp only [pz0, pz2, pz3, pz4]
   refine wpAnyH_ready (rs := [12]) (by kernel_rfl) (by simp) ?_
   refine AllReadyH.cons (o := { dst := none, op := Op.store 55 (Operand.tmp 35) (Operand.tmp 30), type := 0, pos := _, after := #[{ on := 11, ground := Ground.data }, { on := 5, ground := Ground.data }, { on := 10, ground := Ground.chain }, { on := 0, ground := Ground.phase }, { on := 1, ground := Ground.phase }, { on := 2, ground := Ground.phase }, { on := 3, ground := Ground.phase }, { on := 4, ground := Ground.phase }, { on := 5, ground := Ground.phase }, { on := 6, ground := Ground.textOnly Departure.lateStores }, { on := 7, ground := Ground.textOnly Departure.lateStores }, { on := 8, ground := Ground.textOnly Departure.lateStoresUnsure }, { on := 9, ground := Ground.phase }, { on := 10, ground := Ground.phase }], guard := none }) rfl (fun K hK => ?_) AllReadyH.nil
   have t5 : U4.cell? ⟨W2.heap.size, 12, none⟩ = some (.slice au nn2 nc2) := (O4.out.cell 12).trans rfl
   have f5 : U4.frozen? ⟨W2.heap.size, 12, none⟩ = false := by rw [O4.out.frozen]; try simp
   go_simp
   obtain ⟨U5, e5⟩ : ∃ U, U4.setCell ⟨W2.heap.size, 12, none⟩ (.slice a2 Q2.length c2) = U := ⟨_, rfl⟩
   try rw [e5]
   have g5 : U4.grownBy U5 (some W2.heap.size) := by rw [← e5]; exact grown_set _ _ _ _
   have O5 : Hid (Blk U5 W2.heap.size 60 (0, 0) [m0, m1, m2, m3, m4, m5, m6, m7, m8, m9, .slice av lq cv, .slice a1 Q1.length c1, .slice a2 Q2.length c2, .slice ad nn3 nc3]) := Lib.hid (by rw [← e5]; exact O4.out.set 12 _)
   have Y5 := Lib.hid (ownQs_store Y4.out O4.out (by decide) (by decide) g5)
   have V1_5 := Lib.hid (ownRs_store V1_4.out O4.out g5)
   have V2_5 := Lib.hid (ownRs_store V2_4.out O4.out g5)
   have V3_5 := Lib.hid (ownRs_store V3_4.out O4.out g5)
   have L5 : Hid (Below W2.heap.size W2 U5) := Lib.hid (L4.out.grown g5 L4.out.size (fun j hj => by cases hj; exact Nat.le_refl _))
   clear t5 f5 e5 g5
   refine hK.out _ _ (cs.out _ L5.out) (fun hHeld => ?_)
   clear hK K
   refine tkz 13 ({ dst := some 36, op := Op.fieldAddr 60 (Operand.tmp 3) 13, type := 0, pos := _, after := #[{ on := 0, ground := Ground.phase }, { on := 1, ground := Ground.phase }, { on := 2, ground := Ground.phase }, { on := 3, ground := Ground.phase }, { on := 4, ground := Ground.phase }, { on := 5, ground := Ground.phase }, { on := 6, ground := Ground.phase }, { on := 7, ground := Ground.phase }, { on := 8, ground := Ground.phase }, { on := 9, ground := Ground.phase }, { on := 10, ground := Ground.phase }, { on := 11, ground := Ground.phase }, { on := 12, ground := Ground.phase }], guard := none }) ?_ rfl ?_ ?_
   rotate_left
   ·intro w hSw
    go_simp
    first | done | with_reducible rfl
   try simp only [pz0, pz2, pz3, pz4]
   refine wpAnyH_ready (rs := [14]) (by kernel_rfl) (by simp) ?_
   refine AllReadyH.cons (o := { dst := none, op := Op.store 55 (Operand.tmp 36) (Operand.tmp 33), type := 0, pos := _, after := #[{ on := 13, ground := Ground.data }, { on := 8, ground := Ground.data }, { on := 12, ground := Ground.chain }, { on := 0, ground := Ground.phase }, { on := 1, ground := Ground.phase }, { on := 2, ground := Ground.phase }, { on := 3, ground := Ground.phase }, { on := 4, ground := Ground.phase }, { on := 5, ground := Ground.phase }, { on := 6, ground := Ground.phase }, { on := 7, ground := Ground.phase }, { on := 8, ground := Ground.phase }, { on := 9, ground := Ground.phase }, { on := 10, ground := Ground.phase }, { on := 11, ground := Ground.phase }, { on := 12, ground := Ground.phase }], guard := none }) rfl (fun K hK => ?_) AllReadyH.nil
   have t6 : U5.cell? ⟨W2.heap.size, 13, none⟩ = some (.slice ad nn3 nc3) := (O5.out.cell 13).trans rfl
   have f6 : U5.frozen? ⟨W2.heap.size, 13, none⟩ = false := by rw [O5.out.frozen]; try simp
   go_simp
   obtain ⟨U6, e6⟩ : ∃ U, U5.setCell ⟨W2.heap.size, 13, none⟩ (.slice a3 Q3.length c3) = U := ⟨_, rfl⟩
   try rw [e6]
   have g6 : U5.grownBy U6 (some W2.heap.size) := by rw [← e6]; exact grown_set _ _ _ _
   have O6 : Hid (Blk U6 W2.heap.size 60 (0, 0) [m0, m1, m2, m3, m4, m5, m6, m7, m8, m9, .slice av lq cv, .slice a1 Q1.length c1, .slice a2 Q2.length c2, .slice a3 Q3.length c3]) := Lib.hid (by rw [← e6]; exact O5.out.set 13 _)
   have Y6 := Lib.hid (ownQs_store Y5.out O5.out (by decide) (by decide) g6)
   have V1_6 := Lib.hid (ownRs_store V1_5.out O5.out g6)
   have V2_6 := Lib.hid (ownRs_store V2_5.out O5.out g6)
   have V3_6 := Lib.hid (ownRs_store V3_5.out O5.out g6)
   have L6 : Hid (Below W2.heap.size W2 U6) := Lib.hid (L5.out.grown g6 L5.out.size (fun j hj => by cases hj; exact Nat.le_refl _))
   clear t6 f6 e6 g6
   refine hK.out _ _ (cs.out _ L6.out) (fun hHeld => ?_)
   clear hK K
   refine wpAnyH_done (by kernel_rfl) ?_ _
   refine NoPanic.normal ?_
   clear hHeld
   have hoD : Hid (#[m0, m1, m2, m3, m4, m5, m6, m7, m8, m9, .slice av lq cv, .slice a1 Q1.length c1, .slice a2 Q2.length c2, .slice a3 Q3.length c3].all (·.oneCell') = true) := Lib.hid (by
    have h9 := ho'.out
    simp only [List.all_cons, List.all_nil, Bool.and_eq_true, Bool.and_true, List.all_toArray] at h9 ⊢
    obtain ⟨o0, o1, o2, o3, o4, o5, o6, o7, o8, o9⟩ := h9
    exact ⟨o0, o1, o2, o3, o4, o5, o6, o7, o8, o9, rfl, rfl, rfl, rfl⟩)
   have RZ := Lib.hid (BZ.out.below L6.out BZ.out.lt)
   have p0 : U6.cell? ⟨W2.heap.size, 0, none⟩ = some (m0) := (O6.out.cell 0).trans rfl
   have p1 : U6.cell? ⟨W2.heap.size, 1, none⟩ = some (m1) := (O6.out.cell 1).trans rfl
   have p2 : U6.cell? ⟨W2.heap.size, 2, none⟩ = some (m2) := (O6.out.cell 2).trans rfl
   have p3 : U6.cell? ⟨W2.heap.size, 3, none⟩ = some (m3) := (O6.out.cell 3).trans rfl
   have p4 : U6.cell? ⟨W2.heap.size, 4, none⟩ = some (m4) := (O6.out.cell 4).trans rfl
   have p5 : U6.cell? ⟨W2.heap.size, 5, none⟩ = some (m5) := (O6.out.cell 5).trans rfl
   have p6 : U6.cell? ⟨W2.heap.size, 6, none⟩ = some (m6) := (O6.out.cell 6).trans rfl
   have p7 : U6.cell? ⟨W2.heap.size, 7, none⟩ = some (m7) := (O6.out.cell 7).trans rfl
   have p8 : U6.cell? ⟨W2.heap.size, 8, none⟩ = some (m8) := (O6.out.cell 8).trans rfl
   have p9 : U6.cell? ⟨W2.heap.size, 9, none⟩ = some (m9) := (O6.out.cell 9).trans rfl
   have p10 : U6.cell? ⟨W2.heap.size, 10, none⟩ = some (.slice av lq cv) := (O6.out.cell 10).trans rfl
   have p11 : U6.cell? ⟨W2.heap.size, 11, none⟩ = some (.slice a1 Q1.length c1) := (O6.out.cell 11).trans rfl
   have p12 : U6.cell? ⟨W2.heap.size, 12, none⟩ = some (.slice a2 Q2.length c2) := (O6.out.cell 12).trans rfl
   have p13 : U6.cell? ⟨W2.heap.size, 13, none⟩ = some (.slice a3 Q3.length c3) := (O6.out.cell 13).trans rfl
   go_wp2_with (refine store_whole rfl 60 (.tmp 2) (.tmp 37) rfl rfl rfl RZ.out (by rfl) (by kernel_rfl) hoD.out ?_; intro w9 hBx hgx hzx; have R9 := Lib.hid hBx; have g9 := Lib.hid hgx; clear hBx hgx hzx)
   have hle : w.heap.size ≤ W2.heap.size := by have := hl1.out; have := hl2.out; omega
   have kF : Hid (Below w.heap.size w w9) := Lib.hid ((kb.out.trans (L6.out.mono kb.out.size)).grown g9.out (Nat.le_trans hle L6.out.size) (fun j hj => by cases hj; exact Nat.le_of_lt hl1.out))
   refine bodyPost_ret (results_c rfl _ rfl R9.out Try.underlying60 rfl (by kernel_rfl)) rfl ?_
   exact ⟨⟨_, _, _, _, rfl, OwnQs_mono (ownQs_store Y6.out RZ.out (by decide) (by decide) g9.out) hle, (ownRs_store V1_6.out RZ.out g9.out).mono hle, (ownRs_store V2_6.out RZ.out g9.out).mono hle, (ownRs_store V3_6.out RZ.out g9.out).mono hle⟩, kF.out⟩
end Go.Proofs.Ythgnlbdolilklaa
