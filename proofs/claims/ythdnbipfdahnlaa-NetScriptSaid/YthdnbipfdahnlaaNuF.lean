/- The law's act 19. Printed by gen_nuf.py. -/
import Derived.Test.YthdnbipfdahnlaaNuE
import Derived.Test.YthdnbipfdahnlaaKitC
namespace Go.Proofs.Ythdnbipfdahnlaa
open Go Go.RowKit
theorem enter11 (args : Array Value) (w : World) : (callFunc 11 args).run Try.prog w = .ok (.enter 11 args) w := Go.MuLone.run_callFunc_enter Try.func11 (by kernel_rfl) (by rfl) args w
theorem enter32 (args : Array Value) (w : World) : (callFunc 32 args).run Try.prog w = .ok (.enter 32 args) w := Go.MuLone.run_callFunc_enter Try.func32 (by kernel_rfl) (by rfl) args w
theorem lent_rd {w : World} {g n : Nat} {d : List UInt8} (hB : Blk w g 5 (0, 0) (u8s (lentL d))) (hd : d.length = n) (hn : n ≤ 140737488351232) : Rd byteE w (some ⟨g, 0, none⟩) n (n + 3) d ∧ Rd byteE w (some ⟨g, 0, none⟩) (n + 3) (n + 3) (lentL d) := by
  have h3 : Rd byteE w (some ⟨g, 0, none⟩) (n + 3) (n + 3) (lentL d) := rd_blk (E := byteE) (X := lentL d) (by rw [rowOf_byte]; exact hB) (n + 3) (by rw [lentL_length, hd]) (by simp [maxLen]; omega)
  refine ⟨⟨hd, by omega, by simp [maxLen]; omega, fun j hj i hi => ?_⟩, h3⟩
  obtain ⟨b, o, e1, e2⟩ := h3.at_ j (by rw [lentL_length]; omega) i hi
  refine ⟨b, o, e1, ?_⟩
  rw [e2]
  congr 2
  unfold lentL
  rw [List.getElem_append_left hj]
def ActB (w : World) (n B r N : Nat) (w' : World) : Prop := Below B w w' ∧ ∃ S s L, Bth w' n B S s r L (N + 1)
set_option maxHeartbeats 8000000 in
set_option maxRecDepth 100000 in
theorem act_any4 {w : World} {n B : Nat} {S : Nat → Prop} {s : NS} {r : Nat} {L : List Fl} {N : Nat} (hB : Bth w n B S s r L N) (hN : N ≤ 900) (kd : Int) (y : Int) (h : Hd) {da : Option Addr} {dn dc : Nat} {d : List UInt8} (hp : Rd byteE w da dn dc d) (hn : dn ≤ 140737488351232) (hap : ∀ b o s, 0 < dn → da = some ⟨b, o, s⟩ → ¬ S b ∧ b ≠ r) (h0 : kd ≠ 0) (h1 : kd ≠ 1) (h2 : kd ≠ 2) (h3 : kd ≠ 3) :
    Calls Try.prog 19 #[.pointer (some ⟨n, 0, none⟩), .pointer (some ⟨r, 0, none⟩), .agg #[.int .i64 kd, .int .u32 h.from_, .int .u16 h.fport, .int .u32 h.to_, .int .u16 h.tport, .bool h.stream, .slice da dn dc, .int .i64 y]] w fun e w' => e = .returned (.bool true) ∧ ActB w n B r N w' := by
  have e0 : (kd == 0) = false := by simpa using h0
  have e1 : (kd == 1) = false := by simpa using h1
  have e2 : (kd == 2) = false := by simpa using h2
  have e3 : (kd == 3) = false := by simpa using h3
  clear h0 h1 h2 h3
  have hdl := Lib.hid hp.len
  have hok := Lib.hid (hB.p.ok (by omega))
  have HB := Lib.hid hB
  have HP := Lib.hid hp
  have HAP := Lib.hid hap
  have hnw : Hid (n < w.heap.size ∧ r < w.heap.size ∧ B ≤ w.heap.size) := Lib.hid (by
    obtain ⟨_, _, _, _, _, _, hq⟩ := hB.a.P
    obtain ⟨_, _, _, _, _, _, _, hr⟩ := hB.q
    exact ⟨hq.blk.lt, hr.blk.lt, hB.a.bm⟩)
  clear hB hp hap
  obtain ⟨W1, hW1⟩ : ∃ W, w.alloc (.cells #[.int .i64 kd, .int .u32 h.from_, .int .u16 h.fport, .int .u32 h.to_, .int .u16 h.tport, .bool h.stream, .slice da dn dc, .int .i64 y] 54) = W := ⟨_, rfl⟩
  have B1 : Hid (Blk W1 w.heap.size 54 (0, 0) [.int .i64 kd, .int .u32 h.from_, .int .u16 h.fport, .int .u32 h.to_, .int .u16 h.tport, .bool h.stream, .slice da dn dc, .int .i64 y]) := Lib.hid (by rw [← hW1]; exact Blk.new w 54 (0, 0) #[.int .i64 kd, .int .u32 h.from_, .int .u16 h.fport, .int .u32 h.to_, .int .u16 h.tport, .bool h.stream, .slice da dn dc, .int .i64 y])
  have k1 : Hid (Below w.heap.size w W1) := Lib.hid (by rw [← hW1]; exact alloc_bel _ _)
  obtain ⟨W2, hW2⟩ : ∃ W, W1.alloc (.cells #[.int .u32 0, .int .u16 0, .int .u32 0, .int .u16 0, .bool false, .slice none 0 0] 32) = W := ⟨_, rfl⟩
  have B2 : Hid (Blk W2 W1.heap.size 32 (0, 0) [.int .u32 0, .int .u16 0, .int .u32 0, .int .u16 0, .bool false, .slice none 0 0]) := Lib.hid (by rw [← hW2]; exact Blk.new W1 32 (0, 0) #[.int .u32 0, .int .u16 0, .int .u32 0, .int .u16 0, .bool false, .slice none 0 0])
  have k2 : Hid (Below W1.heap.size W1 W2) := Lib.hid (by rw [← hW2]; exact alloc_bel _ _)
  have p0 : W1.cell? ⟨w.heap.size, 0, none⟩ = some (.int .i64 kd) := (B1.out.cell 0).trans rfl
  have p1 : W1.cell? ⟨w.heap.size, 1, none⟩ = some (.int .u32 h.from_) := (B1.out.cell 1).trans rfl
  have p2 : W1.cell? ⟨w.heap.size, 2, none⟩ = some (.int .u16 h.fport) := (B1.out.cell 2).trans rfl
  have p3 : W1.cell? ⟨w.heap.size, 3, none⟩ = some (.int .u32 h.to_) := (B1.out.cell 3).trans rfl
  have p4 : W1.cell? ⟨w.heap.size, 4, none⟩ = some (.int .u16 h.tport) := (B1.out.cell 4).trans rfl
  have p5 : W1.cell? ⟨w.heap.size, 5, none⟩ = some (.bool h.stream) := (B1.out.cell 5).trans rfl
  have p6 : W1.cell? ⟨w.heap.size, 6, none⟩ = some (.slice da dn dc) := (B1.out.cell 6).trans rfl
  have p7 : W1.cell? ⟨w.heap.size, 7, none⟩ = some (.int .i64 y) := (B1.out.cell 7).trans rfl
  go_enter Try.func19, Try.ntmps19
  go_upto_region 2 with (refine store_whole rfl 32 (.tmp 7) (.tmp 23) rfl rfl rfl B2.out (by rfl) (by kernel_rfl) (by first | kernel_rfl | rfl) ?_; intro w3 hBx hgx hzx; have B3 := Lib.hid hBx; have k3 := Lib.hid (fresh_store k2.out hgx); clear hBx hgx hzx)
  try rw [hW1]
  try rw [hW2]
  clear hW1 hW2 p0 p1 p2 p3 p4 p5 p6 p7
  have hl1 : Hid (w.heap.size < W1.heap.size) := Lib.hid B1.out.lt
  have A3 := Lib.hid (B1.out.below k3.out B1.out.lt)
  have K3 := Lib.hid (k1.out.trans (k3.out.mono k1.out.size))
  have hl3 : Hid (W1.heap.size < w3.heap.size) := Lib.hid B3.out.lt
  clear B1 B2 k1 k2 k3
  have p6 : w3.cell? ⟨w.heap.size, 6, none⟩ = some (.slice da dn dc) := (A3.out.cell 6).trans rfl
  have hle := Lib.hid (lent_bytes (HP.out.ext K3.out) hn)
  go_wp2_with fail
  refine hle.out.mono ?_
  rintro e w4 ⟨rfl, hbl, hb⟩
  have A4 := Lib.hid (A3.out.below hb A3.out.lt)
  have P4 := Lib.hid (B3.out.below hb B3.out.lt)
  have L4 := Lib.hid hbl
  have K4 := Lib.hid (K3.out.trans (hb.mono K3.out.size))
  clear hb hbl hle A3 B3 K3 p6
  obtain ⟨g, hg⟩ : ∃ g, w3.heap.size = g := ⟨_, rfl⟩
  rw [hg] at L4 hl3 ⊢
  clear hg
  have f5 : w4.frozen? ⟨W1.heap.size, 5, none⟩ = false := by rw [P4.out.frozen]; try simp
  have p5 : w4.cell? ⟨W1.heap.size, 5, none⟩ = some (.slice da dn dc) := (P4.out.cell 5).trans rfl
  go_upto_region 3 with (fail)
  obtain ⟨w5, hV⟩ : ∃ V, w4.setCell ⟨W1.heap.size, 5, none⟩ (.slice (some ⟨g, 0, none⟩) dn (dn + 3)) = V := ⟨_, rfl⟩
  try rw [hV]
  have hgV : w4.grownBy w5 (some W1.heap.size) := by rw [← hV]; exact grown_set _ _ _ _
  have BA : Hid (Blk w5 w.heap.size 54 (0, 0) [.int .i64 kd, .int .u32 h.from_, .int .u16 h.fport, .int .u32 h.to_, .int .u16 h.tport, .bool h.stream, .slice da dn dc, .int .i64 y]) := Lib.hid (A4.out.grownV2 hgV (fun e => by have e2 := Option.some.inj e; have := hl1.out; omega))
  have BP : Hid (Blk w5 W1.heap.size 32 (0, 0) [.int .u32 h.from_, .int .u16 h.fport, .int .u32 h.to_, .int .u16 h.tport, .bool h.stream, .slice (some ⟨g, 0, none⟩) dn (dn + 3)]) := Lib.hid (by rw [← hV]; exact P4.out.set 5 _)
  have BL : Hid (Blk w5 g 5 (0, 0) (u8s (lentL d))) := Lib.hid (L4.out.grownV2 hgV (fun e => by have e2 := Option.some.inj e; have := hl3.out; omega))
  have K5 := Lib.hid (K4.out.grown hgV K4.out.size (fun k hk => by cases hk; exact Nat.le_of_lt hl1.out))
  clear hV hgV A4 P4 L4 K4 f5 p5
  have hgs : Hid (w.heap.size < W1.heap.size ∧ W1.heap.size < g ∧ g < w5.heap.size ∧ w.heap.size < w5.heap.size ∧ W1.heap.size < w5.heap.size) := Lib.hid (by have h1 := hl1.out; have h2 := hl3.out; have h3 := BL.out.lt; omega)
  clear hl1 hl3
  have NA : Hid (NetA w5 n B w5.heap.size S s) := Lib.hid ((HB.out.a.ext K5.out).wide K5.out.size (Nat.le_refl _))
  have hSw : Hid (∀ x, S x → x < w.heap.size) := Lib.hid (fun x hx => HB.out.a.hi x hx)
  have RQ : Hid (RefP w5 (fun x => S x ∨ x = g) r (s.F.drop s.at_) L s.c) := Lib.hid (HB.out.q.tch (Tch.of_below (S := fun _ => False) K5.out) (fun _ _ e => e.elim) (fun x hx hs => hs.elim id (fun e => by have h1 := hgs.out; omega)))
  have HR : Hid (Rd byteE w5 da dn dc d) := Lib.hid (HP.out.ext K5.out)
  have KB : Hid (Below B w w5) := Lib.hid (K5.out.mono hnw.out.2.2)
  have hab : Hid (∀ b o s, 0 < dn → da = some ⟨b, o, s⟩ → b < w.heap.size ∧ ¬ S b ∧ b ≠ r) := Lib.hid (fun b o s h0 e => by
    obtain ⟨b1, o1, e1, hlt, _⟩ := HP.out.addr h0
    have e2 := e
    rw [e1] at e2
    cases e2
    exact ⟨hlt, HAP.out _ _ _ h0 e1⟩)
  clear HP HAP K5
  have p0 : w5.cell? ⟨w.heap.size, 0, none⟩ = some (.int .i64 kd) := (BA.out.cell 0).trans rfl
  go_upto_region 21 with (fail)
  clear p0 e0 e1 e2 e3
  have p6 : w5.cell? ⟨w.heap.size, 6, none⟩ = some (.slice da dn dc) := (BA.out.cell 6).trans rfl
  have q5 : w5.cell? ⟨W1.heap.size, 5, none⟩ = some (.slice (some ⟨g, 0, none⟩) dn (dn + 3)) := (BP.out.cell 5).trans rfl
  have hlr := Lib.hid (lent_rd BL.out hdl.out hn)
  have hkp := Lib.hid (kept_bytes hlr.out.2 (by omega : dn ≤ dn + 3) HR.out hn rfl)
  rw [beq_self_eq_true] at hkp
  go_wp2_with fail
  refine hkp.out.mono ?_
  rintro e y1 ⟨rfl, hb⟩
  clear hkp hlr p6 q5
  have NA1 := Lib.hid ((NA.out.ext hb).wide hb.size (Nat.le_refl _))
  have RQ1 := Lib.hid (RQ.out.ext hb)
  have BP1 := Lib.hid (BP.out.below hb BP.out.lt)
  have BL1 := Lib.hid (BL.out.below hb BL.out.lt)
  have KB1 := Lib.hid (KB.out.trans (hb.mono (by have h1 := KB.out.size; have h2 := hnw.out.2.2; omega)))
  clear hb
  have q5 : y1.cell? ⟨W1.heap.size, 5, none⟩ = some (.slice (some ⟨g, 0, none⟩) dn (dn + 3)) := (BP1.out.cell 5).trans rfl
  have hov := Lib.hid (over_bytes (w := y1) (b := g) (o := 0) (n := dn) (c := dn + 3) (C1 := []) (C2 := []) (X := lentL d) (by have h1 := BL1.out; simpa using h1) rfl (by rw [lentL_length, hdl.out]) (by omega) (by omega) (fun j _ => by simp))
  go_wp2_with fail
  refine hov.out.mono ?_
  rintro e y2 ⟨rfl, -, hg2⟩
  clear hov q5
  have T2 : Tch (fun x => x = g) y1 y2 := Tch.of_grown hg2 (fun k e => (Option.some.inj e).symm)
  have NA2 := Lib.hid ((NA1.out.tch T2 (fun x hx e => by subst e; exact (fun h => by have h1 := hSw.out _ h; have h2 := hgs.out; omega) hx)).wide T2.size (Nat.le_refl _))
  have RQ2 := Lib.hid (RQ1.out.tch (S' := S) T2 (fun x _ e => by subst e; exact .inr rfl) (fun x _ hx => .inl hx))
  have KB2 := Lib.hid (KB1.out.trans (T2.below (B := B) (by have h1 := KB1.out.size; have h2 := hnw.out.2.2; omega) (fun b _ e => by have h1 := hgs.out; have h2 := hnw.out.2.2; omega)))
  clear T2 hg2 NA1 RQ1 BP1 BL1 KB1
  have hct := Lib.hid (counts_any NA2.out.P)
  go_wp2_with fail
  refine hct.out.mono ?_
  rintro e y3 ⟨rfl, nq, rfl⟩
  clear hct
  obtain ⟨Y, hY⟩ : ∃ Y, y2.drewN nq = Y := ⟨_, rfl⟩
  have kY : Hid (Below y2.heap.size y2 Y) := Lib.hid (by rw [← hY]; exact bel_drewN _ _)
  rw [hY]
  clear hY
  have NA3 := Lib.hid ((NA2.out.ext kY.out).wide kY.out.size (Nat.le_refl _))
  have RQ3 := Lib.hid (RQ2.out.ext kY.out)
  have KB3 := Lib.hid (KB2.out.trans (kY.out.mono (by have h1 := KB2.out.size; have h2 := hnw.out.2.2; omega)))
  clear NA2 RQ2 KB2 kY
  have hfin : Hid (ActB w n B r N Y) := Lib.hid ⟨KB3.out, _, _, _, Bth.mk' NA3.out RQ3.out HB.out.br HB.out.p.next⟩
  obtain ⟨za, zn, zc, zla, zln, zlc, zFL, hz⟩ := RQ3.out
  have hzb := Lib.hid hz.blk
  clear hz
  obtain ⟨⟨c_0, c_1, c_2, c_3⟩, hcx⟩ : ∃ x, s.c = x := ⟨_, rfl⟩
  rw [hcx] at hzb ⊢
  dsimp only at hzb ⊢
  clear hcx
  have z2 : Y.cell? ⟨r, 2, none⟩ = some (.int .i64 c_0) := (hzb.out.cell 2).trans rfl
  have z3 : Y.cell? ⟨r, 3, none⟩ = some (.int .i64 c_1) := (hzb.out.cell 3).trans rfl
  have z4 : Y.cell? ⟨r, 4, none⟩ = some (.int .i64 c_2) := (hzb.out.cell 4).trans rfl
  have z5 : Y.cell? ⟨r, 5, none⟩ = some (.int .i64 c_3) := (hzb.out.cell 5).trans rfl
  go_wp2_with fail
  go_ret
  exact ⟨rfl, hfin.out⟩
set_option maxHeartbeats 8000000 in
set_option maxRecDepth 100000 in
theorem act_any3 {w : World} {n B : Nat} {S : Nat → Prop} {s : NS} {r : Nat} {L : List Fl} {N : Nat} (hB : Bth w n B S s r L N) (hN : N ≤ 900) (y : Int) (h : Hd) {da : Option Addr} {dn dc : Nat} {d : List UInt8} (hp : Rd byteE w da dn dc d) (hn : dn ≤ 140737488351232) (hap : ∀ b o s, 0 < dn → da = some ⟨b, o, s⟩ → ¬ S b ∧ b ≠ r) :
    Calls Try.prog 19 #[.pointer (some ⟨n, 0, none⟩), .pointer (some ⟨r, 0, none⟩), .agg #[.int .i64 3, .int .u32 h.from_, .int .u16 h.fport, .int .u32 h.to_, .int .u16 h.tport, .bool h.stream, .slice da dn dc, .int .i64 y]] w fun e w' => e = .returned (.bool true) ∧ ActB w n B r N w' := by
  have hdl := Lib.hid hp.len
  have hok := Lib.hid (hB.p.ok (by omega))
  have HB := Lib.hid hB
  have HP := Lib.hid hp
  have HAP := Lib.hid hap
  have hnw : Hid (n < w.heap.size ∧ r < w.heap.size ∧ B ≤ w.heap.size) := Lib.hid (by
    obtain ⟨_, _, _, _, _, _, hq⟩ := hB.a.P
    obtain ⟨_, _, _, _, _, _, _, hr⟩ := hB.q
    exact ⟨hq.blk.lt, hr.blk.lt, hB.a.bm⟩)
  clear hB hp hap
  obtain ⟨W1, hW1⟩ : ∃ W, w.alloc (.cells #[.int .i64 3, .int .u32 h.from_, .int .u16 h.fport, .int .u32 h.to_, .int .u16 h.tport, .bool h.stream, .slice da dn dc, .int .i64 y] 54) = W := ⟨_, rfl⟩
  have B1 : Hid (Blk W1 w.heap.size 54 (0, 0) [.int .i64 3, .int .u32 h.from_, .int .u16 h.fport, .int .u32 h.to_, .int .u16 h.tport, .bool h.stream, .slice da dn dc, .int .i64 y]) := Lib.hid (by rw [← hW1]; exact Blk.new w 54 (0, 0) #[.int .i64 3, .int .u32 h.from_, .int .u16 h.fport, .int .u32 h.to_, .int .u16 h.tport, .bool h.stream, .slice da dn dc, .int .i64 y])
  have k1 : Hid (Below w.heap.size w W1) := Lib.hid (by rw [← hW1]; exact alloc_bel _ _)
  obtain ⟨W2, hW2⟩ : ∃ W, W1.alloc (.cells #[.int .u32 0, .int .u16 0, .int .u32 0, .int .u16 0, .bool false, .slice none 0 0] 32) = W := ⟨_, rfl⟩
  have B2 : Hid (Blk W2 W1.heap.size 32 (0, 0) [.int .u32 0, .int .u16 0, .int .u32 0, .int .u16 0, .bool false, .slice none 0 0]) := Lib.hid (by rw [← hW2]; exact Blk.new W1 32 (0, 0) #[.int .u32 0, .int .u16 0, .int .u32 0, .int .u16 0, .bool false, .slice none 0 0])
  have k2 : Hid (Below W1.heap.size W1 W2) := Lib.hid (by rw [← hW2]; exact alloc_bel _ _)
  have p0 : W1.cell? ⟨w.heap.size, 0, none⟩ = some (.int .i64 3) := (B1.out.cell 0).trans rfl
  have p1 : W1.cell? ⟨w.heap.size, 1, none⟩ = some (.int .u32 h.from_) := (B1.out.cell 1).trans rfl
  have p2 : W1.cell? ⟨w.heap.size, 2, none⟩ = some (.int .u16 h.fport) := (B1.out.cell 2).trans rfl
  have p3 : W1.cell? ⟨w.heap.size, 3, none⟩ = some (.int .u32 h.to_) := (B1.out.cell 3).trans rfl
  have p4 : W1.cell? ⟨w.heap.size, 4, none⟩ = some (.int .u16 h.tport) := (B1.out.cell 4).trans rfl
  have p5 : W1.cell? ⟨w.heap.size, 5, none⟩ = some (.bool h.stream) := (B1.out.cell 5).trans rfl
  have p6 : W1.cell? ⟨w.heap.size, 6, none⟩ = some (.slice da dn dc) := (B1.out.cell 6).trans rfl
  have p7 : W1.cell? ⟨w.heap.size, 7, none⟩ = some (.int .i64 y) := (B1.out.cell 7).trans rfl
  go_enter Try.func19, Try.ntmps19
  go_upto_region 2 with (refine store_whole rfl 32 (.tmp 7) (.tmp 23) rfl rfl rfl B2.out (by rfl) (by kernel_rfl) (by first | kernel_rfl | rfl) ?_; intro w3 hBx hgx hzx; have B3 := Lib.hid hBx; have k3 := Lib.hid (fresh_store k2.out hgx); clear hBx hgx hzx)
  try rw [hW1]
  try rw [hW2]
  clear hW1 hW2 p0 p1 p2 p3 p4 p5 p6 p7
  have hl1 : Hid (w.heap.size < W1.heap.size) := Lib.hid B1.out.lt
  have A3 := Lib.hid (B1.out.below k3.out B1.out.lt)
  have K3 := Lib.hid (k1.out.trans (k3.out.mono k1.out.size))
  have hl3 : Hid (W1.heap.size < w3.heap.size) := Lib.hid B3.out.lt
  clear B1 B2 k1 k2 k3
  have p6 : w3.cell? ⟨w.heap.size, 6, none⟩ = some (.slice da dn dc) := (A3.out.cell 6).trans rfl
  have hle := Lib.hid (lent_bytes (HP.out.ext K3.out) hn)
  go_wp2_with fail
  refine hle.out.mono ?_
  rintro e w4 ⟨rfl, hbl, hb⟩
  have A4 := Lib.hid (A3.out.below hb A3.out.lt)
  have P4 := Lib.hid (B3.out.below hb B3.out.lt)
  have L4 := Lib.hid hbl
  have K4 := Lib.hid (K3.out.trans (hb.mono K3.out.size))
  clear hb hbl hle A3 B3 K3 p6
  obtain ⟨g, hg⟩ : ∃ g, w3.heap.size = g := ⟨_, rfl⟩
  rw [hg] at L4 hl3 ⊢
  clear hg
  have f5 : w4.frozen? ⟨W1.heap.size, 5, none⟩ = false := by rw [P4.out.frozen]; try simp
  have p5 : w4.cell? ⟨W1.heap.size, 5, none⟩ = some (.slice da dn dc) := (P4.out.cell 5).trans rfl
  go_upto_region 3 with (fail)
  obtain ⟨w5, hV⟩ : ∃ V, w4.setCell ⟨W1.heap.size, 5, none⟩ (.slice (some ⟨g, 0, none⟩) dn (dn + 3)) = V := ⟨_, rfl⟩
  try rw [hV]
  have hgV : w4.grownBy w5 (some W1.heap.size) := by rw [← hV]; exact grown_set _ _ _ _
  have BA : Hid (Blk w5 w.heap.size 54 (0, 0) [.int .i64 3, .int .u32 h.from_, .int .u16 h.fport, .int .u32 h.to_, .int .u16 h.tport, .bool h.stream, .slice da dn dc, .int .i64 y]) := Lib.hid (A4.out.grownV2 hgV (fun e => by have e2 := Option.some.inj e; have := hl1.out; omega))
  have BP : Hid (Blk w5 W1.heap.size 32 (0, 0) [.int .u32 h.from_, .int .u16 h.fport, .int .u32 h.to_, .int .u16 h.tport, .bool h.stream, .slice (some ⟨g, 0, none⟩) dn (dn + 3)]) := Lib.hid (by rw [← hV]; exact P4.out.set 5 _)
  have BL : Hid (Blk w5 g 5 (0, 0) (u8s (lentL d))) := Lib.hid (L4.out.grownV2 hgV (fun e => by have e2 := Option.some.inj e; have := hl3.out; omega))
  have K5 := Lib.hid (K4.out.grown hgV K4.out.size (fun k hk => by cases hk; exact Nat.le_of_lt hl1.out))
  clear hV hgV A4 P4 L4 K4 f5 p5
  have hgs : Hid (w.heap.size < W1.heap.size ∧ W1.heap.size < g ∧ g < w5.heap.size ∧ w.heap.size < w5.heap.size ∧ W1.heap.size < w5.heap.size) := Lib.hid (by have h1 := hl1.out; have h2 := hl3.out; have h3 := BL.out.lt; omega)
  clear hl1 hl3
  have NA : Hid (NetA w5 n B w5.heap.size S s) := Lib.hid ((HB.out.a.ext K5.out).wide K5.out.size (Nat.le_refl _))
  have hSw : Hid (∀ x, S x → x < w.heap.size) := Lib.hid (fun x hx => HB.out.a.hi x hx)
  have RQ : Hid (RefP w5 (fun x => S x ∨ x = g) r (s.F.drop s.at_) L s.c) := Lib.hid (HB.out.q.tch (Tch.of_below (S := fun _ => False) K5.out) (fun _ _ e => e.elim) (fun x hx hs => hs.elim id (fun e => by have h1 := hgs.out; omega)))
  have HR : Hid (Rd byteE w5 da dn dc d) := Lib.hid (HP.out.ext K5.out)
  have KB : Hid (Below B w w5) := Lib.hid (K5.out.mono hnw.out.2.2)
  have hab : Hid (∀ b o s, 0 < dn → da = some ⟨b, o, s⟩ → b < w.heap.size ∧ ¬ S b ∧ b ≠ r) := Lib.hid (fun b o s h0 e => by
    obtain ⟨b1, o1, e1, hlt, _⟩ := HP.out.addr h0
    have e2 := e
    rw [e1] at e2
    cases e2
    exact ⟨hlt, HAP.out _ _ _ h0 e1⟩)
  clear HP HAP K5
  have p0 : w5.cell? ⟨w.heap.size, 0, none⟩ = some (.int .i64 3) := (BA.out.cell 0).trans rfl
  have hfl := Lib.hid (lflights_any (S := S) NA.out.P (RQ.out.tch (S' := S) (Tch.refl (fun _ => False) _) (fun _ _ e => e.elim) (fun x _ hx => .inl hx)) HB.out.e (by rw [HB.out.p.len]; exact HB.out.room) (fun f hf => by rw [HB.out.e] at hf; have h1 := HB.out.dl f ((srtK_mem _ _ f).1 hf); omega))
  go_wp2_with fail
  refine hfl.out.mono ?_
  rintro e w6 ⟨rfl, hb⟩
  clear hfl p0
  have BA6 := Lib.hid (BA.out.below hb BA.out.lt)
  have BP6 := Lib.hid (BP.out.below hb BP.out.lt)
  have BL6 := Lib.hid (BL.out.below hb BL.out.lt)
  have HR6 := Lib.hid (HR.out.ext hb)
  have NA6 := Lib.hid ((NA.out.ext hb).wide hb.size (Nat.le_refl _))
  have RQ6 := Lib.hid (RQ.out.ext hb)
  have KB6 := Lib.hid (KB.out.trans (hb.mono (by have h1 := KB.out.size; have h2 := hnw.out.2.2; omega)))
  clear hb
  go_upto_region 21 with (fail)
  have p6 : w6.cell? ⟨w.heap.size, 6, none⟩ = some (.slice da dn dc) := (BA6.out.cell 6).trans rfl
  have q5 : w6.cell? ⟨W1.heap.size, 5, none⟩ = some (.slice (some ⟨g, 0, none⟩) dn (dn + 3)) := (BP6.out.cell 5).trans rfl
  have hlr := Lib.hid (lent_rd BL6.out hdl.out hn)
  have hkp := Lib.hid (kept_bytes hlr.out.2 (by omega : dn ≤ dn + 3) HR6.out hn rfl)
  rw [beq_self_eq_true] at hkp
  go_wp2_with fail
  refine hkp.out.mono ?_
  rintro e y1 ⟨rfl, hb⟩
  clear hkp hlr p6 q5
  have NA1 := Lib.hid ((NA6.out.ext hb).wide hb.size (Nat.le_refl _))
  have RQ1 := Lib.hid (RQ6.out.ext hb)
  have BP1 := Lib.hid (BP6.out.below hb BP6.out.lt)
  have BL1 := Lib.hid (BL6.out.below hb BL6.out.lt)
  have KB1 := Lib.hid (KB6.out.trans (hb.mono (by have h1 := KB6.out.size; have h2 := hnw.out.2.2; omega)))
  clear hb
  have q5 : y1.cell? ⟨W1.heap.size, 5, none⟩ = some (.slice (some ⟨g, 0, none⟩) dn (dn + 3)) := (BP1.out.cell 5).trans rfl
  have hov := Lib.hid (over_bytes (w := y1) (b := g) (o := 0) (n := dn) (c := dn + 3) (C1 := []) (C2 := []) (X := lentL d) (by have h1 := BL1.out; simpa using h1) rfl (by rw [lentL_length, hdl.out]) (by omega) (by omega) (fun j _ => by simp))
  go_wp2_with fail
  refine hov.out.mono ?_
  rintro e y2 ⟨rfl, -, hg2⟩
  clear hov q5
  have T2 : Tch (fun x => x = g) y1 y2 := Tch.of_grown hg2 (fun k e => (Option.some.inj e).symm)
  have NA2 := Lib.hid ((NA1.out.tch T2 (fun x hx e => by subst e; exact (fun h => by have h1 := hSw.out _ h; have h2 := hgs.out; omega) hx)).wide T2.size (Nat.le_refl _))
  have RQ2 := Lib.hid (RQ1.out.tch (S' := S) T2 (fun x _ e => by subst e; exact .inr rfl) (fun x _ hx => .inl hx))
  have KB2 := Lib.hid (KB1.out.trans (T2.below (B := B) (by have h1 := KB1.out.size; have h2 := hnw.out.2.2; omega) (fun b _ e => by have h1 := hgs.out; have h2 := hnw.out.2.2; omega)))
  clear T2 hg2 NA1 RQ1 BP1 BL1 KB1
  have hct := Lib.hid (counts_any NA2.out.P)
  go_wp2_with fail
  refine hct.out.mono ?_
  rintro e y3 ⟨rfl, nq, rfl⟩
  clear hct
  obtain ⟨Y, hY⟩ : ∃ Y, y2.drewN nq = Y := ⟨_, rfl⟩
  have kY : Hid (Below y2.heap.size y2 Y) := Lib.hid (by rw [← hY]; exact bel_drewN _ _)
  rw [hY]
  clear hY
  have NA3 := Lib.hid ((NA2.out.ext kY.out).wide kY.out.size (Nat.le_refl _))
  have RQ3 := Lib.hid (RQ2.out.ext kY.out)
  have KB3 := Lib.hid (KB2.out.trans (kY.out.mono (by have h1 := KB2.out.size; have h2 := hnw.out.2.2; omega)))
  clear NA2 RQ2 KB2 kY
  have hfin : Hid (ActB w n B r N Y) := Lib.hid ⟨KB3.out, _, _, _, Bth.mk' NA3.out RQ3.out HB.out.br HB.out.p.next⟩
  obtain ⟨za, zn, zc, zla, zln, zlc, zFL, hz⟩ := RQ3.out
  have hzb := Lib.hid hz.blk
  clear hz
  obtain ⟨⟨c_0, c_1, c_2, c_3⟩, hcx⟩ : ∃ x, s.c = x := ⟨_, rfl⟩
  rw [hcx] at hzb ⊢
  dsimp only at hzb ⊢
  clear hcx
  have z2 : Y.cell? ⟨r, 2, none⟩ = some (.int .i64 c_0) := (hzb.out.cell 2).trans rfl
  have z3 : Y.cell? ⟨r, 3, none⟩ = some (.int .i64 c_1) := (hzb.out.cell 3).trans rfl
  have z4 : Y.cell? ⟨r, 4, none⟩ = some (.int .i64 c_2) := (hzb.out.cell 4).trans rfl
  have z5 : Y.cell? ⟨r, 5, none⟩ = some (.int .i64 c_3) := (hzb.out.cell 5).trans rfl
  go_wp2_with fail
  go_ret
  exact ⟨rfl, hfin.out⟩
set_option maxHeartbeats 8000000 in
set_option maxRecDepth 100000 in
theorem act_any0 {w : World} {n B : Nat} {S : Nat → Prop} {s : NS} {r : Nat} {L : List Fl} {N : Nat} (hB : Bth w n B S s r L N) (hN : N ≤ 900) (y : Int) (h : Hd) {da : Option Addr} {dn dc : Nat} {d : List UInt8} (hp : Rd byteE w da dn dc d) (hn : dn ≤ 140737488351232) (hap : ∀ b o s, 0 < dn → da = some ⟨b, o, s⟩ → ¬ S b ∧ b ≠ r) :
    Calls Try.prog 19 #[.pointer (some ⟨n, 0, none⟩), .pointer (some ⟨r, 0, none⟩), .agg #[.int .i64 0, .int .u32 h.from_, .int .u16 h.fport, .int .u32 h.to_, .int .u16 h.tport, .bool h.stream, .slice da dn dc, .int .i64 y]] w fun e w' => e = .returned (.bool true) ∧ ActB w n B r N w' := by
  have hdl := Lib.hid hp.len
  have hok := Lib.hid (hB.p.ok (by omega))
  have HB := Lib.hid hB
  have HP := Lib.hid hp
  have HAP := Lib.hid hap
  have hnw : Hid (n < w.heap.size ∧ r < w.heap.size ∧ B ≤ w.heap.size) := Lib.hid (by
    obtain ⟨_, _, _, _, _, _, hq⟩ := hB.a.P
    obtain ⟨_, _, _, _, _, _, _, hr⟩ := hB.q
    exact ⟨hq.blk.lt, hr.blk.lt, hB.a.bm⟩)
  clear hB hp hap
  obtain ⟨W1, hW1⟩ : ∃ W, w.alloc (.cells #[.int .i64 0, .int .u32 h.from_, .int .u16 h.fport, .int .u32 h.to_, .int .u16 h.tport, .bool h.stream, .slice da dn dc, .int .i64 y] 54) = W := ⟨_, rfl⟩
  have B1 : Hid (Blk W1 w.heap.size 54 (0, 0) [.int .i64 0, .int .u32 h.from_, .int .u16 h.fport, .int .u32 h.to_, .int .u16 h.tport, .bool h.stream, .slice da dn dc, .int .i64 y]) := Lib.hid (by rw [← hW1]; exact Blk.new w 54 (0, 0) #[.int .i64 0, .int .u32 h.from_, .int .u16 h.fport, .int .u32 h.to_, .int .u16 h.tport, .bool h.stream, .slice da dn dc, .int .i64 y])
  have k1 : Hid (Below w.heap.size w W1) := Lib.hid (by rw [← hW1]; exact alloc_bel _ _)
  obtain ⟨W2, hW2⟩ : ∃ W, W1.alloc (.cells #[.int .u32 0, .int .u16 0, .int .u32 0, .int .u16 0, .bool false, .slice none 0 0] 32) = W := ⟨_, rfl⟩
  have B2 : Hid (Blk W2 W1.heap.size 32 (0, 0) [.int .u32 0, .int .u16 0, .int .u32 0, .int .u16 0, .bool false, .slice none 0 0]) := Lib.hid (by rw [← hW2]; exact Blk.new W1 32 (0, 0) #[.int .u32 0, .int .u16 0, .int .u32 0, .int .u16 0, .bool false, .slice none 0 0])
  have k2 : Hid (Below W1.heap.size W1 W2) := Lib.hid (by rw [← hW2]; exact alloc_bel _ _)
  have p0 : W1.cell? ⟨w.heap.size, 0, none⟩ = some (.int .i64 0) := (B1.out.cell 0).trans rfl
  have p1 : W1.cell? ⟨w.heap.size, 1, none⟩ = some (.int .u32 h.from_) := (B1.out.cell 1).trans rfl
  have p2 : W1.cell? ⟨w.heap.size, 2, none⟩ = some (.int .u16 h.fport) := (B1.out.cell 2).trans rfl
  have p3 : W1.cell? ⟨w.heap.size, 3, none⟩ = some (.int .u32 h.to_) := (B1.out.cell 3).trans rfl
  have p4 : W1.cell? ⟨w.heap.size, 4, none⟩ = some (.int .u16 h.tport) := (B1.out.cell 4).trans rfl
  have p5 : W1.cell? ⟨w.heap.size, 5, none⟩ = some (.bool h.stream) := (B1.out.cell 5).trans rfl
  have p6 : W1.cell? ⟨w.heap.size, 6, none⟩ = some (.slice da dn dc) := (B1.out.cell 6).trans rfl
  have p7 : W1.cell? ⟨w.heap.size, 7, none⟩ = some (.int .i64 y) := (B1.out.cell 7).trans rfl
  go_enter Try.func19, Try.ntmps19
  go_upto_region 2 with (refine store_whole rfl 32 (.tmp 7) (.tmp 23) rfl rfl rfl B2.out (by rfl) (by kernel_rfl) (by first | kernel_rfl | rfl) ?_; intro w3 hBx hgx hzx; have B3 := Lib.hid hBx; have k3 := Lib.hid (fresh_store k2.out hgx); clear hBx hgx hzx)
  try rw [hW1]
  try rw [hW2]
  clear hW1 hW2 p0 p1 p2 p3 p4 p5 p6 p7
  have hl1 : Hid (w.heap.size < W1.heap.size) := Lib.hid B1.out.lt
  have A3 := Lib.hid (B1.out.below k3.out B1.out.lt)
  have K3 := Lib.hid (k1.out.trans (k3.out.mono k1.out.size))
  have hl3 : Hid (W1.heap.size < w3.heap.size) := Lib.hid B3.out.lt
  clear B1 B2 k1 k2 k3
  have p6 : w3.cell? ⟨w.heap.size, 6, none⟩ = some (.slice da dn dc) := (A3.out.cell 6).trans rfl
  have hle := Lib.hid (lent_bytes (HP.out.ext K3.out) hn)
  go_wp2_with fail
  refine hle.out.mono ?_
  rintro e w4 ⟨rfl, hbl, hb⟩
  have A4 := Lib.hid (A3.out.below hb A3.out.lt)
  have P4 := Lib.hid (B3.out.below hb B3.out.lt)
  have L4 := Lib.hid hbl
  have K4 := Lib.hid (K3.out.trans (hb.mono K3.out.size))
  clear hb hbl hle A3 B3 K3 p6
  obtain ⟨g, hg⟩ : ∃ g, w3.heap.size = g := ⟨_, rfl⟩
  rw [hg] at L4 hl3 ⊢
  clear hg
  have f5 : w4.frozen? ⟨W1.heap.size, 5, none⟩ = false := by rw [P4.out.frozen]; try simp
  have p5 : w4.cell? ⟨W1.heap.size, 5, none⟩ = some (.slice da dn dc) := (P4.out.cell 5).trans rfl
  go_upto_region 3 with (fail)
  obtain ⟨w5, hV⟩ : ∃ V, w4.setCell ⟨W1.heap.size, 5, none⟩ (.slice (some ⟨g, 0, none⟩) dn (dn + 3)) = V := ⟨_, rfl⟩
  try rw [hV]
  have hgV : w4.grownBy w5 (some W1.heap.size) := by rw [← hV]; exact grown_set _ _ _ _
  have BA : Hid (Blk w5 w.heap.size 54 (0, 0) [.int .i64 0, .int .u32 h.from_, .int .u16 h.fport, .int .u32 h.to_, .int .u16 h.tport, .bool h.stream, .slice da dn dc, .int .i64 y]) := Lib.hid (A4.out.grownV2 hgV (fun e => by have e2 := Option.some.inj e; have := hl1.out; omega))
  have BP : Hid (Blk w5 W1.heap.size 32 (0, 0) [.int .u32 h.from_, .int .u16 h.fport, .int .u32 h.to_, .int .u16 h.tport, .bool h.stream, .slice (some ⟨g, 0, none⟩) dn (dn + 3)]) := Lib.hid (by rw [← hV]; exact P4.out.set 5 _)
  have BL : Hid (Blk w5 g 5 (0, 0) (u8s (lentL d))) := Lib.hid (L4.out.grownV2 hgV (fun e => by have e2 := Option.some.inj e; have := hl3.out; omega))
  have K5 := Lib.hid (K4.out.grown hgV K4.out.size (fun k hk => by cases hk; exact Nat.le_of_lt hl1.out))
  clear hV hgV A4 P4 L4 K4 f5 p5
  have hgs : Hid (w.heap.size < W1.heap.size ∧ W1.heap.size < g ∧ g < w5.heap.size ∧ w.heap.size < w5.heap.size ∧ W1.heap.size < w5.heap.size) := Lib.hid (by have h1 := hl1.out; have h2 := hl3.out; have h3 := BL.out.lt; omega)
  clear hl1 hl3
  have NA : Hid (NetA w5 n B w5.heap.size S s) := Lib.hid ((HB.out.a.ext K5.out).wide K5.out.size (Nat.le_refl _))
  have hSw : Hid (∀ x, S x → x < w.heap.size) := Lib.hid (fun x hx => HB.out.a.hi x hx)
  have RQ : Hid (RefP w5 (fun x => S x ∨ x = g) r (s.F.drop s.at_) L s.c) := Lib.hid (HB.out.q.tch (Tch.of_below (S := fun _ => False) K5.out) (fun _ _ e => e.elim) (fun x hx hs => hs.elim id (fun e => by have h1 := hgs.out; omega)))
  have HR : Hid (Rd byteE w5 da dn dc d) := Lib.hid (HP.out.ext K5.out)
  have KB : Hid (Below B w w5) := Lib.hid (K5.out.mono hnw.out.2.2)
  have hab : Hid (∀ b o s, 0 < dn → da = some ⟨b, o, s⟩ → b < w.heap.size ∧ ¬ S b ∧ b ≠ r) := Lib.hid (fun b o s h0 e => by
    obtain ⟨b1, o1, e1, hlt, _⟩ := HP.out.addr h0
    have e2 := e
    rw [e1] at e2
    cases e2
    exact ⟨hlt, HAP.out _ _ _ h0 e1⟩)
  clear HP HAP K5
  have p0 : w5.cell? ⟨w.heap.size, 0, none⟩ = some (.int .i64 0) := (BA.out.cell 0).trans rfl
  have p7 : w5.cell? ⟨w.heap.size, 7, none⟩ = some (.int .i64 y) := (BA.out.cell 7).trans rfl
  have q0 : w5.cell? ⟨W1.heap.size, 0, none⟩ = some (.int .u32 h.from_) := (BP.out.cell 0).trans rfl
  have q1 : w5.cell? ⟨W1.heap.size, 1, none⟩ = some (.int .u16 h.fport) := (BP.out.cell 1).trans rfl
  have q2 : w5.cell? ⟨W1.heap.size, 2, none⟩ = some (.int .u32 h.to_) := (BP.out.cell 2).trans rfl
  have q3 : w5.cell? ⟨W1.heap.size, 3, none⟩ = some (.int .u16 h.tport) := (BP.out.cell 3).trans rfl
  have q4 : w5.cell? ⟨W1.heap.size, 4, none⟩ = some (.bool h.stream) := (BP.out.cell 4).trans rfl
  have q5 : w5.cell? ⟨W1.heap.size, 5, none⟩ = some (.slice (some ⟨g, 0, none⟩) dn (dn + 3)) := (BP.out.cell 5).trans rfl
  obtain ⟨L6, hlaw, hbp⟩ := send_law HB.out.p h d y
  have hsn := Lib.hid (send_at0 NA.out hok.out HB.out.mf h (lent_rd BL.out hdl.out hn).1 (fun b o s h0 e hs => by have h1 := hSw.out b hs; have h2 := hgs.out; cases e; omega) (by omega) y)
  obtain ⟨⟨k0, e0, s6⟩, hX⟩ : ∃ x, sendS s h d y = x := ⟨_, rfl⟩
  rw [hX] at hlaw hbp hsn
  dsimp only at hlaw hbp hsn
  unfold pkV at hsn
  have hlaw' := Lib.hid hlaw
  have hbp' := Lib.hid hbp
  clear hlaw hbp hX
  go_wp2_with fail
  refine hsn.out.mono ?_
  rintro e w6 ⟨rfl, ⟨S6, hna, hs6⟩, hT⟩
  clear hsn p0 p7 q0 q1 q2 q3 q4 q5
  have T6 := Lib.hid hT
  have hS6 := Lib.hid hs6
  have NA6 := Lib.hid hna
  clear hT hs6 hna
  have hns : Hid (∀ b, w.heap.size ≤ b → ¬ S b) := Lib.hid (fun b hb hs => by have h1 := hSw.out b hs; omega)
  have BA6 := Lib.hid (T6.out.blk BA.out (hns.out _ (Nat.le_refl _)))
  have BP6 := Lib.hid (T6.out.blk BP.out (hns.out _ (Nat.le_of_lt hgs.out.1)))
  have BL6 := Lib.hid (T6.out.blk BL.out (hns.out _ (by have h1 := hgs.out; omega)))
  have HR6 := Lib.hid (T6.out.rdn HR.out (fun b o s h0 e => (hab.out b o s h0 e).2.1))
  have RQ6 : Hid (RefP w6 (fun x => S6 x ∨ x = g) r (s.F.drop s.at_) L s.c) := Lib.hid (RQ.out.tch T6.out (fun x _ hx => .inl hx) (fun x hx hs => hs.elim (fun hs => (hS6.out x hs).elim .inl (fun h9 => by omega)) .inr))
  have KB6 := Lib.hid (KB.out.trans (T6.out.below (B := B) (by have h1 := KB.out.size; have h2 := hnw.out.2.2; omega) (fun b _ hb => HB.out.a.lo b hb)))
  have hz6 : Hid (w5.heap.size ≤ w6.heap.size) := Lib.hid T6.out.size
  clear NA RQ BA BP BL HR KB T6
  have p0 : w6.cell? ⟨w.heap.size, 0, none⟩ = some (.int .i64 0) := (BA6.out.cell 0).trans rfl
  have p1 : w6.cell? ⟨w.heap.size, 1, none⟩ = some (.int .u32 h.from_) := (BA6.out.cell 1).trans rfl
  have p2 : w6.cell? ⟨w.heap.size, 2, none⟩ = some (.int .u16 h.fport) := (BA6.out.cell 2).trans rfl
  have p3 : w6.cell? ⟨w.heap.size, 3, none⟩ = some (.int .u32 h.to_) := (BA6.out.cell 3).trans rfl
  have p4 : w6.cell? ⟨w.heap.size, 4, none⟩ = some (.int .u16 h.tport) := (BA6.out.cell 4).trans rfl
  have p5 : w6.cell? ⟨w.heap.size, 5, none⟩ = some (.bool h.stream) := (BA6.out.cell 5).trans rfl
  have p6 : w6.cell? ⟨w.heap.size, 6, none⟩ = some (.slice da dn dc) := (BA6.out.cell 6).trans rfl
  have p7 : w6.cell? ⟨w.heap.size, 7, none⟩ = some (.int .i64 y) := (BA6.out.cell 7).trans rfl
  have hrs := Lib.hid (rsend_any RQ6.out (fun f hf => HB.out.mf f (List.mem_of_mem_drop hf)) HB.out.room (by have h1 := HB.out.sent; omega) (by have h1 := HB.out.lost; omega) (by rw [List.length_drop]; have h1 := HB.out.fates; omega) (fun x hx => hx.elim (fun hx => NA6.out.hi x hx) (fun e => by have h1 := hgs.out; have h2 := hz6.out; omega)) h HR6.out (by omega) y)
  unfold RSB pkV at hrs
  rw [hlaw'.out] at hrs
  dsimp only at hrs
  go_wp2_with fail
  refine hrs.out.mono ?_
  rintro e w7 ⟨rfl, hq, hT⟩
  clear hrs p0 p1 p2 p3 p4 p5 p6 p7
  have T7 := Lib.hid hT
  have RQ7 := Lib.hid hq
  clear hT hq
  have BA7 := Lib.hid (T7.out.blk BA6.out (fun e => by have h1 := hnw.out; omega))
  have BP7 := Lib.hid (T7.out.blk BP6.out (fun e => by have h1 := hnw.out; have h2 := hgs.out; omega))
  have BL7 := Lib.hid (T7.out.blk BL6.out (fun e => by have h1 := hnw.out; have h2 := hgs.out; omega))
  have HR7 := Lib.hid (T7.out.rdn HR6.out (fun b o s h0 e => (hab.out b o s h0 e).2.2))
  have hrn : Hid (¬ S6 r) := Lib.hid (fun h => by obtain ⟨_, _, _, _, _, _, _, hz⟩ := RQ6.out; exact hz.rn (.inl h))
  have NA7 := Lib.hid ((NA6.out.tch T7.out (fun x hx e => hrn.out (by rw [← e]; exact hx))).wide T7.out.size (Nat.le_refl _))
  have KB7 := Lib.hid (KB6.out.trans (T7.out.below (B := B) (by have h1 := KB6.out.size; have h2 := hnw.out.2.2; omega) (fun b _ e => by rw [e]; exact HB.out.br)))
  clear BA6 BP6 BL6 HR6 NA6 RQ6 KB6 T7
  go_upto_region 21 with (fail)
  have p6 : w7.cell? ⟨w.heap.size, 6, none⟩ = some (.slice da dn dc) := (BA7.out.cell 6).trans rfl
  have q5 : w7.cell? ⟨W1.heap.size, 5, none⟩ = some (.slice (some ⟨g, 0, none⟩) dn (dn + 3)) := (BP7.out.cell 5).trans rfl
  have hlr := Lib.hid (lent_rd BL7.out hdl.out hn)
  have hkp := Lib.hid (kept_bytes hlr.out.2 (by omega : dn ≤ dn + 3) HR7.out hn rfl)
  rw [beq_self_eq_true] at hkp
  go_wp2_with fail
  refine hkp.out.mono ?_
  rintro e y1 ⟨rfl, hb⟩
  clear hkp hlr p6 q5
  have NA1 := Lib.hid ((NA7.out.ext hb).wide hb.size (Nat.le_refl _))
  have RQ1 := Lib.hid (RQ7.out.ext hb)
  have BP1 := Lib.hid (BP7.out.below hb BP7.out.lt)
  have BL1 := Lib.hid (BL7.out.below hb BL7.out.lt)
  have KB1 := Lib.hid (KB7.out.trans (hb.mono (by have h1 := KB7.out.size; have h2 := hnw.out.2.2; omega)))
  clear hb
  have q5 : y1.cell? ⟨W1.heap.size, 5, none⟩ = some (.slice (some ⟨g, 0, none⟩) dn (dn + 3)) := (BP1.out.cell 5).trans rfl
  have hov := Lib.hid (over_bytes (w := y1) (b := g) (o := 0) (n := dn) (c := dn + 3) (C1 := []) (C2 := []) (X := lentL d) (by have h1 := BL1.out; simpa using h1) rfl (by rw [lentL_length, hdl.out]) (by omega) (by omega) (fun j _ => by simp))
  go_wp2_with fail
  refine hov.out.mono ?_
  rintro e y2 ⟨rfl, -, hg2⟩
  clear hov q5
  have T2 : Tch (fun x => x = g) y1 y2 := Tch.of_grown hg2 (fun k e => (Option.some.inj e).symm)
  have NA2 := Lib.hid ((NA1.out.tch T2 (fun x hx e => by subst e; exact (fun h => by have h2 := hgs.out; rcases hS6.out _ h with h3 | h3; have h1 := hSw.out _ h3; omega; omega) hx)).wide T2.size (Nat.le_refl _))
  have RQ2 := Lib.hid (RQ1.out.tch (S' := S6) T2 (fun x _ e => by subst e; exact .inr rfl) (fun x _ hx => .inl hx))
  have KB2 := Lib.hid (KB1.out.trans (T2.below (B := B) (by have h1 := KB1.out.size; have h2 := hnw.out.2.2; omega) (fun b _ e => by have h1 := hgs.out; have h2 := hnw.out.2.2; omega)))
  clear T2 hg2 NA1 RQ1 BP1 BL1 KB1
  have hct := Lib.hid (counts_any NA2.out.P)
  go_wp2_with fail
  refine hct.out.mono ?_
  rintro e y3 ⟨rfl, nq, rfl⟩
  clear hct
  obtain ⟨Y, hY⟩ : ∃ Y, y2.drewN nq = Y := ⟨_, rfl⟩
  have kY : Hid (Below y2.heap.size y2 Y) := Lib.hid (by rw [← hY]; exact bel_drewN _ _)
  rw [hY]
  clear hY
  have NA3 := Lib.hid ((NA2.out.ext kY.out).wide kY.out.size (Nat.le_refl _))
  have RQ3 := Lib.hid (RQ2.out.ext kY.out)
  have KB3 := Lib.hid (KB2.out.trans (kY.out.mono (by have h1 := KB2.out.size; have h2 := hnw.out.2.2; omega)))
  clear NA2 RQ2 KB2 kY
  have hfin : Hid (ActB w n B r N Y) := Lib.hid ⟨KB3.out, _, _, _, Bth.mk' NA3.out RQ3.out HB.out.br hbp'.out⟩
  obtain ⟨za, zn, zc, zla, zln, zlc, zFL, hz⟩ := RQ3.out
  have hzb := Lib.hid hz.blk
  clear hz
  obtain ⟨⟨c_0, c_1, c_2, c_3⟩, hcx⟩ : ∃ x, s6.c = x := ⟨_, rfl⟩
  rw [hcx] at hzb ⊢
  dsimp only at hzb ⊢
  clear hcx
  have z2 : Y.cell? ⟨r, 2, none⟩ = some (.int .i64 c_0) := (hzb.out.cell 2).trans rfl
  have z3 : Y.cell? ⟨r, 3, none⟩ = some (.int .i64 c_1) := (hzb.out.cell 3).trans rfl
  have z4 : Y.cell? ⟨r, 4, none⟩ = some (.int .i64 c_2) := (hzb.out.cell 4).trans rfl
  have z5 : Y.cell? ⟨r, 5, none⟩ = some (.int .i64 c_3) := (hzb.out.cell 5).trans rfl
  go_wp2_with fail
  go_ret
  exact ⟨rfl, hfin.out⟩
set_option maxHeartbeats 8000000 in
set_option maxRecDepth 100000 in
theorem act1_reg (p0 : String) {W : World} {Q : Exit → Act → World → Prop} (t2 t3 t4 t6 t8 t9 t10 t11 t12 t13 t14 t15 t16 t17 t18 t19 t20 t21 t22 t23 t24 t25 t26 t27 t28 t29 t30 t31 t32 t33 t34 t35 t36 t37 t38 t39 t40 t41 t42 t43 t44 t45 t46 t47 t48 t49 t50 t51 t52 t53 t54 t55 t56 t57 t58 t59 t60 t61 t62 t63 t64 t65 t66 t67 t68 t69 t70 t71 t72 t73 t74 t75 t76 t77 t78 t79 t80 t81 t82 t83 t84 t85 t86 t87 t88 t89 t90 t91 t92 t93 t94 t95 t96 t97 t98 t99 t100 t101 t102 t103 t104 t105 t106 t107 t108 t109 t110 t111 t112 t113 t114 t115 t116 t117 t118 t119 t120 t121 t122 t123 t124 t125 t126 t127 t128 t129 t130 t131 t132 t133 t134 t135 t136 t137 t138 t139 t140 t141 t142 t143 t144 t145 t146 t147 t148 t149 t150 t151 t152 t153 t154 t155 t156 t157 t158 t159 t160 t161 t162 t163 t164 : Value) (n r gA gP g : Nat) (h : Hd) {da : Option Addr} {dn dc : Nat} (y E : Int) (G : World → Prop)
    (kS : Blk W gA 54 (0, 0) [.int .i64 1, .int .u32 h.from_, .int .u16 h.fport, .int .u32 h.to_, .int .u16 h.tport, .bool h.stream, .slice da dn dc, .int .i64 y] ∧ Blk W gP 32 (0, 0) [.int .u32 h.from_, .int .u16 h.fport, .int .u32 h.to_, .int .u16 h.tport, .bool h.stream, .slice (some ⟨g, 0, none⟩) dn (dn + 3)])
    (h11 : ∀ V, Below W.heap.size W V → Calls Try.prog 11 #[.pointer (some ⟨n, 0, none⟩), .agg #[.int .u32 h.from_, .int .u16 h.fport, .int .u32 h.to_, .int .u16 h.tport, .bool h.stream, .slice (some ⟨g, 0, none⟩) dn (dn + 3)], .int .i64 y] V fun e w' => e = .returned (.int .i64 E) ∧ (Blk w' gA 54 (0, 0) [.int .i64 1, .int .u32 h.from_, .int .u16 h.fport, .int .u32 h.to_, .int .u16 h.tport, .bool h.stream, .slice da dn dc, .int .i64 y] ∧ Blk w' gP 32 (0, 0) [.int .u32 h.from_, .int .u16 h.fport, .int .u32 h.to_, .int .u16 h.tport, .bool h.stream, .slice (some ⟨g, 0, none⟩) dn (dn + 3)]) ∧ (Calls Try.prog 32 #[.pointer (some ⟨r, 0, none⟩), .agg #[.int .u32 h.from_, .int .u16 h.fport, .int .u32 h.to_, .int .u16 h.tport, .bool h.stream, .slice da dn dc], .int .i64 y] w' fun e w'' => e = .returned (.int .i64 E) ∧ (Blk w'' gA 54 (0, 0) [.int .i64 1, .int .u32 h.from_, .int .u16 h.fport, .int .u32 h.to_, .int .u16 h.tport, .bool h.stream, .slice da dn dc, .int .i64 y] ∧ Blk w'' gP 32 (0, 0) [.int .u32 h.from_, .int .u16 h.fport, .int .u32 h.to_, .int .u16 h.tport, .bool h.stream, .slice (some ⟨g, 0, none⟩) dn (dn + 3)]) ∧ G w''))
    (hq : ∀ (x60 x61 x62 x63 x64 x65 x66 x67 x68 x69 x70 x71 : Value) (V : World) (_ : G V), Q .normal { tmps := #[.pointer (some ⟨n, 0, none⟩), .pointer (some ⟨r, 0, none⟩), t2, t3, t4, .pointer (some ⟨gA, 0, none⟩), t6, .pointer (some ⟨gP, 0, none⟩), .bool true, t9, t10, t11, t12, t13, t14, t15, t16, t17, t18, t19, t20, t21, t22, t23, t24, t25, t26, t27, t28, t29, t30, t31, t32, t33, t34, t35, t36, t37, t38, t39, t40, t41, t42, t43, t44, t45, t46, t47, t48, t49, t50, t51, t52, t53, t54, t55, t56, t57, t58, t59, x60, x61, x62, x63, x64, x65, x66, x67, x68, x69, x70, x71, t72, t73, t74, t75, t76, t77, t78, t79, t80, t81, t82, t83, t84, t85, t86, t87, t88, t89, t90, t91, t92, t93, t94, t95, t96, t97, t98, t99, t100, t101, t102, t103, t104, t105, t106, t107, t108, t109, t110, t111, t112, t113, t114, t115, t116, t117, t118, t119, t120, t121, t122, t123, t124, t125, t126, t127, t128, t129, t130, t131, t132, t133, t134, t135, t136, t137, t138, t139, t140, t141, t142, t143, t144, t145, t146, t147, t148, t149, t150, t151, t152, t153, t154, t155, t156, t157, t158, t159, t160, t161, t162, t163, t164], defers := [] } V) :
    Code.wp Try.prog (Code.region 10 (#[{ dst := some 60, op := Op.move (Operand.tmp 0), type := 24, pos := p0, after := #[], guard := none }, { dst := some 61, op := Op.load 32 (Operand.tmp 7), type := 32, pos := p0, after := #[], guard := none }, { dst := some 62, op := Op.fieldAddr 54 (Operand.tmp 5) 2, type := 0, pos := p0, after := #[], guard := none }, { dst := some 63, op := Op.load 3 (Operand.tmp 62), type := 3, pos := p0, after := #[{ on := 2, ground := Ground.data }], guard := none }, { dst := some 64, op := Op.call { callee := Callee.value (Operand.func 11), args := #[Operand.tmp 60, Operand.tmp 61, Operand.tmp 63], argTypes := #[24, 32, 3] }, type := 25, pos := p0, after := #[{ on := 0, ground := Ground.data }, { on := 1, ground := Ground.data }, { on := 3, ground := Ground.data }], guard := none }, { dst := some 65, op := Op.move (Operand.tmp 1), type := 55, pos := p0, after := #[], guard := none }, { dst := some 66, op := Op.fieldAddr 54 (Operand.tmp 5) 1, type := 0, pos := p0, after := #[], guard := none }, { dst := some 67, op := Op.load 32 (Operand.tmp 66), type := 32, pos := p0, after := #[{ on := 6, ground := Ground.data }], guard := none }, { dst := some 68, op := Op.fieldAddr 54 (Operand.tmp 5) 2, type := 0, pos := p0, after := #[], guard := none }, { dst := some 69, op := Op.load 3 (Operand.tmp 68), type := 3, pos := p0, after := #[{ on := 8, ground := Ground.data }], guard := none }, { dst := some 70, op := Op.call { callee := Callee.value (Operand.func 32), args := #[Operand.tmp 65, Operand.tmp 67, Operand.tmp 69], argTypes := #[55, 32, 3] }, type := 25, pos := p0, after := #[{ on := 5, ground := Ground.data }, { on := 7, ground := Ground.data }, { on := 9, ground := Ground.data }, { on := 4, ground := Ground.chain }], guard := none }, { dst := some 71, op := Op.binOp BinOp.eql 25 (Operand.tmp 64) (Operand.tmp 70) 25, type := 4, pos := p0, after := #[{ on := 4, ground := Ground.data }, { on := 10, ground := Ground.data }], guard := none }, { dst := some 8, op := Op.assign (Operand.tmp 71), type := 4, pos := p0, after := #[{ on := 11, ground := Ground.data }, { on := 10, ground := Ground.chain }, { on := 0, ground := Ground.phase }, { on := 1, ground := Ground.phase }, { on := 2, ground := Ground.phase }, { on := 3, ground := Ground.phase }, { on := 4, ground := Ground.phase }, { on := 5, ground := Ground.phase }, { on := 6, ground := Ground.phase }, { on := 7, ground := Ground.phase }, { on := 8, ground := Ground.phase }, { on := 9, ground := Ground.phase }, { on := 10, ground := Ground.phase }, { on := 11, ground := Ground.phase }], guard := none }] : Array Oper) true) Q { tmps := #[.pointer (some ⟨n, 0, none⟩), .pointer (some ⟨r, 0, none⟩), t2, t3, t4, .pointer (some ⟨gA, 0, none⟩), t6, .pointer (some ⟨gP, 0, none⟩), t8, t9, t10, t11, t12, t13, t14, t15, t16, t17, t18, t19, t20, t21, t22, t23, t24, t25, t26, t27, t28, t29, t30, t31, t32, t33, t34, t35, t36, t37, t38, t39, t40, t41, t42, t43, t44, t45, t46, t47, t48, t49, t50, t51, t52, t53, t54, t55, t56, t57, t58, t59, t60, t61, t62, t63, t64, t65, t66, t67, t68, t69, t70, t71, t72, t73, t74, t75, t76, t77, t78, t79, t80, t81, t82, t83, t84, t85, t86, t87, t88, t89, t90, t91, t92, t93, t94, t95, t96, t97, t98, t99, t100, t101, t102, t103, t104, t105, t106, t107, t108, t109, t110, t111, t112, t113, t114, t115, t116, t117, t118, t119, t120, t121, t122, t123, t124, t125, t126, t127, t128, t129, t130, t131, t132, t133, t134, t135, t136, t137, t138, t139, t140, t141, t142, t143, t144, t145, t146, t147, t148, t149, t150, t151, t152, t153, t154, t155, t156, t157, t158, t159, t160, t161, t162, t163, t164], defers := [] } W := by
  have HQ := Lib.hid hq
  clear hq
  have KS := Lib.hid kS
  have H11 := Lib.hid h11
  clear kS h11
  have k0 : Hid (Below W.heap.size W W.drew) := Lib.hid (Below.refl _ _).drew
  have k00 : Hid (Blk W.drew gA 54 (0, 0) [.int .i64 1, .int .u32 h.from_, .int .u16 h.fport, .int .u32 h.to_, .int .u16 h.tport, .bool h.stream, .slice da dn dc, .int .i64 y] ∧ Blk W.drew gP 32 (0, 0) [.int .u32 h.from_, .int .u16 h.fport, .int .u32 h.to_, .int .u16 h.tport, .bool h.stream, .slice (some ⟨g, 0, none⟩) dn (dn + 3)]) := Lib.hid ⟨KS.out.1.drew, KS.out.2.drew⟩
  refine wp_region_noPanic ?_
  refine wp_region_held_drew (S := fun V => Blk V gA 54 (0, 0) [.int .i64 1, .int .u32 h.from_, .int .u16 h.fport, .int .u32 h.to_, .int .u16 h.tport, .bool h.stream, .slice da dn dc, .int .i64 y] ∧ Blk V gP 32 (0, 0) [.int .u32 h.from_, .int .u16 h.fport, .int .u32 h.to_, .int .u16 h.tport, .bool h.stream, .slice (some ⟨g, 0, none⟩) dn (dn + 3)]) (by kernel_rfl) k00.out (fun hHeld => ?_)
  clear hHeld
  obtain ⟨U0, hU0⟩ : ∃ x, W.drew = x := ⟨_, rfl⟩
  rw [hU0] at k0 k00 ⊢
  clear hU0
  refine wpAnyH_take (i := 0) (oi := { dst := some 60, op := Op.move (Operand.tmp 0), type := 24, pos := p0, after := #[], guard := none }) (v := ?_) rfl (by kernel_rfl) (by kernel_rfl) (by kernel_rfl) (fun _ _ _ h => h) (Or.inl ⟨by rfl, ?_⟩) (by assumption) ?_
  rotate_left
  · intro V hSV
    clear hSV
    go_simp
    first | done | with_reducible rfl
  try simp only [Act.put, List.setIfInBounds_toArray, List.set_cons_zero, List.set_cons_succ]
  refine wpAnyH_take (i := 1) (oi := { dst := some 61, op := Op.load 32 (Operand.tmp 7), type := 32, pos := p0, after := #[], guard := none }) (v := ?_) rfl (by kernel_rfl) (by kernel_rfl) (by kernel_rfl) (fun _ _ _ h => h) (Or.inl ⟨by rfl, ?_⟩) (by assumption) ?_
  rotate_left
  · intro V hSV
    have z0 : V.cell? ⟨gP, 0, none⟩ = some (.int .u32 h.from_) := (hSV.2.cell 0).trans rfl
    have z1 : V.cell? ⟨gP, 1, none⟩ = some (.int .u16 h.fport) := (hSV.2.cell 1).trans rfl
    have z2 : V.cell? ⟨gP, 2, none⟩ = some (.int .u32 h.to_) := (hSV.2.cell 2).trans rfl
    have z3 : V.cell? ⟨gP, 3, none⟩ = some (.int .u16 h.tport) := (hSV.2.cell 3).trans rfl
    have z4 : V.cell? ⟨gP, 4, none⟩ = some (.bool h.stream) := (hSV.2.cell 4).trans rfl
    have z5 : V.cell? ⟨gP, 5, none⟩ = some (.slice (some ⟨g, 0, none⟩) dn (dn + 3)) := (hSV.2.cell 5).trans rfl
    clear hSV
    go_simp
    first | done | with_reducible rfl
  try simp only [Act.put, List.setIfInBounds_toArray, List.set_cons_zero, List.set_cons_succ]
  refine wpAnyH_take (i := 2) (oi := { dst := some 62, op := Op.fieldAddr 54 (Operand.tmp 5) 2, type := 0, pos := p0, after := #[], guard := none }) (v := ?_) rfl (by kernel_rfl) (by kernel_rfl) (by kernel_rfl) (fun _ _ _ h => h) (Or.inl ⟨by rfl, ?_⟩) (by assumption) ?_
  rotate_left
  · intro V hSV
    clear hSV
    go_simp
    first | done | with_reducible rfl
  try simp only [Act.put, List.setIfInBounds_toArray, List.set_cons_zero, List.set_cons_succ]
  refine wpAnyH_take (i := 3) (oi := { dst := some 63, op := Op.load 3 (Operand.tmp 62), type := 3, pos := p0, after := #[{ on := 2, ground := Ground.data }], guard := none }) (v := ?_) rfl (by kernel_rfl) (by kernel_rfl) (by kernel_rfl) (fun _ _ _ h => h) (Or.inl ⟨by rfl, ?_⟩) (by assumption) ?_
  rotate_left
  · intro V hSV
    have z7 : V.cell? ⟨gA, 7, none⟩ = some (.int .i64 y) := (hSV.1.cell 7).trans rfl
    clear hSV
    go_simp
    first | done | with_reducible rfl
  try simp only [Act.put, List.setIfInBounds_toArray, List.set_cons_zero, List.set_cons_succ]
  refine wpAnyH_take (i := 5) (oi := { dst := some 65, op := Op.move (Operand.tmp 1), type := 55, pos := p0, after := #[], guard := none }) (v := ?_) rfl (by kernel_rfl) (by kernel_rfl) (by kernel_rfl) (fun _ _ _ h => h) (Or.inl ⟨by rfl, ?_⟩) (by assumption) ?_
  rotate_left
  · intro V hSV
    clear hSV
    go_simp
    first | done | with_reducible rfl
  try simp only [Act.put, List.setIfInBounds_toArray, List.set_cons_zero, List.set_cons_succ]
  refine wpAnyH_take (i := 6) (oi := { dst := some 66, op := Op.fieldAddr 54 (Operand.tmp 5) 1, type := 0, pos := p0, after := #[], guard := none }) (v := ?_) rfl (by kernel_rfl) (by kernel_rfl) (by kernel_rfl) (fun _ _ _ h => h) (Or.inl ⟨by rfl, ?_⟩) (by assumption) ?_
  rotate_left
  · intro V hSV
    clear hSV
    go_simp
    first | done | with_reducible rfl
  try simp only [Act.put, List.setIfInBounds_toArray, List.set_cons_zero, List.set_cons_succ]
  refine wpAnyH_take (i := 7) (oi := { dst := some 67, op := Op.load 32 (Operand.tmp 66), type := 32, pos := p0, after := #[{ on := 6, ground := Ground.data }], guard := none }) (v := ?_) rfl (by kernel_rfl) (by kernel_rfl) (by kernel_rfl) (fun _ _ _ h => h) (Or.inl ⟨by rfl, ?_⟩) (by assumption) ?_
  rotate_left
  · intro V hSV
    have z1 : V.cell? ⟨gA, 1, none⟩ = some (.int .u32 h.from_) := (hSV.1.cell 1).trans rfl
    have z2 : V.cell? ⟨gA, 2, none⟩ = some (.int .u16 h.fport) := (hSV.1.cell 2).trans rfl
    have z3 : V.cell? ⟨gA, 3, none⟩ = some (.int .u32 h.to_) := (hSV.1.cell 3).trans rfl
    have z4 : V.cell? ⟨gA, 4, none⟩ = some (.int .u16 h.tport) := (hSV.1.cell 4).trans rfl
    have z5 : V.cell? ⟨gA, 5, none⟩ = some (.bool h.stream) := (hSV.1.cell 5).trans rfl
    have z6 : V.cell? ⟨gA, 6, none⟩ = some (.slice da dn dc) := (hSV.1.cell 6).trans rfl
    clear hSV
    go_simp
    first | done | with_reducible rfl
  try simp only [Act.put, List.setIfInBounds_toArray, List.set_cons_zero, List.set_cons_succ]
  refine wpAnyH_take (i := 8) (oi := { dst := some 68, op := Op.fieldAddr 54 (Operand.tmp 5) 2, type := 0, pos := p0, after := #[], guard := none }) (v := ?_) rfl (by kernel_rfl) (by kernel_rfl) (by kernel_rfl) (fun _ _ _ h => h) (Or.inl ⟨by rfl, ?_⟩) (by assumption) ?_
  rotate_left
  · intro V hSV
    clear hSV
    go_simp
    first | done | with_reducible rfl
  try simp only [Act.put, List.setIfInBounds_toArray, List.set_cons_zero, List.set_cons_succ]
  refine wpAnyH_take (i := 9) (oi := { dst := some 69, op := Op.load 3 (Operand.tmp 68), type := 3, pos := p0, after := #[{ on := 8, ground := Ground.data }], guard := none }) (v := ?_) rfl (by kernel_rfl) (by kernel_rfl) (by kernel_rfl) (fun _ _ _ h => h) (Or.inl ⟨by rfl, ?_⟩) (by assumption) ?_
  rotate_left
  · intro V hSV
    have z7 : V.cell? ⟨gA, 7, none⟩ = some (.int .i64 y) := (hSV.1.cell 7).trans rfl
    clear hSV
    go_simp
    first | done | with_reducible rfl
  try simp only [Act.put, List.setIfInBounds_toArray, List.set_cons_zero, List.set_cons_succ]
  refine wpAnyH_ready (rs := [4]) (by kernel_rfl) (by simp) ?_
  refine AllReadyH.cons (o := { dst := some 64, op := Op.call { callee := Callee.value (Operand.func 11), args := #[Operand.tmp 60, Operand.tmp 61, Operand.tmp 63], argTypes := #[24, 32, 3] }, type := 25, pos := p0, after := #[{ on := 0, ground := Ground.data }, { on := 1, ground := Ground.data }, { on := 3, ground := Ground.data }], guard := none }) rfl (fun K hK => ?_) ?_
  · refine step_call3 (by rfl) (.tmp 60) (.tmp 61) (.tmp 63) 24 32 3 (by rfl) (by rfl) (by rfl) (by rfl) enter11 ?_
    refine (H11.out _ k0.out).mono ?_
    rintro e V1 ⟨rfl, hs, hc⟩
    have HS1 := Lib.hid hs
    have C32 := Lib.hid hc
    refine ⟨_, rfl, ?_⟩
    clear hs hc k0
    refine hK.out _ _ HS1.out (fun hHeld => ?_)
    clear hK K
    try simp only [Act.put, List.setIfInBounds_toArray, List.set_cons_zero, List.set_cons_succ]
    refine wpAnyH_ready (rs := [10]) (by kernel_rfl) (by simp) ?_
    refine AllReadyH.cons (o := { dst := some 70, op := Op.call { callee := Callee.value (Operand.func 32), args := #[Operand.tmp 65, Operand.tmp 67, Operand.tmp 69], argTypes := #[55, 32, 3] }, type := 25, pos := p0, after := #[{ on := 5, ground := Ground.data }, { on := 7, ground := Ground.data }, { on := 9, ground := Ground.data }, { on := 4, ground := Ground.chain }], guard := none }) rfl (fun K hK => ?_) ?_
    · refine step_call3 (by rfl) (.tmp 65) (.tmp 67) (.tmp 69) 55 32 3 (by rfl) (by rfl) (by rfl) (by rfl) enter32 ?_
      refine C32.out.mono ?_
      rintro e V2 ⟨rfl, hs, hg⟩
      have HS2 := Lib.hid hs
      have HG := Lib.hid hg
      refine ⟨_, rfl, ?_⟩
      clear hs hg
      refine hK.out _ _ HS2.out (fun hHeld => ?_)
      clear hK K
      try simp only [Act.put, List.setIfInBounds_toArray, List.set_cons_zero, List.set_cons_succ]
      refine wpAnyH_take (i := 11) (oi := { dst := some 71, op := Op.binOp BinOp.eql 25 (Operand.tmp 64) (Operand.tmp 70) 25, type := 4, pos := p0, after := #[{ on := 4, ground := Ground.data }, { on := 10, ground := Ground.data }], guard := none }) (v := ?_) rfl (by kernel_rfl) (by kernel_rfl) (by kernel_rfl) (fun _ _ _ h => h) (Or.inl ⟨by rfl, ?_⟩) (by assumption) ?_
      rotate_left
      · intro V hSV
        clear hSV
        go_simp
        first | done | with_reducible rfl
      try simp only [Act.put, List.setIfInBounds_toArray, List.set_cons_zero, List.set_cons_succ]
      refine wpAnyH_take (i := 12) (oi := { dst := some 8, op := Op.assign (Operand.tmp 71), type := 4, pos := p0, after := #[{ on := 11, ground := Ground.data }, { on := 10, ground := Ground.chain }, { on := 0, ground := Ground.phase }, { on := 1, ground := Ground.phase }, { on := 2, ground := Ground.phase }, { on := 3, ground := Ground.phase }, { on := 4, ground := Ground.phase }, { on := 5, ground := Ground.phase }, { on := 6, ground := Ground.phase }, { on := 7, ground := Ground.phase }, { on := 8, ground := Ground.phase }, { on := 9, ground := Ground.phase }, { on := 10, ground := Ground.phase }, { on := 11, ground := Ground.phase }], guard := none }) (v := ?_) rfl (by kernel_rfl) (by kernel_rfl) (by kernel_rfl) (fun _ _ _ h => h) (Or.inl ⟨by rfl, ?_⟩) (by assumption) ?_
      rotate_left
      · intro V hSV
        clear hSV
        go_simp
        first | done | with_reducible rfl
      try simp only [Act.put, List.setIfInBounds_toArray, List.set_cons_zero, List.set_cons_succ]
      refine wpAnyH_done (by kernel_rfl) ?_ _
      refine NoPanic.normal ?_
      exact HQ.out _ _ _ _ _ _ _ _ _ _ _ _ _ HG.out
    exact AllReadyH.nil
  exact AllReadyH.nil
def AG1 (w : World) (gA gP g n B r : Nat) (SA SP : List Value) (d : List UInt8) (da : Option Addr) (dn dc : Nat) (S5 : Nat → Prop) (z5 : Nat) (F : List Fate) (s6 : NS) (L6 : List Fl) (V : World) : Prop :=
  ∃ S6, (∀ x, S6 x → S5 x ∨ z5 ≤ x) ∧ NetA V n B V.heap.size S6 s6 ∧ RefP V (fun x => S6 x ∨ x = g) r F L6 s6.c ∧ Blk V gA 54 (0, 0) SA ∧ Blk V gP 32 (0, 0) SP ∧ Blk V g 5 (0, 0) (u8s (lentL d)) ∧ Rd byteE V da dn dc d ∧ Below B w V
set_option maxHeartbeats 8000000 in
set_option maxRecDepth 100000 in
theorem act_any1 {w : World} {n B : Nat} {S : Nat → Prop} {s : NS} {r : Nat} {L : List Fl} {N : Nat} (hB : Bth w n B S s r L N) (hN : N ≤ 900) (y : Int) (h : Hd) {da : Option Addr} {dn dc : Nat} {d : List UInt8} (hp : Rd byteE w da dn dc d) (hn : dn ≤ 140737488351232) (hap : ∀ b o s, 0 < dn → da = some ⟨b, o, s⟩ → ¬ S b ∧ b ≠ r) :
    Calls Try.prog 19 #[.pointer (some ⟨n, 0, none⟩), .pointer (some ⟨r, 0, none⟩), .agg #[.int .i64 1, .int .u32 h.from_, .int .u16 h.fport, .int .u32 h.to_, .int .u16 h.tport, .bool h.stream, .slice da dn dc, .int .i64 y]] w fun e w' => e = .returned (.bool true) ∧ ActB w n B r N w' := by
  have hdl := Lib.hid hp.len
  have hok := Lib.hid (hB.p.ok (by omega))
  have HB := Lib.hid hB
  have HP := Lib.hid hp
  have HAP := Lib.hid hap
  have hnw : Hid (n < w.heap.size ∧ r < w.heap.size ∧ B ≤ w.heap.size) := Lib.hid (by
    obtain ⟨_, _, _, _, _, _, hq⟩ := hB.a.P
    obtain ⟨_, _, _, _, _, _, _, hr⟩ := hB.q
    exact ⟨hq.blk.lt, hr.blk.lt, hB.a.bm⟩)
  clear hB hp hap
  obtain ⟨W1, hW1⟩ : ∃ W, w.alloc (.cells #[.int .i64 1, .int .u32 h.from_, .int .u16 h.fport, .int .u32 h.to_, .int .u16 h.tport, .bool h.stream, .slice da dn dc, .int .i64 y] 54) = W := ⟨_, rfl⟩
  have B1 : Hid (Blk W1 w.heap.size 54 (0, 0) [.int .i64 1, .int .u32 h.from_, .int .u16 h.fport, .int .u32 h.to_, .int .u16 h.tport, .bool h.stream, .slice da dn dc, .int .i64 y]) := Lib.hid (by rw [← hW1]; exact Blk.new w 54 (0, 0) #[.int .i64 1, .int .u32 h.from_, .int .u16 h.fport, .int .u32 h.to_, .int .u16 h.tport, .bool h.stream, .slice da dn dc, .int .i64 y])
  have k1 : Hid (Below w.heap.size w W1) := Lib.hid (by rw [← hW1]; exact alloc_bel _ _)
  obtain ⟨W2, hW2⟩ : ∃ W, W1.alloc (.cells #[.int .u32 0, .int .u16 0, .int .u32 0, .int .u16 0, .bool false, .slice none 0 0] 32) = W := ⟨_, rfl⟩
  have B2 : Hid (Blk W2 W1.heap.size 32 (0, 0) [.int .u32 0, .int .u16 0, .int .u32 0, .int .u16 0, .bool false, .slice none 0 0]) := Lib.hid (by rw [← hW2]; exact Blk.new W1 32 (0, 0) #[.int .u32 0, .int .u16 0, .int .u32 0, .int .u16 0, .bool false, .slice none 0 0])
  have k2 : Hid (Below W1.heap.size W1 W2) := Lib.hid (by rw [← hW2]; exact alloc_bel _ _)
  have p0 : W1.cell? ⟨w.heap.size, 0, none⟩ = some (.int .i64 1) := (B1.out.cell 0).trans rfl
  have p1 : W1.cell? ⟨w.heap.size, 1, none⟩ = some (.int .u32 h.from_) := (B1.out.cell 1).trans rfl
  have p2 : W1.cell? ⟨w.heap.size, 2, none⟩ = some (.int .u16 h.fport) := (B1.out.cell 2).trans rfl
  have p3 : W1.cell? ⟨w.heap.size, 3, none⟩ = some (.int .u32 h.to_) := (B1.out.cell 3).trans rfl
  have p4 : W1.cell? ⟨w.heap.size, 4, none⟩ = some (.int .u16 h.tport) := (B1.out.cell 4).trans rfl
  have p5 : W1.cell? ⟨w.heap.size, 5, none⟩ = some (.bool h.stream) := (B1.out.cell 5).trans rfl
  have p6 : W1.cell? ⟨w.heap.size, 6, none⟩ = some (.slice da dn dc) := (B1.out.cell 6).trans rfl
  have p7 : W1.cell? ⟨w.heap.size, 7, none⟩ = some (.int .i64 y) := (B1.out.cell 7).trans rfl
  go_enter Try.func19, Try.ntmps19
  go_upto_region 2 with (refine store_whole rfl 32 (.tmp 7) (.tmp 23) rfl rfl rfl B2.out (by rfl) (by kernel_rfl) (by first | kernel_rfl | rfl) ?_; intro w3 hBx hgx hzx; have B3 := Lib.hid hBx; have k3 := Lib.hid (fresh_store k2.out hgx); clear hBx hgx hzx)
  try rw [hW1]
  try rw [hW2]
  clear hW1 hW2 p0 p1 p2 p3 p4 p5 p6 p7
  have hl1 : Hid (w.heap.size < W1.heap.size) := Lib.hid B1.out.lt
  have A3 := Lib.hid (B1.out.below k3.out B1.out.lt)
  have K3 := Lib.hid (k1.out.trans (k3.out.mono k1.out.size))
  have hl3 : Hid (W1.heap.size < w3.heap.size) := Lib.hid B3.out.lt
  clear B1 B2 k1 k2 k3
  have p6 : w3.cell? ⟨w.heap.size, 6, none⟩ = some (.slice da dn dc) := (A3.out.cell 6).trans rfl
  have hle := Lib.hid (lent_bytes (HP.out.ext K3.out) hn)
  go_wp2_with fail
  refine hle.out.mono ?_
  rintro e w4 ⟨rfl, hbl, hb⟩
  have A4 := Lib.hid (A3.out.below hb A3.out.lt)
  have P4 := Lib.hid (B3.out.below hb B3.out.lt)
  have L4 := Lib.hid hbl
  have K4 := Lib.hid (K3.out.trans (hb.mono K3.out.size))
  clear hb hbl hle A3 B3 K3 p6
  obtain ⟨g, hg⟩ : ∃ g, w3.heap.size = g := ⟨_, rfl⟩
  rw [hg] at L4 hl3 ⊢
  clear hg
  have f5 : w4.frozen? ⟨W1.heap.size, 5, none⟩ = false := by rw [P4.out.frozen]; try simp
  have p5 : w4.cell? ⟨W1.heap.size, 5, none⟩ = some (.slice da dn dc) := (P4.out.cell 5).trans rfl
  go_upto_region 3 with (fail)
  obtain ⟨w5, hV⟩ : ∃ V, w4.setCell ⟨W1.heap.size, 5, none⟩ (.slice (some ⟨g, 0, none⟩) dn (dn + 3)) = V := ⟨_, rfl⟩
  try rw [hV]
  have hgV : w4.grownBy w5 (some W1.heap.size) := by rw [← hV]; exact grown_set _ _ _ _
  have BA : Hid (Blk w5 w.heap.size 54 (0, 0) [.int .i64 1, .int .u32 h.from_, .int .u16 h.fport, .int .u32 h.to_, .int .u16 h.tport, .bool h.stream, .slice da dn dc, .int .i64 y]) := Lib.hid (A4.out.grownV2 hgV (fun e => by have e2 := Option.some.inj e; have := hl1.out; omega))
  have BP : Hid (Blk w5 W1.heap.size 32 (0, 0) [.int .u32 h.from_, .int .u16 h.fport, .int .u32 h.to_, .int .u16 h.tport, .bool h.stream, .slice (some ⟨g, 0, none⟩) dn (dn + 3)]) := Lib.hid (by rw [← hV]; exact P4.out.set 5 _)
  have BL : Hid (Blk w5 g 5 (0, 0) (u8s (lentL d))) := Lib.hid (L4.out.grownV2 hgV (fun e => by have e2 := Option.some.inj e; have := hl3.out; omega))
  have K5 := Lib.hid (K4.out.grown hgV K4.out.size (fun k hk => by cases hk; exact Nat.le_of_lt hl1.out))
  clear hV hgV A4 P4 L4 K4 f5 p5
  have hgs : Hid (w.heap.size < W1.heap.size ∧ W1.heap.size < g ∧ g < w5.heap.size ∧ w.heap.size < w5.heap.size ∧ W1.heap.size < w5.heap.size) := Lib.hid (by have h1 := hl1.out; have h2 := hl3.out; have h3 := BL.out.lt; omega)
  clear hl1 hl3
  have NA : Hid (NetA w5 n B w5.heap.size S s) := Lib.hid ((HB.out.a.ext K5.out).wide K5.out.size (Nat.le_refl _))
  have hSw : Hid (∀ x, S x → x < w.heap.size) := Lib.hid (fun x hx => HB.out.a.hi x hx)
  have RQ : Hid (RefP w5 (fun x => S x ∨ x = g) r (s.F.drop s.at_) L s.c) := Lib.hid (HB.out.q.tch (Tch.of_below (S := fun _ => False) K5.out) (fun _ _ e => e.elim) (fun x hx hs => hs.elim id (fun e => by have h1 := hgs.out; omega)))
  have HR : Hid (Rd byteE w5 da dn dc d) := Lib.hid (HP.out.ext K5.out)
  have KB : Hid (Below B w w5) := Lib.hid (K5.out.mono hnw.out.2.2)
  have hab : Hid (∀ b o s, 0 < dn → da = some ⟨b, o, s⟩ → b < w.heap.size ∧ ¬ S b ∧ b ≠ r) := Lib.hid (fun b o s h0 e => by
    obtain ⟨b1, o1, e1, hlt, _⟩ := HP.out.addr h0
    have e2 := e
    rw [e1] at e2
    cases e2
    exact ⟨hlt, HAP.out _ _ _ h0 e1⟩)
  clear HP HAP K5
  have p0 : w5.cell? ⟨w.heap.size, 0, none⟩ = some (.int .i64 1) := (BA.out.cell 0).trans rfl
  obtain ⟨L6, hlaw, hbp, hF6, ha6⟩ := forge_law HB.out.p h d y
  obtain ⟨⟨e0, s6⟩, hX⟩ : ∃ x, forgeS s h d y = x := ⟨_, rfl⟩
  have hreg : Hid (∀ V, Below w5.heap.size w5 V → Calls Try.prog 11 #[.pointer (some ⟨n, 0, none⟩), .agg #[.int .u32 h.from_, .int .u16 h.fport, .int .u32 h.to_, .int .u16 h.tport, .bool h.stream, .slice (some ⟨g, 0, none⟩) dn (dn + 3)], .int .i64 y] V fun e w' => e = .returned (.int .i64 e0) ∧ (Blk w' w.heap.size 54 (0, 0) [.int .i64 1, .int .u32 h.from_, .int .u16 h.fport, .int .u32 h.to_, .int .u16 h.tport, .bool h.stream, .slice da dn dc, .int .i64 y] ∧ Blk w' W1.heap.size 32 (0, 0) [.int .u32 h.from_, .int .u16 h.fport, .int .u32 h.to_, .int .u16 h.tport, .bool h.stream, .slice (some ⟨g, 0, none⟩) dn (dn + 3)]) ∧ (Calls Try.prog 32 #[.pointer (some ⟨r, 0, none⟩), .agg #[.int .u32 h.from_, .int .u16 h.fport, .int .u32 h.to_, .int .u16 h.tport, .bool h.stream, .slice da dn dc], .int .i64 y] w' fun e w'' => e = .returned (.int .i64 e0) ∧ (Blk w'' w.heap.size 54 (0, 0) [.int .i64 1, .int .u32 h.from_, .int .u16 h.fport, .int .u32 h.to_, .int .u16 h.tport, .bool h.stream, .slice da dn dc, .int .i64 y] ∧ Blk w'' W1.heap.size 32 (0, 0) [.int .u32 h.from_, .int .u16 h.fport, .int .u32 h.to_, .int .u16 h.tport, .bool h.stream, .slice (some ⟨g, 0, none⟩) dn (dn + 3)]) ∧ AG1 w w.heap.size W1.heap.size g n B r [.int .i64 1, .int .u32 h.from_, .int .u16 h.fport, .int .u32 h.to_, .int .u16 h.tport, .bool h.stream, .slice da dn dc, .int .i64 y] [.int .u32 h.from_, .int .u16 h.fport, .int .u32 h.to_, .int .u16 h.tport, .bool h.stream, .slice (some ⟨g, 0, none⟩) dn (dn + 3)] d da dn dc S w5.heap.size (s6.F.drop s6.at_) s6 L6 w'')) := Lib.hid (by
    intro V0 hb
    have hz0 := hb.size
    have NA0 := (NA.out.ext hb)
    have BA0 := BA.out.below hb BA.out.lt
    have BP0 := BP.out.below hb BP.out.lt
    have BL0 := BL.out.below hb BL.out.lt
    have HR0 := HR.out.ext hb
    have RQ0 := RQ.out.ext hb
    have KB0 := KB.out.trans (hb.mono (by have h1 := KB.out.size; have h2 := hnw.out.2.2; omega))
    have hf := forge_at NA0 hok.out h (lent_rd BL0 hdl.out hn).1 (by omega) y
    rw [hX] at hf hlaw hbp hF6 ha6
    dsimp only at hf hlaw hbp hF6 ha6
    unfold pkV at hf
    refine hf.mono ?_
    rintro e w6 ⟨rfl, ⟨S6, hna, hs6⟩, hT⟩
    have hns : ∀ b, w.heap.size ≤ b → ¬ S b := fun b hb hs => by have h1 := hSw.out b hs; omega
    have BA6 := hT.blk BA0 (hns _ (Nat.le_refl _))
    have BP6 := hT.blk BP0 (hns _ (Nat.le_of_lt hgs.out.1))
    have BL6 := hT.blk BL0 (hns _ (by have h1 := hgs.out; omega))
    have HR6 := hT.rdn HR0 (fun b o s h0 e => (hab.out b o s h0 e).2.1)
    have RQ6 : RefP w6 (fun x => S6 x ∨ x = g) r (s.F.drop s.at_) L s.c := RQ0.tch hT (fun x _ hx => .inl hx) (fun x hx hs => hs.elim (fun hs => (hs6 x hs).elim .inl (fun h9 => by omega)) .inr)
    have hz6 := hT.size
    have KB6 := KB0.trans (hT.below (B := B) (by have h1 := KB0.size; have h2 := hnw.out.2.2; omega) (fun b _ hb => HB.out.a.lo b hb))
    refine ⟨rfl, ⟨BA6, BP6⟩, ?_⟩
    have hrs := rforge_any RQ6 HB.out.room (by have h1 := HB.out.forged; omega) (fun x hx => hx.elim (fun hx => hna.hi x hx) (fun e => by have h1 := hgs.out; omega)) h HR6 (by omega) y
    unfold RFB pkV at hrs
    rw [hlaw] at hrs
    dsimp only at hrs
    refine hrs.mono ?_
    rintro e w7 ⟨rfl, hq, hT7⟩
    have hrn : ¬ S6 r := fun h => by obtain ⟨_, _, _, _, _, _, _, hz⟩ := RQ6; exact hz.rn (.inl h)
    have BA7 := hT7.blk BA6 (fun e => by have h1 := hnw.out; omega)
    have BP7 := hT7.blk BP6 (fun e => by have h1 := hnw.out; have h2 := hgs.out; omega)
    refine ⟨rfl, ⟨BA7, BP7⟩, S6, fun x hx => (hs6 x hx).imp id (fun h9 => by omega), (hna.tch hT7 (fun x hx e => hrn (by rw [← e]; exact hx))).wide hT7.size (Nat.le_refl _), by rw [hF6, ha6]; exact hq, BA7, BP7, hT7.blk BL6 (fun e => by have h1 := hnw.out; have h2 := hgs.out; omega), hT7.rdn HR6 (fun b o s h0 e => (hab.out b o s h0 e).2.2), KB6.trans (hT7.below (B := B) (by have h1 := KB6.size; have h2 := hnw.out.2.2; omega) (fun b _ e => by rw [e]; exact HB.out.br))⟩)
  rw [hX] at hbp
  dsimp only at hbp
  have hbp' := Lib.hid hbp
  clear hbp hlaw hX hF6 ha6
  go_upto_region 10 with (fail)
  refine act1_reg _ _ _ _ _ _ _ _ _ _ _ _ _ _ _ _ _ _ _ _ _ _ _ _ _ _ _ _ _ _ _ _ _ _ _ _ _ _ _ _ _ _ _ _ _ _ _ _ _ _ _ _ _ _ _ _ _ _ _ _ _ _ _ _ _ _ _ _ _ _ _ _ _ _ _ _ _ _ _ _ _ _ _ _ _ _ _ _ _ _ _ _ _ _ _ _ _ _ _ _ _ _ _ _ _ _ _ _ _ _ _ _ _ _ _ _ _ _ _ _ _ _ _ _ _ _ _ _ _ _ _ _ _ _ _ _ _ _ _ _ _ _ _ _ _ _ _ _ _ _ _ _ _ _ _ _ _ _ _ _ _ _ n r w.heap.size W1.heap.size g h y e0 _ ⟨BA.out, BP.out⟩ hreg.out ?_
  intro x60 x61 x62 x63 x64 x65 x66 x67 x68 x69 x70 x71 V hG
  try dsimp only
  obtain ⟨S6, hs6, na7, rq7, ba7, bp7, bl7, hr7, kb7⟩ := hG
  have hS6 := Lib.hid hs6
  have NA7 := Lib.hid na7
  have RQ7 := Lib.hid rq7
  have BA7 := Lib.hid ba7
  have BP7 := Lib.hid bp7
  have BL7 := Lib.hid bl7
  have HR7 := Lib.hid hr7
  have KB7 := Lib.hid kb7
  clear hs6 na7 rq7 ba7 bp7 bl7 hr7 kb7 hreg p0
  go_upto_region 21 with (fail)
  have p6 : V.cell? ⟨w.heap.size, 6, none⟩ = some (.slice da dn dc) := (BA7.out.cell 6).trans rfl
  have q5 : V.cell? ⟨W1.heap.size, 5, none⟩ = some (.slice (some ⟨g, 0, none⟩) dn (dn + 3)) := (BP7.out.cell 5).trans rfl
  have hlr := Lib.hid (lent_rd BL7.out hdl.out hn)
  have hkp := Lib.hid (kept_bytes hlr.out.2 (by omega : dn ≤ dn + 3) HR7.out hn rfl)
  rw [beq_self_eq_true] at hkp
  go_wp2_with fail
  refine hkp.out.mono ?_
  rintro e y1 ⟨rfl, hb⟩
  clear hkp hlr p6 q5
  have NA1 := Lib.hid ((NA7.out.ext hb).wide hb.size (Nat.le_refl _))
  have RQ1 := Lib.hid (RQ7.out.ext hb)
  have BP1 := Lib.hid (BP7.out.below hb BP7.out.lt)
  have BL1 := Lib.hid (BL7.out.below hb BL7.out.lt)
  have KB1 := Lib.hid (KB7.out.trans (hb.mono (by have h1 := KB7.out.size; have h2 := hnw.out.2.2; omega)))
  clear hb
  have q5 : y1.cell? ⟨W1.heap.size, 5, none⟩ = some (.slice (some ⟨g, 0, none⟩) dn (dn + 3)) := (BP1.out.cell 5).trans rfl
  have hov := Lib.hid (over_bytes (w := y1) (b := g) (o := 0) (n := dn) (c := dn + 3) (C1 := []) (C2 := []) (X := lentL d) (by have h1 := BL1.out; simpa using h1) rfl (by rw [lentL_length, hdl.out]) (by omega) (by omega) (fun j _ => by simp))
  go_wp2_with fail
  refine hov.out.mono ?_
  rintro e y2 ⟨rfl, -, hg2⟩
  clear hov q5
  have T2 : Tch (fun x => x = g) y1 y2 := Tch.of_grown hg2 (fun k e => (Option.some.inj e).symm)
  have NA2 := Lib.hid ((NA1.out.tch T2 (fun x hx e => by subst e; exact (fun h => by have h2 := hgs.out; rcases hS6.out _ h with h3 | h3; have h1 := hSw.out _ h3; omega; omega) hx)).wide T2.size (Nat.le_refl _))
  have RQ2 := Lib.hid (RQ1.out.tch (S' := S6) T2 (fun x _ e => by subst e; exact .inr rfl) (fun x _ hx => .inl hx))
  have KB2 := Lib.hid (KB1.out.trans (T2.below (B := B) (by have h1 := KB1.out.size; have h2 := hnw.out.2.2; omega) (fun b _ e => by have h1 := hgs.out; have h2 := hnw.out.2.2; omega)))
  clear T2 hg2 NA1 RQ1 BP1 BL1 KB1
  have hct := Lib.hid (counts_any NA2.out.P)
  go_wp2_with fail
  refine hct.out.mono ?_
  rintro e y3 ⟨rfl, nq, rfl⟩
  clear hct
  obtain ⟨Y, hY⟩ : ∃ Y, y2.drewN nq = Y := ⟨_, rfl⟩
  have kY : Hid (Below y2.heap.size y2 Y) := Lib.hid (by rw [← hY]; exact bel_drewN _ _)
  rw [hY]
  clear hY
  have NA3 := Lib.hid ((NA2.out.ext kY.out).wide kY.out.size (Nat.le_refl _))
  have RQ3 := Lib.hid (RQ2.out.ext kY.out)
  have KB3 := Lib.hid (KB2.out.trans (kY.out.mono (by have h1 := KB2.out.size; have h2 := hnw.out.2.2; omega)))
  clear NA2 RQ2 KB2 kY
  have hfin : Hid (ActB w n B r N Y) := Lib.hid ⟨KB3.out, _, _, _, Bth.mk' NA3.out RQ3.out HB.out.br hbp'.out⟩
  obtain ⟨za, zn, zc, zla, zln, zlc, zFL, hz⟩ := RQ3.out
  have hzb := Lib.hid hz.blk
  clear hz
  obtain ⟨⟨c_0, c_1, c_2, c_3⟩, hcx⟩ : ∃ x, s6.c = x := ⟨_, rfl⟩
  rw [hcx] at hzb ⊢
  dsimp only at hzb ⊢
  clear hcx
  have z2 : Y.cell? ⟨r, 2, none⟩ = some (.int .i64 c_0) := (hzb.out.cell 2).trans rfl
  have z3 : Y.cell? ⟨r, 3, none⟩ = some (.int .i64 c_1) := (hzb.out.cell 3).trans rfl
  have z4 : Y.cell? ⟨r, 4, none⟩ = some (.int .i64 c_2) := (hzb.out.cell 4).trans rfl
  have z5 : Y.cell? ⟨r, 5, none⟩ = some (.int .i64 c_3) := (hzb.out.cell 5).trans rfl
  go_wp2_with fail
  go_ret
  exact ⟨rfl, hfin.out⟩
theorem OutP.tch {w w' : World} {b : Nat} {v : Value} {L : List Fl} {T Q : Nat → Prop} {OP : List PD} (h : OutP w b v L T OP) (t : Tch Q w w') (h1 : ∀ g, v.ownBlock = some g → ¬ Q g) (h2 : ∀ g, T g → ¬ Q g) : OutP w' b v L T OP :=
  ⟨t.own h.own h1, h.len, fun j q f hq hf => ⟨(h.rep j q f hq hf).1, t.own (h.rep j q f hq hf).2 (fun g hg => h2 g (h.st q (List.mem_of_getElem? hq) g hg))⟩, h.ap, h.st⟩
set_option maxHeartbeats 8000000 in
set_option maxRecDepth 100000 in
theorem act_any2 {w : World} {n B : Nat} {S : Nat → Prop} {s : NS} {r : Nat} {L : List Fl} {N : Nat} (hB : Bth w n B S s r L N) (hN : N ≤ 900) (y : Int) (h : Hd) {da : Option Addr} {dn dc : Nat} {d : List UInt8} (hp : Rd byteE w da dn dc d) (hn : dn ≤ 140737488351232) (hap : ∀ b o s, 0 < dn → da = some ⟨b, o, s⟩ → ¬ S b ∧ b ≠ r) :
    Calls Try.prog 19 #[.pointer (some ⟨n, 0, none⟩), .pointer (some ⟨r, 0, none⟩), .agg #[.int .i64 2, .int .u32 h.from_, .int .u16 h.fport, .int .u32 h.to_, .int .u16 h.tport, .bool h.stream, .slice da dn dc, .int .i64 y]] w fun e w' => e = .returned (.bool true) ∧ ActB w n B r N w' := by
  have hdl := Lib.hid hp.len
  have hok := Lib.hid (hB.p.ok (by omega))
  have HB := Lib.hid hB
  have HP := Lib.hid hp
  have HAP := Lib.hid hap
  have hnw : Hid (n < w.heap.size ∧ r < w.heap.size ∧ B ≤ w.heap.size) := Lib.hid (by
    obtain ⟨_, _, _, _, _, _, hq⟩ := hB.a.P
    obtain ⟨_, _, _, _, _, _, _, hr⟩ := hB.q
    exact ⟨hq.blk.lt, hr.blk.lt, hB.a.bm⟩)
  clear hB hp hap
  obtain ⟨W1, hW1⟩ : ∃ W, w.alloc (.cells #[.int .i64 2, .int .u32 h.from_, .int .u16 h.fport, .int .u32 h.to_, .int .u16 h.tport, .bool h.stream, .slice da dn dc, .int .i64 y] 54) = W := ⟨_, rfl⟩
  have B1 : Hid (Blk W1 w.heap.size 54 (0, 0) [.int .i64 2, .int .u32 h.from_, .int .u16 h.fport, .int .u32 h.to_, .int .u16 h.tport, .bool h.stream, .slice da dn dc, .int .i64 y]) := Lib.hid (by rw [← hW1]; exact Blk.new w 54 (0, 0) #[.int .i64 2, .int .u32 h.from_, .int .u16 h.fport, .int .u32 h.to_, .int .u16 h.tport, .bool h.stream, .slice da dn dc, .int .i64 y])
  have k1 : Hid (Below w.heap.size w W1) := Lib.hid (by rw [← hW1]; exact alloc_bel _ _)
  obtain ⟨W2, hW2⟩ : ∃ W, W1.alloc (.cells #[.int .u32 0, .int .u16 0, .int .u32 0, .int .u16 0, .bool false, .slice none 0 0] 32) = W := ⟨_, rfl⟩
  have B2 : Hid (Blk W2 W1.heap.size 32 (0, 0) [.int .u32 0, .int .u16 0, .int .u32 0, .int .u16 0, .bool false, .slice none 0 0]) := Lib.hid (by rw [← hW2]; exact Blk.new W1 32 (0, 0) #[.int .u32 0, .int .u16 0, .int .u32 0, .int .u16 0, .bool false, .slice none 0 0])
  have k2 : Hid (Below W1.heap.size W1 W2) := Lib.hid (by rw [← hW2]; exact alloc_bel _ _)
  have p0 : W1.cell? ⟨w.heap.size, 0, none⟩ = some (.int .i64 2) := (B1.out.cell 0).trans rfl
  have p1 : W1.cell? ⟨w.heap.size, 1, none⟩ = some (.int .u32 h.from_) := (B1.out.cell 1).trans rfl
  have p2 : W1.cell? ⟨w.heap.size, 2, none⟩ = some (.int .u16 h.fport) := (B1.out.cell 2).trans rfl
  have p3 : W1.cell? ⟨w.heap.size, 3, none⟩ = some (.int .u32 h.to_) := (B1.out.cell 3).trans rfl
  have p4 : W1.cell? ⟨w.heap.size, 4, none⟩ = some (.int .u16 h.tport) := (B1.out.cell 4).trans rfl
  have p5 : W1.cell? ⟨w.heap.size, 5, none⟩ = some (.bool h.stream) := (B1.out.cell 5).trans rfl
  have p6 : W1.cell? ⟨w.heap.size, 6, none⟩ = some (.slice da dn dc) := (B1.out.cell 6).trans rfl
  have p7 : W1.cell? ⟨w.heap.size, 7, none⟩ = some (.int .i64 y) := (B1.out.cell 7).trans rfl
  go_enter Try.func19, Try.ntmps19
  go_upto_region 2 with (refine store_whole rfl 32 (.tmp 7) (.tmp 23) rfl rfl rfl B2.out (by rfl) (by kernel_rfl) (by first | kernel_rfl | rfl) ?_; intro w3 hBx hgx hzx; have B3 := Lib.hid hBx; have k3 := Lib.hid (fresh_store k2.out hgx); clear hBx hgx hzx)
  try rw [hW1]
  try rw [hW2]
  clear hW1 hW2 p0 p1 p2 p3 p4 p5 p6 p7
  have hl1 : Hid (w.heap.size < W1.heap.size) := Lib.hid B1.out.lt
  have A3 := Lib.hid (B1.out.below k3.out B1.out.lt)
  have K3 := Lib.hid (k1.out.trans (k3.out.mono k1.out.size))
  have hl3 : Hid (W1.heap.size < w3.heap.size) := Lib.hid B3.out.lt
  clear B1 B2 k1 k2 k3
  have p6 : w3.cell? ⟨w.heap.size, 6, none⟩ = some (.slice da dn dc) := (A3.out.cell 6).trans rfl
  have hle := Lib.hid (lent_bytes (HP.out.ext K3.out) hn)
  go_wp2_with fail
  refine hle.out.mono ?_
  rintro e w4 ⟨rfl, hbl, hb⟩
  have A4 := Lib.hid (A3.out.below hb A3.out.lt)
  have P4 := Lib.hid (B3.out.below hb B3.out.lt)
  have L4 := Lib.hid hbl
  have K4 := Lib.hid (K3.out.trans (hb.mono K3.out.size))
  clear hb hbl hle A3 B3 K3 p6
  obtain ⟨g, hg⟩ : ∃ g, w3.heap.size = g := ⟨_, rfl⟩
  rw [hg] at L4 hl3 ⊢
  clear hg
  have f5 : w4.frozen? ⟨W1.heap.size, 5, none⟩ = false := by rw [P4.out.frozen]; try simp
  have p5 : w4.cell? ⟨W1.heap.size, 5, none⟩ = some (.slice da dn dc) := (P4.out.cell 5).trans rfl
  go_upto_region 3 with (fail)
  obtain ⟨w5, hV⟩ : ∃ V, w4.setCell ⟨W1.heap.size, 5, none⟩ (.slice (some ⟨g, 0, none⟩) dn (dn + 3)) = V := ⟨_, rfl⟩
  try rw [hV]
  have hgV : w4.grownBy w5 (some W1.heap.size) := by rw [← hV]; exact grown_set _ _ _ _
  have BA : Hid (Blk w5 w.heap.size 54 (0, 0) [.int .i64 2, .int .u32 h.from_, .int .u16 h.fport, .int .u32 h.to_, .int .u16 h.tport, .bool h.stream, .slice da dn dc, .int .i64 y]) := Lib.hid (A4.out.grownV2 hgV (fun e => by have e2 := Option.some.inj e; have := hl1.out; omega))
  have BP : Hid (Blk w5 W1.heap.size 32 (0, 0) [.int .u32 h.from_, .int .u16 h.fport, .int .u32 h.to_, .int .u16 h.tport, .bool h.stream, .slice (some ⟨g, 0, none⟩) dn (dn + 3)]) := Lib.hid (by rw [← hV]; exact P4.out.set 5 _)
  have BL : Hid (Blk w5 g 5 (0, 0) (u8s (lentL d))) := Lib.hid (L4.out.grownV2 hgV (fun e => by have e2 := Option.some.inj e; have := hl3.out; omega))
  have K5 := Lib.hid (K4.out.grown hgV K4.out.size (fun k hk => by cases hk; exact Nat.le_of_lt hl1.out))
  clear hV hgV A4 P4 L4 K4 f5 p5
  have hgs : Hid (w.heap.size < W1.heap.size ∧ W1.heap.size < g ∧ g < w5.heap.size ∧ w.heap.size < w5.heap.size ∧ W1.heap.size < w5.heap.size) := Lib.hid (by have h1 := hl1.out; have h2 := hl3.out; have h3 := BL.out.lt; omega)
  clear hl1 hl3
  have NA : Hid (NetA w5 n B w5.heap.size S s) := Lib.hid ((HB.out.a.ext K5.out).wide K5.out.size (Nat.le_refl _))
  have hSw : Hid (∀ x, S x → x < w.heap.size) := Lib.hid (fun x hx => HB.out.a.hi x hx)
  have RQ : Hid (RefP w5 (fun x => S x ∨ x = g) r (s.F.drop s.at_) L s.c) := Lib.hid (HB.out.q.tch (Tch.of_below (S := fun _ => False) K5.out) (fun _ _ e => e.elim) (fun x hx hs => hs.elim id (fun e => by have h1 := hgs.out; omega)))
  have HR : Hid (Rd byteE w5 da dn dc d) := Lib.hid (HP.out.ext K5.out)
  have KB : Hid (Below B w w5) := Lib.hid (K5.out.mono hnw.out.2.2)
  have hab : Hid (∀ b o s, 0 < dn → da = some ⟨b, o, s⟩ → b < w.heap.size ∧ ¬ S b ∧ b ≠ r) := Lib.hid (fun b o s h0 e => by
    obtain ⟨b1, o1, e1, hlt, _⟩ := HP.out.addr h0
    have e2 := e
    rw [e1] at e2
    cases e2
    exact ⟨hlt, HAP.out _ _ _ h0 e1⟩)
  clear HP HAP K5
  have p0 : w5.cell? ⟨w.heap.size, 0, none⟩ = some (.int .i64 2) := (BA.out.cell 0).trans rfl
  have p7 : w5.cell? ⟨w.heap.size, 7, none⟩ = some (.int .i64 y) := (BA.out.cell 7).trans rfl
  obtain ⟨L6, hlaw, hbp, hF6, ha6, htl⟩ := due_law HB.out.p y
  have hdu := Lib.hid (due_any NA.out.P hok.out y)
  unfold DueB at hdu
  obtain ⟨⟨TL, e0, s6⟩, hX⟩ : ∃ x, dueS s y = x := ⟨_, rfl⟩
  rw [hX] at hlaw hbp hF6 ha6 hdu htl
  dsimp only at hlaw hbp hF6 ha6 hdu htl
  have hlaw' := Lib.hid hlaw
  have hbp' := Lib.hid hbp
  have hFa := Lib.hid (And.intro hF6 ha6)
  have htl2 := Lib.hid htl
  clear hlaw hbp hF6 ha6 hX htl
  go_wp2_with fail
  refine hdu.out.mono ?_
  rintro e w6 ⟨v, T, OP, rfl, hT0, hout, hnp, hT⟩
  clear hdu p0 p7
  obtain ⟨xa, xn, xc, rfl, -⟩ := hout.rdP
  dsimp only
  have hTS := Lib.hid hT0
  have OUT6 := Lib.hid hout
  obtain ⟨S6, hS6e⟩ : ∃ S6, S6 = fun g => S g ∧ ¬ T g := ⟨_, rfl⟩
  rw [← hS6e] at hnp
  have hS6i : Hid (∀ x, S6 x → S x ∧ ¬ T x) := Lib.hid (fun x hx => by rw [hS6e] at hx; exact hx)
  clear hS6e hT0 hout
  have hna : NetA w6 n B w6.heap.size S6 s6 := ⟨hnp, fun x hx => NA.out.lo x (hS6i.out x hx).1, fun x hx => Nat.lt_of_lt_of_le (NA.out.hi x (hS6i.out x hx).1) hT.size, Nat.le_trans NA.out.bm hT.size, Nat.le_refl _⟩
  have hTn := hT
  replace hT : Tch S w5 w6 := hT.mono (fun b _ e => by rw [e]; exact NA.out.sn)
  have hs6 : ∀ x, S6 x → S x ∨ w5.heap.size ≤ x := fun x hx => .inl (hS6i.out x hx).1
  clear hnp hTn
  have T6 := Lib.hid hT
  have hS6 := Lib.hid hs6
  have NA6 := Lib.hid hna
  clear hT hs6 hna
  have hns : Hid (∀ b, w.heap.size ≤ b → ¬ S b) := Lib.hid (fun b hb hs => by have h1 := hSw.out b hs; omega)
  have BA6 := Lib.hid (T6.out.blk BA.out (hns.out _ (Nat.le_refl _)))
  have BP6 := Lib.hid (T6.out.blk BP.out (hns.out _ (Nat.le_of_lt hgs.out.1)))
  have BL6 := Lib.hid (T6.out.blk BL.out (hns.out _ (by have h1 := hgs.out; omega)))
  have HR6 := Lib.hid (T6.out.rdn HR.out (fun b o s h0 e => (hab.out b o s h0 e).2.1))
  have RQ6 : Hid (RefP w6 (fun x => S x ∨ x = g) r (s.F.drop s.at_) L s.c) := Lib.hid (RQ.out.tch T6.out (fun x _ hx => .inl hx) (fun x _ hs => hs))
  have KB6 := Lib.hid (KB.out.trans (T6.out.below (B := B) (by have h1 := KB.out.size; have h2 := hnw.out.2.2; omega) (fun b _ hb => HB.out.a.lo b hb)))
  have hz6 : Hid (w5.heap.size ≤ w6.heap.size) := Lib.hid T6.out.size
  clear NA RQ BA BP BL HR KB T6
  have p7 : w6.cell? ⟨w.heap.size, 7, none⟩ = some (.int .i64 y) := (BA6.out.cell 7).trans rfl
  have hrs := Lib.hid (rdue_any RQ6.out HB.out.room (by have h1 := HB.out.taken; omega) (fun x hx => hx.elim (fun hx => by have h1 := hSw.out x hx; have h2 := hgs.out; have h3 := hz6.out; omega) (fun e => by have h1 := hgs.out; have h2 := hz6.out; omega)) y)
  unfold RDB at hrs
  rw [hlaw'.out] at hrs
  dsimp only at hrs
  go_wp2_with fail
  refine hrs.out.mono ?_
  rintro e w7 ⟨ya, yn, yc, rfl, hyr, hq, hT⟩
  clear hrs p7
  have hrS : Hid (¬ S r) := Lib.hid (fun h => by obtain ⟨_, _, _, _, _, _, _, hz⟩ := RQ6.out; exact hz.rn (.inl h))
  have T7 := Lib.hid hT
  have RQ7 := Lib.hid hq
  have RY := Lib.hid hyr
  clear hT hq hyr
  have BA7 := Lib.hid (T7.out.blk BA6.out (fun e => by have h1 := hnw.out; omega))
  have BP7 := Lib.hid (T7.out.blk BP6.out (fun e => by have h1 := hnw.out; have h2 := hgs.out; omega))
  have BL7 := Lib.hid (T7.out.blk BL6.out (fun e => by have h1 := hnw.out; have h2 := hgs.out; omega))
  have HR7 := Lib.hid (T7.out.rdn HR6.out (fun b o s h0 e => (hab.out b o s h0 e).2.2))
  have NA7 := Lib.hid ((NA6.out.tch T7.out (fun x hx e => hrS.out (by rw [← e]; exact (hS6i.out x hx).1))).wide T7.out.size (Nat.le_refl _))
  have KB7 := Lib.hid (KB6.out.trans (T7.out.below (B := B) (by have h1 := KB6.out.size; have h2 := hnw.out.2.2; omega) (fun b _ e => by rw [e]; exact HB.out.br)))
  have OUT7 := Lib.hid (OUT6.out.tch T7.out (fun x hx e => by have h1 := (OUT6.out.own.lt x hx).1; have h2 := hnw.out; have h3 := hgs.out; omega) (fun x hx e => hrS.out (by rw [← e]; exact (hTS.out x hx).1)))
  have hz7 : Hid (w5.heap.size ≤ w7.heap.size) := Lib.hid (Nat.le_trans hz6.out T7.out.size)
  clear OUT6 BA6 BP6 BL6 HR6 NA6 RQ6 KB6 T7
  obtain ⟨xa2, xn2, xc2, ex, RX⟩ := OUT7.out.rdP
  injection ex with ex1 ex2 ex3
  subst ex1 ex2 ex3
  have hxl : Hid (OP.length = xn ∧ xn ≤ 16384) := Lib.hid (by have h1 := (own_rd_at OUT7.out.own).2; have h2 := OUT7.out.len; have h3 := htl2.out; omega)
  have hpk := Lib.hid (packets_any RX RY.out (by have h1 := hxl.out; omega))
  rw [sameL_refl] at hpk
  clear RX
  go_wp2_with fail
  refine hpk.out.mono ?_
  rintro e w8 ⟨rfl, hb⟩
  clear hpk RY
  have BA8 := Lib.hid (BA7.out.below hb BA7.out.lt)
  have BP8 := Lib.hid (BP7.out.below hb BP7.out.lt)
  have BL8 := Lib.hid (BL7.out.below hb BL7.out.lt)
  have HR8 := Lib.hid (HR7.out.ext hb)
  have NA8 := Lib.hid ((NA7.out.ext hb).wide hb.size (Nat.le_refl _))
  have RQ8 := Lib.hid (RQ7.out.ext hb)
  have KB8 := Lib.hid (KB7.out.trans (hb.mono (by have h1 := KB7.out.size; have h2 := hnw.out.2.2; omega)))
  have OUT8 := Lib.hid (OUT7.out.tch (Tch.of_below (S := fun _ => False) hb) (fun _ _ h => h) (fun _ _ h => h))
  have hz8 : Hid (w5.heap.size ≤ w8.heap.size) := Lib.hid (Nat.le_trans hz7.out hb.size)
  clear hb BA7 BP7 BL7 HR7 NA7 RQ7 KB7 OUT7
  have OWN8 := Lib.hid OUT8.out.own
  have REP8 : Hid (∀ (j : Nat) (q : PD), 0 ≤ j → OP[j]? = some q → ∃ l, Own byteE w8 0 (pV q) l) := Lib.hid (fun j q _ hq => by
    have hj : j < OP.length := (List.getElem?_eq_some_iff.1 hq).1
    exact ⟨_, (OUT8.out.rep j q (TL[j]'(by have := OUT8.out.len; omega)) hq (List.getElem?_eq_getElem _)).2⟩)
  go_wp2_with fail
  go_loopw [17] (fun i wr => ∃ k : Nat, k ≤ xn ∧ i = .int .i64 k ∧ Hid (Own pkE wr w5.heap.size (.slice xa xn xc) OP) ∧ Hid (∀ (j : Nat) (q : PD), k ≤ j → OP[j]? = some q → ∃ l, Own byteE wr 0 (pV q) l) ∧ Hid (Tch T w8 wr)) (fun i _ => xn - (intOf i).toNat)
  case atStart => exact ⟨0, Nat.zero_le _, rfl, OWN8, REP8, Lib.hid (Tch.refl _ _)⟩
  case round =>
    clear OWN8 REP8
    obtain ⟨k, hk, rfl, OWN, REP, TT⟩ := hrel
    have hx16 : xn ≤ 16384 := hxl.out.2
    by_cases hlt : k < xn
    case pos =>
      have hkI : (k : Int) < xn := by omega
      have hk0 : (0 : Int) ≤ k := by omega
      obtain ⟨b, o, rfl, -, hcc⟩ := rd_pk (own_rd_at OWN.out).1 (by omega)
      obtain ⟨u0_, u1_, u2_, u3_, u4_, d5⟩ := hcc k (by rw [hxl.out.1]; exact hlt)
      obtain ⟨q, hq⟩ : ∃ q, OP[k]'(by rw [hxl.out.1]; exact hlt) = q := ⟨_, rfl⟩
      rw [hq] at d5
      have hqk : Hid (OP[k]? = some q) := Lib.hid (by rw [List.getElem?_eq_getElem (by rw [hxl.out.1]; exact hlt), hq])
      obtain ⟨l, hl⟩ := REP.out k q (Nat.le_refl _) hqk.out
      have HL := Lib.hid hl
      clear u0_ u1_ u2_ u3_ u4_ hcc hq hl
      have hov := Lib.hid (over_own HL.out)
      unfold pV at hov
      go_wp2_with fail
      refine hov.out.mono ?_
      rintro e w9 ⟨rfl, -, hg⟩
      clear hov d5
      have hst := Lib.hid (OUT8.out.st q (List.mem_of_getElem? hqk.out))
      have OWN2 := Lib.hid (own_grown OWN.out HL.out (by decide) hg)
      have TT2 := Lib.hid (TT.out.trans (Tch.of_grown (S := T) hg (fun j hj => hst.out j hj)) (fun _ _ h => h))
      have REP2 : Hid (∀ (j : Nat) (q : PD), k + 1 ≤ j → OP[j]? = some q → ∃ l, Own byteE w9 0 (pV q) l) := Lib.hid (fun j q2 hj hq2 => by
        obtain ⟨l2, hl2⟩ := REP.out j q2 (by omega) hq2
        exact ⟨l2, hl2.keep (fun b2 hb2 => hg.block b2 (hl2.lt b2 hb2).2 (fun e => OUT8.out.ap k j (by omega) q q2 hqk.out hq2 b2 e.symm hb2))⟩)
      clear hg OWN REP TT HL
      go_wp2_with fail
      go_roundw
      case rel => exact ⟨k + 1, by omega, by go_num, OWN2, REP2, TT2⟩
      case measure => simp [intOf]; omega
    case neg =>
      have hkI : ¬ (k : Int) < xn := by omega
      have hTb : Hid (∀ b, w.heap.size ≤ b → ¬ T b) := Lib.hid (fun b hb hs => hns.out b hb (hTS.out b hs).1)
      have BA9 := Lib.hid (TT.out.blk BA8.out (hTb.out _ (Nat.le_refl _)))
      have BP9 := Lib.hid (TT.out.blk BP8.out (hTb.out _ (Nat.le_of_lt hgs.out.1)))
      have BL9 := Lib.hid (TT.out.blk BL8.out (hTb.out _ (by have h1 := hgs.out; omega)))
      have HR9 := Lib.hid (TT.out.rdn HR8.out (fun b o s h0 e h9 => (hab.out b o s h0 e).2.1 (hTS.out b h9).1))
      have NA9 := Lib.hid ((NA8.out.tch TT.out (fun x hx h9 => (hS6i.out x hx).2 h9)).wide TT.out.size (Nat.le_refl _))
      have RQ9 : Hid (RefP wr (fun x => S x ∨ x = g) r (s6.F.drop s6.at_) L6 s6.c) := Lib.hid (by rw [hFa.out.1, hFa.out.2]; exact RQ8.out.tch TT.out (fun x _ hx => .inl (hTS.out x hx).1) (fun x _ hs => hs))
      have KB9 := Lib.hid (KB8.out.trans (TT.out.below (B := B) (by have h1 := KB8.out.size; have h2 := hnw.out.2.2; omega) (fun b _ hb => HB.out.a.lo b (hTS.out b hb).1)))
      clear BA8 BP8 BL8 HR8 NA8 RQ8 KB8 OUT8 OWN REP TT
      go_upto_region 21 with (fail)
      have p6 : wr.cell? ⟨w.heap.size, 6, none⟩ = some (.slice da dn dc) := (BA9.out.cell 6).trans rfl
      have q5 : wr.cell? ⟨W1.heap.size, 5, none⟩ = some (.slice (some ⟨g, 0, none⟩) dn (dn + 3)) := (BP9.out.cell 5).trans rfl
      have hlr := Lib.hid (lent_rd BL9.out hdl.out hn)
      have hkp := Lib.hid (kept_bytes hlr.out.2 (by omega : dn ≤ dn + 3) HR9.out hn rfl)
      rw [beq_self_eq_true] at hkp
      go_wp2_with fail
      refine hkp.out.mono ?_
      rintro e y1 ⟨rfl, hb⟩
      clear hkp hlr p6 q5
      have NA1 := Lib.hid ((NA9.out.ext hb).wide hb.size (Nat.le_refl _))
      have RQ1 := Lib.hid (RQ9.out.ext hb)
      have BP1 := Lib.hid (BP9.out.below hb BP9.out.lt)
      have BL1 := Lib.hid (BL9.out.below hb BL9.out.lt)
      have KB1 := Lib.hid (KB9.out.trans (hb.mono (by have h1 := KB9.out.size; have h2 := hnw.out.2.2; omega)))
      clear hb
      have q5 : y1.cell? ⟨W1.heap.size, 5, none⟩ = some (.slice (some ⟨g, 0, none⟩) dn (dn + 3)) := (BP1.out.cell 5).trans rfl
      have hov := Lib.hid (over_bytes (w := y1) (b := g) (o := 0) (n := dn) (c := dn + 3) (C1 := []) (C2 := []) (X := lentL d) (by have h1 := BL1.out; simpa using h1) rfl (by rw [lentL_length, hdl.out]) (by omega) (by omega) (fun j _ => by simp))
      go_wp2_with fail
      refine hov.out.mono ?_
      rintro e y2 ⟨rfl, -, hg2⟩
      clear hov q5
      have T2 : Tch (fun x => x = g) y1 y2 := Tch.of_grown hg2 (fun k e => (Option.some.inj e).symm)
      have NA2 := Lib.hid ((NA1.out.tch T2 (fun x hx e => by subst e; exact (fun h => by have h2 := hgs.out; have h1 := hSw.out _ (hS6i.out _ h).1; omega) hx)).wide T2.size (Nat.le_refl _))
      have RQ2 := Lib.hid (RQ1.out.tch (S' := S6) T2 (fun x _ e => by subst e; exact .inr rfl) (fun x _ hx => .inl (hS6i.out x hx).1))
      have KB2 := Lib.hid (KB1.out.trans (T2.below (B := B) (by have h1 := KB1.out.size; have h2 := hnw.out.2.2; omega) (fun b _ e => by have h1 := hgs.out; have h2 := hnw.out.2.2; omega)))
      clear T2 hg2 NA1 RQ1 BP1 BL1 KB1
      have hct := Lib.hid (counts_any NA2.out.P)
      go_wp2_with fail
      refine hct.out.mono ?_
      rintro e y3 ⟨rfl, nq, rfl⟩
      clear hct
      obtain ⟨Y, hY⟩ : ∃ Y, y2.drewN nq = Y := ⟨_, rfl⟩
      have kY : Hid (Below y2.heap.size y2 Y) := Lib.hid (by rw [← hY]; exact bel_drewN _ _)
      rw [hY]
      clear hY
      have NA3 := Lib.hid ((NA2.out.ext kY.out).wide kY.out.size (Nat.le_refl _))
      have RQ3 := Lib.hid (RQ2.out.ext kY.out)
      have KB3 := Lib.hid (KB2.out.trans (kY.out.mono (by have h1 := KB2.out.size; have h2 := hnw.out.2.2; omega)))
      clear NA2 RQ2 KB2 kY
      have hfin : Hid (ActB w n B r N Y) := Lib.hid ⟨KB3.out, _, _, _, Bth.mk' NA3.out RQ3.out HB.out.br hbp'.out⟩
      obtain ⟨za, zn, zc, zla, zln, zlc, zFL, hz⟩ := RQ3.out
      have hzb := Lib.hid hz.blk
      clear hz
      obtain ⟨⟨c_0, c_1, c_2, c_3⟩, hcx⟩ : ∃ x, s6.c = x := ⟨_, rfl⟩
      rw [hcx] at hzb ⊢
      dsimp only at hzb ⊢
      clear hcx
      have z2 : Y.cell? ⟨r, 2, none⟩ = some (.int .i64 c_0) := (hzb.out.cell 2).trans rfl
      have z3 : Y.cell? ⟨r, 3, none⟩ = some (.int .i64 c_1) := (hzb.out.cell 3).trans rfl
      have z4 : Y.cell? ⟨r, 4, none⟩ = some (.int .i64 c_2) := (hzb.out.cell 4).trans rfl
      have z5 : Y.cell? ⟨r, 5, none⟩ = some (.int .i64 c_3) := (hzb.out.cell 5).trans rfl
      go_wp2_with fail
      go_ret
      exact ⟨rfl, hfin.out⟩
end Go.Proofs.Ythdnbipfdahnlaa
