/- A message without, and with, what is said: Without 28, With 22; printed by gen_wim.py. -/
import Derived.Test.YthgnlbdolilklaaFiM
import Derived.Test.YthgnlbdolilklaaSzE
namespace Go.Proofs.Ythgnlbdolilklaa
open Go Go.RowKit
theorem oneS (a : Option Addr) (n c : Nat) : (Value.slice a n c).oneCell' = true := rfl
/-- a message's parts of the call's own -/
structure OwnM (w : World) (b : Nat) (vq v1 v2 v3 : Value) (QS : List QD) (NS : List Nm) (Q1 : List RD) (L1 : List RL) (Q2 : List RD) (L2 : List RL) (Q3 : List RD) (L3 : List RL) : Prop where
  q : OwnQs w b vq QS NS
  a1 : OwnRs w b v1 Q1 L1
  a2 : OwnRs w b v2 Q2 L2
  a3 : OwnRs w b v3 Q3 L3
theorem OwnM.ext {w w' : World} {b : Nat} {vq v1 v2 v3 : Value} {QS : List QD} {NS : List Nm} {Q1 : List RD} {L1 : List RL} {Q2 : List RD} {L2 : List RL} {Q3 : List RD} {L3 : List RL} (h : OwnM w b vq v1 v2 v3 QS NS Q1 L1 Q2 L2 Q3 L3) (hb : Below w.heap.size w w') : OwnM w' b vq v1 v2 v3 QS NS Q1 L1 Q2 L2 Q3 L3 := ⟨h.q.ext hb, h.a1.ext hb, h.a2.ext hb, h.a3.ext hb⟩
theorem OwnM.store {w w' : World} {b k : Nat} {vq v1 v2 v3 : Value} {QS : List QD} {NS : List Nm} {Q1 : List RD} {L1 : List RL} {Q2 : List RD} {L2 : List RL} {Q3 : List RD} {L3 : List RL} {fz : Nat × Nat} {C : List Value} (h : OwnM w b vq v1 v2 v3 QS NS Q1 L1 Q2 L2 Q3 L3) (hB : Blk w k 60 fz C) (hg : w.grownBy w' (some k)) : OwnM w' b vq v1 v2 v3 QS NS Q1 L1 Q2 L2 Q3 L3 :=
  ⟨ownQs_store h.q hB (by decide) (by decide) hg, ownRs_store h.a1 hB hg, ownRs_store h.a2 hB hg, ownRs_store h.a3 hB hg⟩
theorem OwnM.mono {w : World} {b b' : Nat} {vq v1 v2 v3 : Value} {QS : List QD} {NS : List Nm} {Q1 : List RD} {L1 : List RL} {Q2 : List RD} {L2 : List RL} {Q3 : List RD} {L3 : List RL} (h : OwnM w b vq v1 v2 v3 QS NS Q1 L1 Q2 L2 Q3 L3) (hb : b' ≤ b) : OwnM w b' vq v1 v2 v3 QS NS Q1 L1 Q2 L2 Q3 L3 := by
  refine ⟨?_, h.a1.mono hb, h.a2.mono hb, h.a3.mono hb⟩
  obtain ⟨qs, h1, h2, h3⟩ := h.q
  exact ⟨qs, h1.mono hb, h2, fun j q q0 N hq h0 hN => ⟨(h3 j q q0 N hq h0 hN).1.mono hb, (h3 j q q0 N hq h0 hN).2⟩⟩
set_option maxHeartbeats 8000000 in
set_option maxRecDepth 100000 in
theorem without_any {w : World} {qa : Option Addr} {qn qc : Nat} {QS : List QD} {NS : List Nm} {an : Option Addr} {nn1 nc1 : Nat} {Q1 : List RD} {L1 : List RL} {au : Option Addr} {nn2 nc2 : Nat} {Q2 : List RD} {L2 : List RL} {ad3 : Option Addr} {nn3 nc3 : Nat} {Q3 : List RD} {L3 : List RL} (h : RdM w qa qn qc QS NS an nn1 nc1 Q1 L1 au nn2 nc2 Q2 L2 ad3 nn3 nc3 Q3 L3)(m0 m1 m2 m3 m4 m5 m6 m7 m8 m9 : Value) (ho : [m0, m1, m2, m3, m4, m5, m6, m7, m8, m9].all (·.oneCell') = true) (z : Q3.length ≤ 1000000000) :
    Calls Try.prog 28 #[.agg #[m0, m1, m2, m3, m4, m5, m6, m7, m8, m9, .slice qa qn qc, .slice an nn1 nc1, .slice au nn2 nc2, .slice ad3 nn3 nc3]] w fun e w' => (∃ vq v1 v2 v3, e = .returned (.agg #[m0, m1, m2, m3, m4, m5, m6, m7, m8, m9, vq, v1, v2, v3]) ∧ OwnM w' w.heap.size vq v1 v2 v3 QS NS Q1 L1 Q2 L2 (zQ Q3 L3) (zL Q3 L3)) ∧ Below w.heap.size w w' := by
  obtain ⟨W1, hW1⟩ : ∃ W, w.alloc (.cells #[m0, m1, m2, m3, m4, m5, m6, m7, m8, m9, .slice qa qn qc, .slice an nn1 nc1, .slice au nn2 nc2, .slice ad3 nn3 nc3] 60) = W := ⟨_, rfl⟩
  have B1 : Hid (Blk W1 w.heap.size 60 (0, 0) [m0, m1, m2, m3, m4, m5, m6, m7, m8, m9, .slice qa qn qc, .slice an nn1 nc1, .slice au nn2 nc2, .slice ad3 nn3 nc3]) := Lib.hid (by rw [← hW1]; exact Blk.new w 60 (0, 0) #[m0, m1, m2, m3, m4, m5, m6, m7, m8, m9, .slice qa qn qc, .slice an nn1 nc1, .slice au nn2 nc2, .slice ad3 nn3 nc3])
  have k1 : Hid (Below w.heap.size w W1) := Lib.hid (by rw [← hW1]; exact alloc_bel _ _)
  obtain ⟨W2, hW2⟩ : ∃ W, W1.alloc (.cells #[.int .u16 0, .bool false, .int .i64 0, .bool false, .bool false, .bool false, .bool false, .bool false, .bool false, .int .i64 0, .slice none 0 0, .slice none 0 0, .slice none 0 0, .slice none 0 0] 60) = W := ⟨_, rfl⟩
  have B2 : Hid (Blk W2 W1.heap.size 60 (0, 0) [.int .u16 0, .bool false, .int .i64 0, .bool false, .bool false, .bool false, .bool false, .bool false, .bool false, .int .i64 0, .slice none 0 0, .slice none 0 0, .slice none 0 0, .slice none 0 0]) := Lib.hid (by rw [← hW2]; exact Blk.new W1 60 (0, 0) #[.int .u16 0, .bool false, .int .i64 0, .bool false, .bool false, .bool false, .bool false, .bool false, .bool false, .int .i64 0, .slice none 0 0, .slice none 0 0, .slice none 0 0, .slice none 0 0])
  have k2 : Hid (Below W1.heap.size W1 W2) := Lib.hid (by rw [← hW2]; exact alloc_bel _ _)
  have hl1 : Hid (w.heap.size < W1.heap.size) := Lib.hid B1.out.lt
  have kb2 := Lib.hid (k1.out.trans (k2.out.mono k1.out.size))
  have B1' := Lib.hid (B1.out.below k2.out B1.out.lt)
  have hl3 := Lib.hid h.a3.2.1
  have hcop := Lib.hid (copied_any (h.q.ext kb2.out) (h.a1.ext kb2.out) (h.a2.ext kb2.out) (h.a3.ext kb2.out) m0 m1 m2 m3 m4 m5 m6 m7 m8 m9 ho)
  have ho' := Lib.hid ho
  clear h ho
  have p0 : W2.cell? ⟨w.heap.size, 0, none⟩ = some (m0) := (B1'.out.cell 0).trans rfl
  have p1 : W2.cell? ⟨w.heap.size, 1, none⟩ = some (m1) := (B1'.out.cell 1).trans rfl
  have p2 : W2.cell? ⟨w.heap.size, 2, none⟩ = some (m2) := (B1'.out.cell 2).trans rfl
  have p3 : W2.cell? ⟨w.heap.size, 3, none⟩ = some (m3) := (B1'.out.cell 3).trans rfl
  have p4 : W2.cell? ⟨w.heap.size, 4, none⟩ = some (m4) := (B1'.out.cell 4).trans rfl
  have p5 : W2.cell? ⟨w.heap.size, 5, none⟩ = some (m5) := (B1'.out.cell 5).trans rfl
  have p6 : W2.cell? ⟨w.heap.size, 6, none⟩ = some (m6) := (B1'.out.cell 6).trans rfl
  have p7 : W2.cell? ⟨w.heap.size, 7, none⟩ = some (m7) := (B1'.out.cell 7).trans rfl
  have p8 : W2.cell? ⟨w.heap.size, 8, none⟩ = some (m8) := (B1'.out.cell 8).trans rfl
  have p9 : W2.cell? ⟨w.heap.size, 9, none⟩ = some (m9) := (B1'.out.cell 9).trans rfl
  have p10 : W2.cell? ⟨w.heap.size, 10, none⟩ = some (.slice qa qn qc) := (B1'.out.cell 10).trans rfl
  have p11 : W2.cell? ⟨w.heap.size, 11, none⟩ = some (.slice an nn1 nc1) := (B1'.out.cell 11).trans rfl
  have p12 : W2.cell? ⟨w.heap.size, 12, none⟩ = some (.slice au nn2 nc2) := (B1'.out.cell 12).trans rfl
  have p13 : W2.cell? ⟨w.heap.size, 13, none⟩ = some (.slice ad3 nn3 nc3) := (B1'.out.cell 13).trans rfl
  go_enter Try.func28, Try.ntmps28
  go_wp2_with fail
  try rw [hW1]
  try rw [hW2]
  clear hW1 hW2
  refine hcop.out.mono ?_
  rintro e w3 ⟨⟨vq, v1, v2, v3, rfl, oq, o1, o2, o3, a12, a13, a23⟩, hb3⟩
  have kb3 := Lib.hid (kb2.out.trans (hb3.mono kb2.out.size))
  have B23 := Lib.hid (B2.out.below hb3 B2.out.lt)
  have hl2 : Hid (W1.heap.size < W2.heap.size) := Lib.hid B2.out.lt
  have hl23 : Hid (W2.heap.size ≤ w3.heap.size) := Lib.hid hb3.size
  obtain ⟨bq, cq, rfl⟩ := oq.shape
  obtain ⟨b1, c1, rfl⟩ := o1.shape
  obtain ⟨b2, c2, rfl⟩ := o2.shape
  obtain ⟨b3, c3, rfl⟩ := o3.shape
  have oq3 := Lib.hid oq
  have o13 := Lib.hid o1
  have o23 := Lib.hid o2
  have o33 := Lib.hid o3
  have hap := Lib.hid (And.intro a13 a23)
  clear oq o1 o2 o3 a12 a13 a23 hb3 hcop p0 p1 p2 p3 p4 p5 p6 p7 p8 p9 p10 p11 p12 p13
  obtain ⟨W4, hW4⟩ : ∃ W, w3.alloc (.cells #[.int .u16 0, .bool false, .int .i64 0, .bool false, .bool false, .bool false, .bool false, .bool false, .bool false, .int .i64 0, .slice none 0 0, .slice none 0 0, .slice none 0 0, .slice none 0 0] 60) = W := ⟨_, rfl⟩
  have B4 : Hid (Blk W4 w3.heap.size 60 (0, 0) [.int .u16 0, .bool false, .int .i64 0, .bool false, .bool false, .bool false, .bool false, .bool false, .bool false, .int .i64 0, .slice none 0 0, .slice none 0 0, .slice none 0 0, .slice none 0 0]) := Lib.hid (by rw [← hW4]; exact Blk.new w3 60 (0, 0) #[.int .u16 0, .bool false, .int .i64 0, .bool false, .bool false, .bool false, .bool false, .bool false, .bool false, .int .i64 0, .slice none 0 0, .slice none 0 0, .slice none 0 0, .slice none 0 0])
  have k4 : Hid (Below w3.heap.size w3 W4) := Lib.hid (by rw [← hW4]; exact alloc_bel _ _)
  have hoC : Hid (#[m0, m1, m2, m3, m4, m5, m6, m7, m8, m9, .slice bq QS.length cq, .slice b1 Q1.length c1, .slice b2 Q2.length c2, .slice b3 Q3.length c3].all (·.oneCell') = true) := Lib.hid (by
    have := ho'.out
    simp only [List.all_toArray, List.all_cons, List.all_nil, Bool.and_true] at this ⊢
    simpa [oneS] using this)
  go_upto_region 2 with (refine store_whole rfl 60 (.tmp 3) (.tmp 5) rfl rfl rfl B4.out (by rfl) (by kernel_rfl) hoC.out ?_; intro w5 hBx hgx hzx; have R5 := Lib.hid hBx; have g5 := Lib.hid hgx; clear hBx hgx hzx)
  try rw [hW4]
  clear hW4
  have k5 := Lib.hid (fresh_store k4.out g5.out)
  have kb5 := Lib.hid (kb3.out.trans (k5.out.mono kb3.out.size))
  have oq5 := Lib.hid (oq3.out.ext k5.out)
  have o15 := Lib.hid (o13.out.ext k5.out)
  have o25 := Lib.hid (o23.out.ext k5.out)
  have o35 := Lib.hid (o33.out.ext k5.out)
  have B25 := Lib.hid (B23.out.below k5.out B23.out.lt)
  clear k4 B4 g5 oq3 o13 o23 o33 B23
  obtain ⟨qs, x1, x2, x3⟩ := o35.out.del hl3.out
  have x1' := Lib.hid x1
  have x3' := Lib.hid x3
  have hqsl : qs.length ≤ 1000000000 := by omega
  have hdel := Lib.hid (del_recs x1 hqsl)
  clear x1 x3
  have p0 : w5.cell? ⟨w3.heap.size, 0, none⟩ = some (m0) := (R5.out.cell 0).trans rfl
  have p1 : w5.cell? ⟨w3.heap.size, 1, none⟩ = some (m1) := (R5.out.cell 1).trans rfl
  have p2 : w5.cell? ⟨w3.heap.size, 2, none⟩ = some (m2) := (R5.out.cell 2).trans rfl
  have p3 : w5.cell? ⟨w3.heap.size, 3, none⟩ = some (m3) := (R5.out.cell 3).trans rfl
  have p4 : w5.cell? ⟨w3.heap.size, 4, none⟩ = some (m4) := (R5.out.cell 4).trans rfl
  have p5 : w5.cell? ⟨w3.heap.size, 5, none⟩ = some (m5) := (R5.out.cell 5).trans rfl
  have p6 : w5.cell? ⟨w3.heap.size, 6, none⟩ = some (m6) := (R5.out.cell 6).trans rfl
  have p7 : w5.cell? ⟨w3.heap.size, 7, none⟩ = some (m7) := (R5.out.cell 7).trans rfl
  have p8 : w5.cell? ⟨w3.heap.size, 8, none⟩ = some (m8) := (R5.out.cell 8).trans rfl
  have p9 : w5.cell? ⟨w3.heap.size, 9, none⟩ = some (m9) := (R5.out.cell 9).trans rfl
  have p10 : w5.cell? ⟨w3.heap.size, 10, none⟩ = some (.slice bq QS.length cq) := (R5.out.cell 10).trans rfl
  have p11 : w5.cell? ⟨w3.heap.size, 11, none⟩ = some (.slice b1 Q1.length c1) := (R5.out.cell 11).trans rfl
  have p12 : w5.cell? ⟨w3.heap.size, 12, none⟩ = some (.slice b2 Q2.length c2) := (R5.out.cell 12).trans rfl
  have p13 : w5.cell? ⟨w3.heap.size, 13, none⟩ = some (.slice b3 Q3.length c3) := (R5.out.cell 13).trans rfl
  go_wp2_with fail
  refine hdel.out.mono ?_
  rintro e w6 ⟨⟨v', rfl, ho6, hbk⟩, hg6⟩
  have y3 := Lib.hid (x3'.out w6 v' ho6 hg6)
  have y1 := Lib.hid (ownRs_grown o15.out x1'.out hap.out.1 hg6)
  have y2 := Lib.hid (ownRs_grown o25.out x1'.out hap.out.2 hg6)
  have yq := Lib.hid (ownQs_grownR oq5.out x1'.out hg6)
  have R6 := Lib.hid (blk_own R5.out x1'.out (by decide) hg6)
  have B26 := Lib.hid (blk_own B25.out x1'.out (by decide) hg6)
  have kb6 := Lib.hid (kb5.out.grown hg6 kb5.out.size (fun k hk => by have := (x1'.out.lt k hk).1; have := hl1.out; have := hl2.out; omega))
  obtain ⟨b6, c6, e6⟩ := y3.out.shape
  subst e6
  clear ho6 hbk hg6 hdel x1' x3' o15 o25 o35 oq5 R5 B25 p0 p1 p2 p3 p4 p5 p6 p7 p8 p9 p10 p11 p12 p13
  generalize (zQ Q3 L3).length = n6 at *
  have f13 : w6.frozen? ⟨w3.heap.size, 13, none⟩ = false := by rw [R6.out.frozen]; try simp
  have p13 : w6.cell? ⟨w3.heap.size, 13, none⟩ = some (.slice b3 Q3.length c3) := (R6.out.cell 13).trans rfl
  go_upto_region 3 with (fail)
  obtain ⟨w7, hV⟩ : ∃ V, w6.setCell ⟨w3.heap.size, 13, none⟩ (.slice b6 n6 c6) = V := ⟨_, rfl⟩
  try rw [hV]
  have hgV : w6.grownBy w7 (some w3.heap.size) := by rw [← hV]; exact grown_set _ _ _ _
  have R7 : Hid (Blk w7 w3.heap.size 60 (0, 0) [m0, m1, m2, m3, m4, m5, m6, m7, m8, m9, .slice bq QS.length cq, .slice b1 Q1.length c1, .slice b2 Q2.length c2, .slice b6 n6 c6]) := Lib.hid (by rw [← hV]; exact R6.out.set 13 _)
  have hm : Hid (OwnM w7 W2.heap.size (.slice bq QS.length cq) (.slice b1 Q1.length c1) (.slice b2 Q2.length c2) (.slice b6 n6 c6) QS NS Q1 L1 Q2 L2 (zQ Q3 L3) (zL Q3 L3)) := Lib.hid (OwnM.store ⟨yq.out, y1.out, y2.out, y3.out⟩ R6.out hgV)
  have B27 := Lib.hid (B26.out.grownV2 hgV (fun e => by have e2 := Option.some.inj e; have := hl2.out; have := hl23.out; omega))
  have kb7 := Lib.hid (kb6.out.grown hgV kb6.out.size (fun k hk => by have e2 := Option.some.inj hk; have := hl1.out; have := hl2.out; have := hl23.out; omega))
  clear hV hgV f13 p13 R6 yq y1 y2 y3 B26 kb6
  have p0 : w7.cell? ⟨w3.heap.size, 0, none⟩ = some (m0) := (R7.out.cell 0).trans rfl
  have p1 : w7.cell? ⟨w3.heap.size, 1, none⟩ = some (m1) := (R7.out.cell 1).trans rfl
  have p2 : w7.cell? ⟨w3.heap.size, 2, none⟩ = some (m2) := (R7.out.cell 2).trans rfl
  have p3 : w7.cell? ⟨w3.heap.size, 3, none⟩ = some (m3) := (R7.out.cell 3).trans rfl
  have p4 : w7.cell? ⟨w3.heap.size, 4, none⟩ = some (m4) := (R7.out.cell 4).trans rfl
  have p5 : w7.cell? ⟨w3.heap.size, 5, none⟩ = some (m5) := (R7.out.cell 5).trans rfl
  have p6 : w7.cell? ⟨w3.heap.size, 6, none⟩ = some (m6) := (R7.out.cell 6).trans rfl
  have p7 : w7.cell? ⟨w3.heap.size, 7, none⟩ = some (m7) := (R7.out.cell 7).trans rfl
  have p8 : w7.cell? ⟨w3.heap.size, 8, none⟩ = some (m8) := (R7.out.cell 8).trans rfl
  have p9 : w7.cell? ⟨w3.heap.size, 9, none⟩ = some (m9) := (R7.out.cell 9).trans rfl
  have p10 : w7.cell? ⟨w3.heap.size, 10, none⟩ = some (.slice bq QS.length cq) := (R7.out.cell 10).trans rfl
  have p11 : w7.cell? ⟨w3.heap.size, 11, none⟩ = some (.slice b1 Q1.length c1) := (R7.out.cell 11).trans rfl
  have p12 : w7.cell? ⟨w3.heap.size, 12, none⟩ = some (.slice b2 Q2.length c2) := (R7.out.cell 12).trans rfl
  have p13 : w7.cell? ⟨w3.heap.size, 13, none⟩ = some (.slice b6 n6 c6) := (R7.out.cell 13).trans rfl
  have hoD : Hid (#[m0, m1, m2, m3, m4, m5, m6, m7, m8, m9, .slice bq QS.length cq, .slice b1 Q1.length c1, .slice b2 Q2.length c2, .slice b6 n6 c6].all (·.oneCell') = true) := Lib.hid (by
    have := ho'.out
    simp only [List.all_toArray, List.all_cons, List.all_nil, Bool.and_true] at this ⊢
    simpa [oneS] using this)
  go_wp2_with (refine store_whole rfl 60 (.tmp 2) (.tmp 10) rfl rfl rfl B27.out (by rfl) (by kernel_rfl) hoD.out ?_; intro w8 hBx hgx hzx; have R8 := Lib.hid hBx; have g8 := Lib.hid hgx; clear hBx hgx hzx)
  refine bodyPost_ret (results_c rfl _ rfl R8.out Try.underlying60 rfl (by kernel_rfl)) rfl ?_
  refine ⟨⟨_, _, _, _, rfl, (hm.out.store B27.out g8.out).mono (by have := hl1.out; have := hl2.out; omega)⟩, kb7.out.grown g8.out kb7.out.size (fun k hk => by have e2 := Option.some.inj hk; have := hl1.out; omega)⟩
set_option maxHeartbeats 8000000 in
set_option maxRecDepth 100000 in
theorem with_there {w : World} {ad3 : Option Addr} {nn3 nc3 : Nat} {Q3 : List RD} {L3 : List RL} (h : RdRs w ad3 nn3 nc3 Q3 L3) (hi3 : 0 ≤ idxF Q3 0) (m0 m1 m2 m3 m4 m5 m6 m7 m8 m9 qv v1 v2 : Value) (sz hi ver : Int) (d : Bool) (a : Option Addr) (n c : Nat) :
    Calls Try.prog 22 #[.agg #[m0, m1, m2, m3, m4, m5, m6, m7, m8, m9, qv, v1, v2, .slice ad3 nn3 nc3], .agg #[.int .i64 sz, .int .i64 hi, .int .i64 ver, .bool d, .slice a n c]] w fun e w' => e = .returned (.tuple #[.agg #[.int .u16 0, .bool false, .int .i64 0, .bool false, .bool false, .bool false, .bool false, .bool false, .bool false, .int .i64 0, .slice none 0 0, .slice none 0 0, .slice none 0 0, .slice none 0 0], .int .i64 10]) ∧ Below w.heap.size w w' := by
  obtain ⟨W1, hW1⟩ : ∃ W, w.alloc (.cells #[m0, m1, m2, m3, m4, m5, m6, m7, m8, m9, qv, v1, v2, .slice ad3 nn3 nc3] 60) = W := ⟨_, rfl⟩
  have B1 : Hid (Blk W1 w.heap.size 60 (0, 0) [m0, m1, m2, m3, m4, m5, m6, m7, m8, m9, qv, v1, v2, .slice ad3 nn3 nc3]) := Lib.hid (by rw [← hW1]; exact Blk.new w 60 (0, 0) #[m0, m1, m2, m3, m4, m5, m6, m7, m8, m9, qv, v1, v2, .slice ad3 nn3 nc3])
  have k1 : Hid (Below w.heap.size w W1) := Lib.hid (by rw [← hW1]; exact alloc_bel _ _)
  obtain ⟨W2, hW2⟩ : ∃ W, W1.alloc (.cells #[.int .i64 sz, .int .i64 hi, .int .i64 ver, .bool d, .slice a n c] 24) = W := ⟨_, rfl⟩
  have B2 : Hid (Blk W2 W1.heap.size 24 (0, 0) [.int .i64 sz, .int .i64 hi, .int .i64 ver, .bool d, .slice a n c]) := Lib.hid (by rw [← hW2]; exact Blk.new W1 24 (0, 0) #[.int .i64 sz, .int .i64 hi, .int .i64 ver, .bool d, .slice a n c])
  have k2 : Hid (Below W1.heap.size W1 W2) := Lib.hid (by rw [← hW2]; exact alloc_bel _ _)
  obtain ⟨W3, hW3⟩ : ∃ W, W2.alloc (.cells #[.int .u16 0, .bool false, .int .i64 0, .bool false, .bool false, .bool false, .bool false, .bool false, .bool false, .int .i64 0, .slice none 0 0, .slice none 0 0, .slice none 0 0, .slice none 0 0] 60) = W := ⟨_, rfl⟩
  have B3 : Hid (Blk W3 W2.heap.size 60 (0, 0) [.int .u16 0, .bool false, .int .i64 0, .bool false, .bool false, .bool false, .bool false, .bool false, .bool false, .int .i64 0, .slice none 0 0, .slice none 0 0, .slice none 0 0, .slice none 0 0]) := Lib.hid (by rw [← hW3]; exact Blk.new W2 60 (0, 0) #[.int .u16 0, .bool false, .int .i64 0, .bool false, .bool false, .bool false, .bool false, .bool false, .bool false, .int .i64 0, .slice none 0 0, .slice none 0 0, .slice none 0 0, .slice none 0 0])
  have k3 : Hid (Below W2.heap.size W2 W3) := Lib.hid (by rw [← hW3]; exact alloc_bel _ _)
  have hl1 : Hid (w.heap.size < W1.heap.size) := Lib.hid B1.out.lt
  have hl2 : Hid (W1.heap.size < W2.heap.size) := Lib.hid B2.out.lt
  have hl3 : Hid (W2.heap.size < W3.heap.size) := Lib.hid B3.out.lt
  have kb2 := Lib.hid (k1.out.trans (k2.out.mono k1.out.size))
  have kb3 := Lib.hid (kb2.out.trans (k3.out.mono kb2.out.size))
  have B13 := Lib.hid ((B1.out.below k2.out B1.out.lt).below k3.out (by have := hl1.out; have := hl2.out; omega))
  have B23 := Lib.hid (B2.out.below k3.out B2.out.lt)
  have hn : nn3 ≤ 1152921504606846976 := by have := h.2.2.1; unfold reachBytes at this; omega
  have hcon := Lib.hid (con_any (h.1.ext kb3.out) hn)
  rw [decide_eq_true hi3] at hcon
  clear h hi3
  have p13 : W3.cell? ⟨w.heap.size, 13, none⟩ = some (.slice ad3 nn3 nc3) := (B13.out.cell 13).trans rfl
  go_enter Try.func22, Try.ntmps22
  go_wp2_with fail
  try rw [hW1]
  try rw [hW2]
  try rw [hW3]
  clear hW1 hW2 hW3
  refine hcon.out.mono ?_
  rintro e w4 ⟨rfl, hb4⟩
  have kb4 := Lib.hid (kb3.out.trans (hb4.mono kb3.out.size))
  have B34 := Lib.hid (B3.out.below hb4 B3.out.lt)
  clear hb4 hcon
  go_wp2_with (refine store_whole rfl 60 (.tmp 4) (.tmp 12) rfl rfl rfl B34.out (by rfl) (by kernel_rfl) (by kernel_rfl) ?_; intro w5 hBx hgx hzx; have R5 := Lib.hid hBx; have g5 := Lib.hid hgx; clear hBx hgx hzx)
  refine bodyPost_ret (results_ct rfl _ rfl R5.out Try.underlying60 rfl (by kernel_rfl)) rfl ?_
  exact ⟨rfl, kb4.out.grown g5.out kb4.out.size (fun k hk => by have e2 := Option.some.inj hk; have := hl1.out; have := hl2.out; omega)⟩
def optRD (sz ttl rl : Nat) : RD := ⟨none, 0, 0, 41, sz, ttl, none, 0, 0, none, 0, 0, none, 0, 0, some ⟨0, 0, none⟩, rl, rl⟩
def optRL (raw : List UInt8) : RL := ⟨[], [], [], [], raw⟩
set_option maxHeartbeats 8000000 in
set_option maxRecDepth 100000 in
theorem with_bad {w : World} {qa : Option Addr} {qn qc : Nat} {QS : List QD} {NS : List Nm} {an : Option Addr} {nn1 nc1 : Nat} {Q1 : List RD} {L1 : List RL} {au : Option Addr} {nn2 nc2 : Nat} {Q2 : List RD} {L2 : List RL} {ad3 : Option Addr} {nn3 nc3 : Nat} {Q3 : List RD} {L3 : List RL} (h : RdM w qa qn qc QS NS an nn1 nc1 Q1 L1 au nn2 nc2 Q2 L2 ad3 nn3 nc3 Q3 L3)(m0 m1 m2 m3 m4 m5 m6 m7 m8 m9 : Value) (ho : [m0, m1, m2, m3, m4, m5, m6, m7, m8, m9].all (·.oneCell') = true) (hno : idxF Q3 0 < 0) {a : Option Addr} {n c : Nat} {O : List Opt} (hO : RdO w a n c O) (hs : ∀ o ∈ O, o.2.length ≤ 65540) (hC : ∀ o ∈ O, o.1 < 65536) (sz hi ver : Int) (d : Bool) (hb : ¬ (mayB sz hi ver = true ∧ (rawB O).length ≤ 65535)) :
    Calls Try.prog 22 #[.agg #[m0, m1, m2, m3, m4, m5, m6, m7, m8, m9, .slice qa qn qc, .slice an nn1 nc1, .slice au nn2 nc2, .slice ad3 nn3 nc3], .agg #[.int .i64 sz, .int .i64 hi, .int .i64 ver, .bool d, .slice a n c]] w fun e w' => e = .returned (.tuple #[.agg #[.int .u16 0, .bool false, .int .i64 0, .bool false, .bool false, .bool false, .bool false, .bool false, .bool false, .int .i64 0, .slice none 0 0, .slice none 0 0, .slice none 0 0, .slice none 0 0], .int .i64 2]) ∧ Below w.heap.size w w' := by
  obtain ⟨W1, hW1⟩ : ∃ W, w.alloc (.cells #[m0, m1, m2, m3, m4, m5, m6, m7, m8, m9, .slice qa qn qc, .slice an nn1 nc1, .slice au nn2 nc2, .slice ad3 nn3 nc3] 60) = W := ⟨_, rfl⟩
  have B1 : Hid (Blk W1 w.heap.size 60 (0, 0) [m0, m1, m2, m3, m4, m5, m6, m7, m8, m9, .slice qa qn qc, .slice an nn1 nc1, .slice au nn2 nc2, .slice ad3 nn3 nc3]) := Lib.hid (by rw [← hW1]; exact Blk.new w 60 (0, 0) #[m0, m1, m2, m3, m4, m5, m6, m7, m8, m9, .slice qa qn qc, .slice an nn1 nc1, .slice au nn2 nc2, .slice ad3 nn3 nc3])
  have k1 : Hid (Below w.heap.size w W1) := Lib.hid (by rw [← hW1]; exact alloc_bel _ _)
  obtain ⟨W2, hW2⟩ : ∃ W, W1.alloc (.cells #[.int .i64 sz, .int .i64 hi, .int .i64 ver, .bool d, .slice a n c] 24) = W := ⟨_, rfl⟩
  have B2 : Hid (Blk W2 W1.heap.size 24 (0, 0) [.int .i64 sz, .int .i64 hi, .int .i64 ver, .bool d, .slice a n c]) := Lib.hid (by rw [← hW2]; exact Blk.new W1 24 (0, 0) #[.int .i64 sz, .int .i64 hi, .int .i64 ver, .bool d, .slice a n c])
  have k2 : Hid (Below W1.heap.size W1 W2) := Lib.hid (by rw [← hW2]; exact alloc_bel _ _)
  obtain ⟨W3, hW3⟩ : ∃ W, W2.alloc (.cells #[.int .u16 0, .bool false, .int .i64 0, .bool false, .bool false, .bool false, .bool false, .bool false, .bool false, .int .i64 0, .slice none 0 0, .slice none 0 0, .slice none 0 0, .slice none 0 0] 60) = W := ⟨_, rfl⟩
  have B3 : Hid (Blk W3 W2.heap.size 60 (0, 0) [.int .u16 0, .bool false, .int .i64 0, .bool false, .bool false, .bool false, .bool false, .bool false, .bool false, .int .i64 0, .slice none 0 0, .slice none 0 0, .slice none 0 0, .slice none 0 0]) := Lib.hid (by rw [← hW3]; exact Blk.new W2 60 (0, 0) #[.int .u16 0, .bool false, .int .i64 0, .bool false, .bool false, .bool false, .bool false, .bool false, .bool false, .int .i64 0, .slice none 0 0, .slice none 0 0, .slice none 0 0, .slice none 0 0])
  have k3 : Hid (Below W2.heap.size W2 W3) := Lib.hid (by rw [← hW3]; exact alloc_bel _ _)
  have hl1 : Hid (w.heap.size < W1.heap.size) := Lib.hid B1.out.lt
  have hl2 : Hid (W1.heap.size < W2.heap.size) := Lib.hid B2.out.lt
  have hl3 : Hid (W2.heap.size < W3.heap.size) := Lib.hid B3.out.lt
  have kb2 := Lib.hid (k1.out.trans (k2.out.mono k1.out.size))
  have kb3 := Lib.hid (kb2.out.trans (k3.out.mono kb2.out.size))
  have B13 := Lib.hid ((B1.out.below k2.out B1.out.lt).below k3.out (by have := hl1.out; have := hl2.out; omega))
  have B23 := Lib.hid (B2.out.below k3.out B2.out.lt)
  have hn : nn3 ≤ 1152921504606846976 := by have := h.a3.2.2.1; unfold reachBytes at this; omega
  have hcon := Lib.hid (con_any (h.a3.1.ext kb3.out) hn)
  rw [decide_eq_false (by omega)] at hcon
  have hH := Lib.hid h
  have hE := Lib.hid hO
  have hs' := Lib.hid hs
  have hC' := Lib.hid hC
  have ho' := Lib.hid ho
  clear h hno hO hs hC ho
  have p13 : W3.cell? ⟨w.heap.size, 13, none⟩ = some (.slice ad3 nn3 nc3) := (B13.out.cell 13).trans rfl
  go_enter Try.func22, Try.ntmps22
  go_wp2_with fail
  try rw [hW1]
  try rw [hW2]
  try rw [hW3]
  clear hW1 hW2 hW3
  refine hcon.out.mono ?_
  rintro e w4 ⟨rfl, hb4⟩
  have kb4 := Lib.hid (kb3.out.trans (hb4.mono kb3.out.size))
  have hl4 : Hid (W3.heap.size ≤ w4.heap.size) := Lib.hid hb4.size
  have B14 := Lib.hid (B13.out.below hb4 B13.out.lt)
  have B24 := Lib.hid (B23.out.below hb4 B23.out.lt)
  have B34 := Lib.hid (B3.out.below hb4 B3.out.lt)
  clear hb4 hcon B13 B23 p13 k1 k2 k3 B1 B2 B3 kb2 kb3
  have hrec : Hid (Calls Try.prog 11 #[.agg #[.int .i64 sz, .int .i64 hi, .int .i64 ver, .bool d, .slice a n c]] w4 fun e w' => RecB w4.heap.size sz hi ver d O e w' ∧ Below w4.heap.size w4 w') := Lib.hid (rec_any (hE.out.ext kb4.out) hs'.out hC'.out sz hi ver d)
  have p0 : w4.cell? ⟨W1.heap.size, 0, none⟩ = some (.int .i64 sz) := (B24.out.cell 0).trans rfl
  have p1 : w4.cell? ⟨W1.heap.size, 1, none⟩ = some (.int .i64 hi) := (B24.out.cell 1).trans rfl
  have p2 : w4.cell? ⟨W1.heap.size, 2, none⟩ = some (.int .i64 ver) := (B24.out.cell 2).trans rfl
  have p3 : w4.cell? ⟨W1.heap.size, 3, none⟩ = some (.bool d) := (B24.out.cell 3).trans rfl
  have p4 : w4.cell? ⟨W1.heap.size, 4, none⟩ = some (.slice a n c) := (B24.out.cell 4).trans rfl
  go_wp2_with fail
  refine hrec.out.mono ?_
  rintro e w5 ⟨hR, hb5⟩
  unfold RecB at hR
  rw [if_neg hb] at hR
  subst hR
  unfold rV nilV
  have kb5 := Lib.hid (kb4.out.trans (hb5.mono kb4.out.size))
  have hl5 : Hid (w4.heap.size ≤ w5.heap.size) := Lib.hid hb5.size
  have B15 := Lib.hid (B14.out.below hb5 B14.out.lt)
  have B25 := Lib.hid (B24.out.below hb5 B24.out.lt)
  have B35 := Lib.hid (B34.out.below hb5 B34.out.lt)
  clear hb5 hrec B14 B24 B34 kb4 p0 p1 p2 p3 p4
  obtain ⟨W6, hW6⟩ : ∃ W, w5.alloc (.cells #[.slice none 0 0, .int .u16 0, .int .u16 0, .int .u32 0, .slice none 0 0, .slice none 0 0, .slice none 0 0, .slice none 0 0] 37) = W := ⟨_, rfl⟩
  have B6 : Hid (Blk W6 w5.heap.size 37 (0, 0) [.slice none 0 0, .int .u16 0, .int .u16 0, .int .u32 0, .slice none 0 0, .slice none 0 0, .slice none 0 0, .slice none 0 0]) := Lib.hid (by rw [← hW6]; exact Blk.new w5 37 (0, 0) #[.slice none 0 0, .int .u16 0, .int .u16 0, .int .u32 0, .slice none 0 0, .slice none 0 0, .slice none 0 0, .slice none 0 0])
  have k6 : Hid (Below w5.heap.size w5 W6) := Lib.hid (by rw [← hW6]; exact alloc_bel _ _)
  go_upto_region 4 with (refine store_whole rfl 37 (.tmp 6) (.tmp 16) rfl rfl rfl B6.out (by rfl) (by kernel_rfl) (by kernel_rfl) ?_; intro w7 hBx hgx hzx; have R7 := Lib.hid hBx; have g7 := Lib.hid hgx; clear hBx hgx hzx)
  try rw [hW6]
  clear hW6
  have k7 := Lib.hid (fresh_store k6.out g7.out)
  have kb7 := Lib.hid (kb5.out.trans (k7.out.mono kb5.out.size))
  have B37 := Lib.hid (B35.out.below k7.out B35.out.lt)
  go_wp2_with (refine store_whole rfl 60 (.tmp 4) (.tmp 20) rfl rfl rfl B37.out (by rfl) (by kernel_rfl) (by kernel_rfl) ?_; intro w8 hBx hgx hzx; have R8 := Lib.hid hBx; have g8 := Lib.hid hgx; clear hBx hgx hzx)
  refine bodyPost_ret (results_ct rfl _ rfl R8.out Try.underlying60 rfl (by kernel_rfl)) rfl ?_
  exact ⟨rfl, kb7.out.grown g8.out kb7.out.size (fun k hk => by have e2 := Option.some.inj hk; have := hl1.out; have := hl2.out; omega)⟩
set_option maxHeartbeats 8000000 in
set_option maxRecDepth 100000 in
theorem with_good {w : World} {qa : Option Addr} {qn qc : Nat} {QS : List QD} {NS : List Nm} {an : Option Addr} {nn1 nc1 : Nat} {Q1 : List RD} {L1 : List RL} {au : Option Addr} {nn2 nc2 : Nat} {Q2 : List RD} {L2 : List RL} {ad3 : Option Addr} {nn3 nc3 : Nat} {Q3 : List RD} {L3 : List RL} (h : RdM w qa qn qc QS NS an nn1 nc1 Q1 L1 au nn2 nc2 Q2 L2 ad3 nn3 nc3 Q3 L3)(m0 m1 m2 m3 m4 m5 m6 m7 m8 m9 : Value) (ho : [m0, m1, m2, m3, m4, m5, m6, m7, m8, m9].all (·.oneCell') = true) (hno : idxF Q3 0 < 0) {a : Option Addr} {n c : Nat} {O : List Opt} (hO : RdO w a n c O) (hs : ∀ o ∈ O, o.2.length ≤ 65540) (hC : ∀ o ∈ O, o.1 < 65536) (sz hi ver : Int) (d : Bool) (hb : mayB sz hi ver = true ∧ (rawB O).length ≤ 65535) :
    Calls Try.prog 22 #[.agg #[m0, m1, m2, m3, m4, m5, m6, m7, m8, m9, .slice qa qn qc, .slice an nn1 nc1, .slice au nn2 nc2, .slice ad3 nn3 nc3], .agg #[.int .i64 sz, .int .i64 hi, .int .i64 ver, .bool d, .slice a n c]] w fun e w' => (∃ vq v1 v2 v3, e = .returned (.tuple #[.agg #[m0, m1, m2, m3, m4, m5, m6, m7, m8, m9, vq, v1, v2, v3], .int .i64 0]) ∧ OwnM w' w.heap.size vq v1 v2 v3 QS NS Q1 L1 Q2 L2 (Q3 ++ [optRD sz.toNat (ttlN hi.toNat ver.toNat d) (rawB O).length]) (L3 ++ [optRL (rawB O)])) ∧ Below w.heap.size w w' := by
  obtain ⟨W1, hW1⟩ : ∃ W, w.alloc (.cells #[m0, m1, m2, m3, m4, m5, m6, m7, m8, m9, .slice qa qn qc, .slice an nn1 nc1, .slice au nn2 nc2, .slice ad3 nn3 nc3] 60) = W := ⟨_, rfl⟩
  have B1 : Hid (Blk W1 w.heap.size 60 (0, 0) [m0, m1, m2, m3, m4, m5, m6, m7, m8, m9, .slice qa qn qc, .slice an nn1 nc1, .slice au nn2 nc2, .slice ad3 nn3 nc3]) := Lib.hid (by rw [← hW1]; exact Blk.new w 60 (0, 0) #[m0, m1, m2, m3, m4, m5, m6, m7, m8, m9, .slice qa qn qc, .slice an nn1 nc1, .slice au nn2 nc2, .slice ad3 nn3 nc3])
  have k1 : Hid (Below w.heap.size w W1) := Lib.hid (by rw [← hW1]; exact alloc_bel _ _)
  obtain ⟨W2, hW2⟩ : ∃ W, W1.alloc (.cells #[.int .i64 sz, .int .i64 hi, .int .i64 ver, .bool d, .slice a n c] 24) = W := ⟨_, rfl⟩
  have B2 : Hid (Blk W2 W1.heap.size 24 (0, 0) [.int .i64 sz, .int .i64 hi, .int .i64 ver, .bool d, .slice a n c]) := Lib.hid (by rw [← hW2]; exact Blk.new W1 24 (0, 0) #[.int .i64 sz, .int .i64 hi, .int .i64 ver, .bool d, .slice a n c])
  have k2 : Hid (Below W1.heap.size W1 W2) := Lib.hid (by rw [← hW2]; exact alloc_bel _ _)
  obtain ⟨W3, hW3⟩ : ∃ W, W2.alloc (.cells #[.int .u16 0, .bool false, .int .i64 0, .bool false, .bool false, .bool false, .bool false, .bool false, .bool false, .int .i64 0, .slice none 0 0, .slice none 0 0, .slice none 0 0, .slice none 0 0] 60) = W := ⟨_, rfl⟩
  have B3 : Hid (Blk W3 W2.heap.size 60 (0, 0) [.int .u16 0, .bool false, .int .i64 0, .bool false, .bool false, .bool false, .bool false, .bool false, .bool false, .int .i64 0, .slice none 0 0, .slice none 0 0, .slice none 0 0, .slice none 0 0]) := Lib.hid (by rw [← hW3]; exact Blk.new W2 60 (0, 0) #[.int .u16 0, .bool false, .int .i64 0, .bool false, .bool false, .bool false, .bool false, .bool false, .bool false, .int .i64 0, .slice none 0 0, .slice none 0 0, .slice none 0 0, .slice none 0 0])
  have k3 : Hid (Below W2.heap.size W2 W3) := Lib.hid (by rw [← hW3]; exact alloc_bel _ _)
  have hl1 : Hid (w.heap.size < W1.heap.size) := Lib.hid B1.out.lt
  have hl2 : Hid (W1.heap.size < W2.heap.size) := Lib.hid B2.out.lt
  have hl3 : Hid (W2.heap.size < W3.heap.size) := Lib.hid B3.out.lt
  have kb2 := Lib.hid (k1.out.trans (k2.out.mono k1.out.size))
  have kb3 := Lib.hid (kb2.out.trans (k3.out.mono kb2.out.size))
  have B13 := Lib.hid ((B1.out.below k2.out B1.out.lt).below k3.out (by have := hl1.out; have := hl2.out; omega))
  have B23 := Lib.hid (B2.out.below k3.out B2.out.lt)
  have hn : nn3 ≤ 1152921504606846976 := by have := h.a3.2.2.1; unfold reachBytes at this; omega
  have hcon := Lib.hid (con_any (h.a3.1.ext kb3.out) hn)
  rw [decide_eq_false (by omega)] at hcon
  have hH := Lib.hid h
  have hE := Lib.hid hO
  have hs' := Lib.hid hs
  have hC' := Lib.hid hC
  have ho' := Lib.hid ho
  clear h hno hO hs hC ho
  have p13 : W3.cell? ⟨w.heap.size, 13, none⟩ = some (.slice ad3 nn3 nc3) := (B13.out.cell 13).trans rfl
  go_enter Try.func22, Try.ntmps22
  go_wp2_with fail
  try rw [hW1]
  try rw [hW2]
  try rw [hW3]
  clear hW1 hW2 hW3
  refine hcon.out.mono ?_
  rintro e w4 ⟨rfl, hb4⟩
  have kb4 := Lib.hid (kb3.out.trans (hb4.mono kb3.out.size))
  have hl4 : Hid (W3.heap.size ≤ w4.heap.size) := Lib.hid hb4.size
  have B14 := Lib.hid (B13.out.below hb4 B13.out.lt)
  have B24 := Lib.hid (B23.out.below hb4 B23.out.lt)
  have B34 := Lib.hid (B3.out.below hb4 B3.out.lt)
  clear hb4 hcon B13 B23 p13 k1 k2 k3 B1 B2 B3 kb2 kb3
  have hrec : Hid (Calls Try.prog 11 #[.agg #[.int .i64 sz, .int .i64 hi, .int .i64 ver, .bool d, .slice a n c]] w4 fun e w' => RecB w4.heap.size sz hi ver d O e w' ∧ Below w4.heap.size w4 w') := Lib.hid (rec_any (hE.out.ext kb4.out) hs'.out hC'.out sz hi ver d)
  have p0 : w4.cell? ⟨W1.heap.size, 0, none⟩ = some (.int .i64 sz) := (B24.out.cell 0).trans rfl
  have p1 : w4.cell? ⟨W1.heap.size, 1, none⟩ = some (.int .i64 hi) := (B24.out.cell 1).trans rfl
  have p2 : w4.cell? ⟨W1.heap.size, 2, none⟩ = some (.int .i64 ver) := (B24.out.cell 2).trans rfl
  have p3 : w4.cell? ⟨W1.heap.size, 3, none⟩ = some (.bool d) := (B24.out.cell 3).trans rfl
  have p4 : w4.cell? ⟨W1.heap.size, 4, none⟩ = some (.slice a n c) := (B24.out.cell 4).trans rfl
  go_wp2_with fail
  refine hrec.out.mono ?_
  rintro e w5 ⟨hR, hb5⟩
  unfold RecB at hR
  rw [if_pos hb] at hR
  obtain ⟨v, rfl, hraw⟩ := hR
  obtain ⟨ra, rc, rfl⟩ := hraw.shape
  have hraw5 := Lib.hid hraw
  have ht4 : Hid (ttlN hi.toNat ver.toNat d < 4294967296) := Lib.hid (by obtain ⟨m1, m2, m3, m4, m5, m6⟩ := mayB_iff hb.1; exact (ttl_of hi.toNat ver.toNat d (by omega) (by omega)).1)
  have hsz4 : Hid (sz.toNat < 65536) := Lib.hid (by obtain ⟨m1, m2, m3, m4, m5, m6⟩ := mayB_iff hb.1; omega)
  clear hraw hb
  unfold rV nilV
  generalize erl : (rawB O).length = rl at *
  generalize ett : ttlN hi.toNat ver.toNat d = tt at *
  generalize esN : sz.toNat = sN at *
  have erl := Lib.hid erl
  have ett := Lib.hid ett
  have esN := Lib.hid esN
  have kb5 := Lib.hid (kb4.out.trans (hb5.mono kb4.out.size))
  have hl5 : Hid (w4.heap.size ≤ w5.heap.size) := Lib.hid hb5.size
  have B15 := Lib.hid (B14.out.below hb5 B14.out.lt)
  have B25 := Lib.hid (B24.out.below hb5 B24.out.lt)
  have B35 := Lib.hid (B34.out.below hb5 B34.out.lt)
  clear hb5 hrec B14 B24 B34 kb4 p0 p1 p2 p3 p4
  obtain ⟨W6, hW6⟩ : ∃ W, w5.alloc (.cells #[.slice none 0 0, .int .u16 0, .int .u16 0, .int .u32 0, .slice none 0 0, .slice none 0 0, .slice none 0 0, .slice none 0 0] 37) = W := ⟨_, rfl⟩
  have B6 : Hid (Blk W6 w5.heap.size 37 (0, 0) [.slice none 0 0, .int .u16 0, .int .u16 0, .int .u32 0, .slice none 0 0, .slice none 0 0, .slice none 0 0, .slice none 0 0]) := Lib.hid (by rw [← hW6]; exact Blk.new w5 37 (0, 0) #[.slice none 0 0, .int .u16 0, .int .u16 0, .int .u32 0, .slice none 0 0, .slice none 0 0, .slice none 0 0, .slice none 0 0])
  have k6 : Hid (Below w5.heap.size w5 W6) := Lib.hid (by rw [← hW6]; exact alloc_bel _ _)
  go_upto_region 4 with (refine store_whole rfl 37 (.tmp 6) (.tmp 16) rfl rfl rfl B6.out (by rfl) (by kernel_rfl) (by kernel_rfl) ?_; intro w7 hBx hgx hzx; have R7 := Lib.hid hBx; have g7 := Lib.hid hgx; clear hBx hgx hzx)
  try rw [hW6]
  clear hW6
  have k7 := Lib.hid (fresh_store k6.out g7.out)
  have kb7 := Lib.hid (kb5.out.trans (k7.out.mono kb5.out.size))
  have B37 := Lib.hid (B35.out.below k7.out B35.out.lt)
  have B17 := Lib.hid (B15.out.below k7.out B15.out.lt)
  have hraw7 := Lib.hid (hraw5.out.ext k7.out)
  clear k6 B6 g7 B35 B15 B25 hraw5 k7
  have hl7 : Hid (w5.heap.size < w7.heap.size) := Lib.hid R7.out.lt
  have hM := hH.out.ext kb7.out
  have hcop := Lib.hid (copied_any hM.q hM.a1 hM.a2 hM.a3 m0 m1 m2 m3 m4 m5 m6 m7 m8 m9 ho'.out)
  clear hM
  have p0 : w7.cell? ⟨w.heap.size, 0, none⟩ = some (m0) := (B17.out.cell 0).trans rfl
  have p1 : w7.cell? ⟨w.heap.size, 1, none⟩ = some (m1) := (B17.out.cell 1).trans rfl
  have p2 : w7.cell? ⟨w.heap.size, 2, none⟩ = some (m2) := (B17.out.cell 2).trans rfl
  have p3 : w7.cell? ⟨w.heap.size, 3, none⟩ = some (m3) := (B17.out.cell 3).trans rfl
  have p4 : w7.cell? ⟨w.heap.size, 4, none⟩ = some (m4) := (B17.out.cell 4).trans rfl
  have p5 : w7.cell? ⟨w.heap.size, 5, none⟩ = some (m5) := (B17.out.cell 5).trans rfl
  have p6 : w7.cell? ⟨w.heap.size, 6, none⟩ = some (m6) := (B17.out.cell 6).trans rfl
  have p7 : w7.cell? ⟨w.heap.size, 7, none⟩ = some (m7) := (B17.out.cell 7).trans rfl
  have p8 : w7.cell? ⟨w.heap.size, 8, none⟩ = some (m8) := (B17.out.cell 8).trans rfl
  have p9 : w7.cell? ⟨w.heap.size, 9, none⟩ = some (m9) := (B17.out.cell 9).trans rfl
  have p10 : w7.cell? ⟨w.heap.size, 10, none⟩ = some (.slice qa qn qc) := (B17.out.cell 10).trans rfl
  have p11 : w7.cell? ⟨w.heap.size, 11, none⟩ = some (.slice an nn1 nc1) := (B17.out.cell 11).trans rfl
  have p12 : w7.cell? ⟨w.heap.size, 12, none⟩ = some (.slice au nn2 nc2) := (B17.out.cell 12).trans rfl
  have p13 : w7.cell? ⟨w.heap.size, 13, none⟩ = some (.slice ad3 nn3 nc3) := (B17.out.cell 13).trans rfl
  go_wp2_with fail
  refine hcop.out.mono ?_
  rintro e w8 ⟨⟨vq, v1, v2, v3, rfl, oq, o1, o2, o3, a12, a13, a23⟩, hb8⟩
  have kb8 := Lib.hid (kb7.out.trans (hb8.mono kb7.out.size))
  have B38 := Lib.hid (B37.out.below hb8 B37.out.lt)
  have R78 := Lib.hid (R7.out.below hb8 R7.out.lt)
  have hraw8 := Lib.hid (hraw7.out.ext hb8)
  have hl8 : Hid (w7.heap.size ≤ w8.heap.size) := Lib.hid hb8.size
  obtain ⟨bq, cq, rfl⟩ := oq.shape
  obtain ⟨b1, c1, rfl⟩ := o1.shape
  obtain ⟨b2, c2, rfl⟩ := o2.shape
  obtain ⟨b3, c3, rfl⟩ := o3.shape
  have hap := Lib.hid (And.intro a13 a23)
  have hle47 : w4.heap.size ≤ w7.heap.size := by have := hl5.out; have := hl7.out; omega
  have om8 := Lib.hid (OwnM.mono ⟨oq, o1, o2, o3⟩ hle47)
  clear oq o1 o2 o3 a12 a13 a23 hb8 hcop B37 R7 hraw7 kb7 B17 hle47 p0 p1 p2 p3 p4 p5 p6 p7 p8 p9 p10 p11 p12 p13
  obtain ⟨W9, hW9⟩ : ∃ W, w8.alloc (.cells #[.int .u16 0, .bool false, .int .i64 0, .bool false, .bool false, .bool false, .bool false, .bool false, .bool false, .int .i64 0, .slice none 0 0, .slice none 0 0, .slice none 0 0, .slice none 0 0] 60) = W := ⟨_, rfl⟩
  have B9 : Hid (Blk W9 w8.heap.size 60 (0, 0) [.int .u16 0, .bool false, .int .i64 0, .bool false, .bool false, .bool false, .bool false, .bool false, .bool false, .int .i64 0, .slice none 0 0, .slice none 0 0, .slice none 0 0, .slice none 0 0]) := Lib.hid (by rw [← hW9]; exact Blk.new w8 60 (0, 0) #[.int .u16 0, .bool false, .int .i64 0, .bool false, .bool false, .bool false, .bool false, .bool false, .bool false, .int .i64 0, .slice none 0 0, .slice none 0 0, .slice none 0 0, .slice none 0 0])
  have k9 : Hid (Below w8.heap.size w8 W9) := Lib.hid (by rw [← hW9]; exact alloc_bel _ _)
  have hoC : Hid (#[m0, m1, m2, m3, m4, m5, m6, m7, m8, m9, .slice bq QS.length cq, .slice b1 Q1.length c1, .slice b2 Q2.length c2, .slice b3 Q3.length c3].all (·.oneCell') = true) := Lib.hid (by
    have := ho'.out
    simp only [List.all_toArray, List.all_cons, List.all_nil, Bool.and_true] at this ⊢
    simpa [oneS] using this)
  go_upto_region 7 with (refine store_whole rfl 60 (.tmp 8) (.tmp 23) rfl rfl rfl B9.out (by rfl) (by kernel_rfl) hoC.out ?_; intro wA hBx hgx hzx; have RA := Lib.hid hBx; have gA := Lib.hid hgx; clear hBx hgx hzx)
  try rw [hW9]
  clear hW9
  have kA := Lib.hid (fresh_store k9.out gA.out)
  have kbA := Lib.hid (kb8.out.trans (kA.out.mono kb8.out.size))
  have B3A := Lib.hid (B38.out.below kA.out B38.out.lt)
  have R7A := Lib.hid (R78.out.below kA.out R78.out.lt)
  have hrawA := Lib.hid (hraw8.out.ext kA.out)
  have omA := Lib.hid (om8.out.ext kA.out)
  have hlA : Hid (w8.heap.size < wA.heap.size) := Lib.hid RA.out.lt
  clear k9 B9 gA B38 R78 hraw8 om8 kA kb8 hoC
  have p13 : wA.cell? ⟨w8.heap.size, 13, none⟩ = some (.slice b3 Q3.length c3) := (RA.out.cell 13).trans rfl
  have q0 : wA.cell? ⟨w5.heap.size, 0, none⟩ = some (.slice none 0 0) := (R7A.out.cell 0).trans rfl
  have q1 : wA.cell? ⟨w5.heap.size, 1, none⟩ = some (.int .u16 41) := (R7A.out.cell 1).trans rfl
  have q2 : wA.cell? ⟨w5.heap.size, 2, none⟩ = some (.int .u16 sN) := (R7A.out.cell 2).trans rfl
  have q3 : wA.cell? ⟨w5.heap.size, 3, none⟩ = some (.int .u32 tt) := (R7A.out.cell 3).trans rfl
  have q4 : wA.cell? ⟨w5.heap.size, 4, none⟩ = some (.slice none 0 0) := (R7A.out.cell 4).trans rfl
  have q5 : wA.cell? ⟨w5.heap.size, 5, none⟩ = some (.slice none 0 0) := (R7A.out.cell 5).trans rfl
  have q6 : wA.cell? ⟨w5.heap.size, 6, none⟩ = some (.slice none 0 0) := (R7A.out.cell 6).trans rfl
  have q7 : wA.cell? ⟨w5.heap.size, 7, none⟩ = some (.slice ra rl rc) := (R7A.out.cell 7).trans rfl
  obtain ⟨V1, hV1⟩ : ∃ V, wA.alloc (.cells #[.slice none 0 0, .int .u16 41, .int .u16 sN, .int .u32 tt, .slice none 0 0, .slice none 0 0, .slice none 0 0, .slice ra rl rc] 37) = V := ⟨_, rfl⟩
  have hkV : Hid (Below wA.heap.size wA V1) := Lib.hid (by rw [← hV1]; exact alloc_bel _ _)
  have hBV : Hid (Blk V1 wA.heap.size 37 (0, 0) [.slice none 0 0, .int .u16 41, .int .u16 sN, .int .u32 tt, .slice none 0 0, .slice none 0 0, .slice none 0 0, .slice ra rl rc]) := Lib.hid (by rw [← hV1]; exact Blk.new wA 37 (0, 0) #[.slice none 0 0, .int .u16 41, .int .u16 sN, .int .u32 tt, .slice none 0 0, .slice none 0 0, .slice none 0 0, .slice ra rl rc])
  have hsrc : Src Try.prog recE.k 55 (.slice (some ⟨wA.heap.size, 0, none⟩) 1 1) 1 (rowOf recE [(⟨none, 0, 0, 41, sN, tt, none, 0, 0, none, 0, 0, none, 0, 0, ra, rl, rc⟩ : RD)]) V1 := (rd_blk (E := recE) (X := [(⟨none, 0, 0, 41, sN, tt, none, 0, 0, none, 0, 0, none, 0, 0, ra, rl, rc⟩ : RD)]) (fz := (0, 0)) hBV.out 1 rfl (by decide)).src (P := Try.prog) (tx := 55) Try.underlying55
  obtain ⟨i7, hi7, hq0, hq1, hq2⟩ := info_parts Try.info37
  obtain ⟨qs, p1, p2, p3⟩ := omA.out.a3
  have hp1 := Lib.hid p1
  have hp2 := Lib.hid p2
  have hp3 := Lib.hid p3
  have hq3 : Q3.length * 128 ≤ 140737488355200 := by have := hH.out.a3.2.2.1; have := hH.out.a3.1.len; unfold reachBytes at *; omega
  have hq3' := Lib.hid hq3
  have hql : qs.length = Q3.length := p2
  have hsz1 : Hid (w4.heap.size ≤ V1.heap.size) := Lib.hid (by have := hkV.out.size; have := hl5.out; have := hl7.out; have := hl8.out; have := hlA.out; omega)
  clear p1 p2 p3
  go_wp2_with (at_builtin; refine app_own (E := recE) (l := qs) (news := [(⟨none, 0, 0, 41, sN, tt, none, 0, 0, none, 0, 0, none, 0, 0, ra, rl, rc⟩ : RD)]) (base := w4.heap.size) rfl (.tmp 25) (.tmp 27) 55 55 rfl Try.underlying55 hi7 hq0 hq1 hq2 rfl rfl (hp1.out.ext hkV.out) rfl hsrc (by simp [maxLen]; omega) (by simp; omega) hsz1.out ?_)
  intro v9 w9 ho9 hg9 _
  have hx1 := Lib.hid (hp1.out.ext hkV.out)
  have hown9 := OwnRs.app (QS := Q3) (LS := L3) (hp1.out.ext hkV.out) hp2.out hH.out.a3.2.1.symm (fun jj q q0 LL h1 h2 h3 => ⟨(hp3.out jj q q0 LL h1 h2 h3).1.ext hkV.out, (hp3.out jj q q0 LL h1 h2 h3).2⟩) (q := (⟨none, 0, 0, 41, sN, tt, none, 0, 0, none, 0, 0, none, 0, 0, ra, rl, rc⟩ : RD)) (q0 := optRD sN tt rl) (L := optRL (rawB O)) ⟨⟨Own.nil _ _ _, OwnN.nil _ _, Own.nil _ _ _, Own.nil _ _ _, hrawA.out.ext hkV.out⟩, rfl, rfl, rfl⟩ ho9 hg9
  have omV := Lib.hid (omA.out.ext hkV.out)
  have y1 := Lib.hid (ownRs_grown omV.out.a1 hx1.out hap.out.1 hg9)
  have y2 := Lib.hid (ownRs_grown omV.out.a2 hx1.out hap.out.2 hg9)
  have yq := Lib.hid (ownQs_grownR omV.out.q hx1.out hg9)
  have R9 := Lib.hid (blk_own (RA.out.below hkV.out RA.out.lt) hx1.out (by decide) hg9)
  have B39 := Lib.hid (blk_own (B3A.out.below hkV.out B3A.out.lt) hx1.out (by decide) hg9)
  have hws : Hid (w.heap.size ≤ w4.heap.size) := Lib.hid (by have := hl1.out; have := hl2.out; have := hl3.out; have := hl4.out; omega)
  have kbV := Lib.hid (kbA.out.trans (hkV.out.mono kbA.out.size))
  have kb9 := Lib.hid (own_below kbV.out hg9 hx1.out kbV.out.size hws.out)
  obtain ⟨b9, c9, rfl⟩ := hown9.shape
  have y3 := Lib.hid hown9
  clear hown9 ho9 hg9 hV1 hkV hBV hsrc hx1 omV omA hp1 hp3 RA B3A R7A hrawA kbV kbA p13 q0 q1 q2 q3 q4 q5 q6 q7
  generalize (Q3 ++ [optRD sN tt rl]).length = n9 at *
  have p13 : w9.cell? ⟨w8.heap.size, 13, none⟩ = some (.slice b3 Q3.length c3) := (R9.out.cell 13).trans rfl
  have f13 : w9.frozen? ⟨w8.heap.size, 13, none⟩ = false := by rw [R9.out.frozen]; try simp
  go_upto_region 8 with (fail)
  obtain ⟨wB, hV⟩ : ∃ V, w9.setCell ⟨w8.heap.size, 13, none⟩ (.slice b9 n9 c9) = V := ⟨_, rfl⟩
  try rw [hV]
  have hgV : w9.grownBy wB (some w8.heap.size) := by rw [← hV]; exact grown_set _ _ _ _
  have RB : Hid (Blk wB w8.heap.size 60 (0, 0) [m0, m1, m2, m3, m4, m5, m6, m7, m8, m9, .slice bq QS.length cq, .slice b1 Q1.length c1, .slice b2 Q2.length c2, .slice b9 n9 c9]) := Lib.hid (by rw [← hV]; exact R9.out.set 13 _)
  have hm : Hid (OwnM wB w4.heap.size (.slice bq QS.length cq) (.slice b1 Q1.length c1) (.slice b2 Q2.length c2) (.slice b9 n9 c9) QS NS Q1 L1 Q2 L2 (Q3 ++ [optRD sN tt rl]) (L3 ++ [optRL (rawB O)])) := Lib.hid (OwnM.store ⟨yq.out, y1.out, y2.out, y3.out⟩ R9.out hgV)
  have B3B := Lib.hid (B39.out.grownV2 hgV (fun e => by have e2 := Option.some.inj e; have := hl3.out; have := hl4.out; have := hl5.out; have := hl7.out; have := hl8.out; omega))
  have kbB := Lib.hid (kb9.out.grown hgV kb9.out.size (fun k hk => by have e2 := Option.some.inj hk; have := hws.out; have := hl5.out; have := hl7.out; have := hl8.out; omega))
  clear hV hgV f13 p13 R9 yq y1 y2 y3 B39 kb9
  have p0 : wB.cell? ⟨w8.heap.size, 0, none⟩ = some (m0) := (RB.out.cell 0).trans rfl
  have p1 : wB.cell? ⟨w8.heap.size, 1, none⟩ = some (m1) := (RB.out.cell 1).trans rfl
  have p2 : wB.cell? ⟨w8.heap.size, 2, none⟩ = some (m2) := (RB.out.cell 2).trans rfl
  have p3 : wB.cell? ⟨w8.heap.size, 3, none⟩ = some (m3) := (RB.out.cell 3).trans rfl
  have p4 : wB.cell? ⟨w8.heap.size, 4, none⟩ = some (m4) := (RB.out.cell 4).trans rfl
  have p5 : wB.cell? ⟨w8.heap.size, 5, none⟩ = some (m5) := (RB.out.cell 5).trans rfl
  have p6 : wB.cell? ⟨w8.heap.size, 6, none⟩ = some (m6) := (RB.out.cell 6).trans rfl
  have p7 : wB.cell? ⟨w8.heap.size, 7, none⟩ = some (m7) := (RB.out.cell 7).trans rfl
  have p8 : wB.cell? ⟨w8.heap.size, 8, none⟩ = some (m8) := (RB.out.cell 8).trans rfl
  have p9 : wB.cell? ⟨w8.heap.size, 9, none⟩ = some (m9) := (RB.out.cell 9).trans rfl
  have p10 : wB.cell? ⟨w8.heap.size, 10, none⟩ = some (.slice bq QS.length cq) := (RB.out.cell 10).trans rfl
  have p11 : wB.cell? ⟨w8.heap.size, 11, none⟩ = some (.slice b1 Q1.length c1) := (RB.out.cell 11).trans rfl
  have p12 : wB.cell? ⟨w8.heap.size, 12, none⟩ = some (.slice b2 Q2.length c2) := (RB.out.cell 12).trans rfl
  have p13 : wB.cell? ⟨w8.heap.size, 13, none⟩ = some (.slice b9 n9 c9) := (RB.out.cell 13).trans rfl
  have hoD : Hid (#[m0, m1, m2, m3, m4, m5, m6, m7, m8, m9, .slice bq QS.length cq, .slice b1 Q1.length c1, .slice b2 Q2.length c2, .slice b9 n9 c9].all (·.oneCell') = true) := Lib.hid (by
    have := ho'.out
    simp only [List.all_toArray, List.all_cons, List.all_nil, Bool.and_true] at this ⊢
    simpa [oneS] using this)
  go_wp2_with (refine store_whole rfl 60 (.tmp 4) (.tmp 30) rfl rfl rfl B3B.out (by rfl) (by kernel_rfl) hoD.out ?_; intro wC hBx hgx hzx; have RC := Lib.hid hBx; have gC := Lib.hid hgx; clear hBx hgx hzx)
  refine bodyPost_ret (results_ct rfl _ rfl RC.out Try.underlying60 rfl (by kernel_rfl)) rfl ?_
  have hmC := (hm.out.store B3B.out gC.out).mono hws.out

  refine ⟨⟨_, _, _, _, rfl, hmC⟩, kbB.out.grown gC.out kbB.out.size (fun k hk => by have e2 := Option.some.inj hk; have := hl1.out; have := hl2.out; omega)⟩
end Go.Proofs.Ythgnlbdolilklaa
