/- EdnsMessages: function 6, one of three ways; printed by gen_em.py G. -/
import Derived.Test.YthgnlbdolilklaaJn8
namespace Go.Proofs.Ythgnlbdolilklaa
open Go Go.RowKit
set_option maxHeartbeats 16000000 in
set_option maxRecDepth 100000 in
theorem messages_G {w : World} {qa : Option Addr} {qn qc : Nat} {QS : List QD} {NS : List Nm} {an : Option Addr} {nn1 nc1 : Nat} {Q1 : List RD} {L1 : List RL} {au : Option Addr} {nn2 nc2 : Nat} {Q2 : List RD} {L2 : List RL} {ad3 : Option Addr} {nn3 nc3 : Nat} {Q3 : List RD} {L3 : List RL} (h : RdM w qa qn qc QS NS an nn1 nc1 Q1 L1 au nn2 nc2 Q2 L2 ad3 nn3 nc3 Q3 L3) (z : nn1 + nn2 + nn3 ≤ 4000000) (id : Int) (rs : Bool) (op : Int) (aa tc rd ra ad cd : Bool) (rc : Int) {a : Option Addr} {n c : Nat} {O : List Opt} (hO : RdO w a n c O) (hC : ∀ o ∈ O, o.1 < 65536) (sz hi ver : Int) (d : Bool) (own : Int) (hv : idxF Q3 0 < 0 ∧ (mayB sz hi ver = true ∧ (rawB O).length ≤ 65535)) :
 Calls Try.prog 6 #[.agg #[.int .u16 id, .bool rs, .int .i64 op, .bool aa, .bool tc, .bool rd, .bool ra, .bool ad, .bool cd, .int .i64 rc, .slice qa qn qc, .slice an nn1 nc1, .slice au nn2 nc2, .slice ad3 nn3 nc3], .agg #[.int .i64 sz, .int .i64 hi, .int .i64 ver, .bool d, .slice a n c], .int .i64 own] w fun e w' => e = .returned (.bool true) ∧ Below w.heap.size w w' := by
 obtain ⟨W1, hW1⟩ : ∃ W, w.alloc (.cells #[.int .u16 id, .bool rs, .int .i64 op, .bool aa, .bool tc, .bool rd, .bool ra, .bool ad, .bool cd, .int .i64 rc, .slice qa qn qc, .slice an nn1 nc1, .slice au nn2 nc2, .slice ad3 nn3 nc3] 60) = W := ⟨_, rfl⟩
 have B1 : Hid (Blk W1 w.heap.size 60 (0, 0) [.int .u16 id, .bool rs, .int .i64 op, .bool aa, .bool tc, .bool rd, .bool ra, .bool ad, .bool cd, .int .i64 rc, .slice qa qn qc, .slice an nn1 nc1, .slice au nn2 nc2, .slice ad3 nn3 nc3]) := Lib.hid (by rw [← hW1]; exact Blk.new w 60 (0, 0) #[.int .u16 id, .bool rs, .int .i64 op, .bool aa, .bool tc, .bool rd, .bool ra, .bool ad, .bool cd, .int .i64 rc, .slice qa qn qc, .slice an nn1 nc1, .slice au nn2 nc2, .slice ad3 nn3 nc3])
 have k1 : Hid (Below w.heap.size w W1) := Lib.hid (by rw [← hW1]; exact alloc_bel _ _)
 obtain ⟨W2, hW2⟩ : ∃ W, W1.alloc (.cells #[.int .i64 sz, .int .i64 hi, .int .i64 ver, .bool d, .slice a n c] 24) = W := ⟨_, rfl⟩
 have B2 : Hid (Blk W2 W1.heap.size 24 (0, 0) [.int .i64 sz, .int .i64 hi, .int .i64 ver, .bool d, .slice a n c]) := Lib.hid (by rw [← hW2]; exact Blk.new W1 24 (0, 0) #[.int .i64 sz, .int .i64 hi, .int .i64 ver, .bool d, .slice a n c])
 have k2 : Hid (Below W1.heap.size W1 W2) := Lib.hid (by rw [← hW2]; exact alloc_bel _ _)
 have hl1 : Hid (w.heap.size < W1.heap.size) := Lib.hid B1.out.lt
 have kb := Lib.hid (k1.out.trans (k2.out.mono k1.out.size))
 have BM := Lib.hid (B1.out.below k2.out B1.out.lt)
 have hM := Lib.hid (h.ext kb.out)
 have hE := Lib.hid (hO.ext kb.out)
 have hC' := Lib.hid hC
 have fit := Lib.hid (And.intro h.q.fit (And.intro h.a1.fit (And.intro h.a2.fit h.a3.fit)))
 have z1 := Lib.hid z
 have z2 : Hid (qn = QS.length ∧ nn1 = Q1.length ∧ nn2 = Q2.length ∧ nn3 = Q3.length) := Lib.hid ⟨h.q.1.len.symm, h.a1.1.len.symm, h.a2.1.len.symm, h.a3.1.len.symm⟩
 have hv1 := Lib.hid hv
 clear h hO hC z k1 k2 B1 hv
 go_enter Try.func6, Try.ntmps6
 go_upto_region 1 with (fail)
 try rw [hW1]
 try rw [hW2]
 clear hW1 hW2
 have p0 : W2.cell? ⟨w.heap.size, 0, none⟩ = some (.int .u16 id) := (BM.out.cell 0).trans rfl
 have p1 : W2.cell? ⟨w.heap.size, 1, none⟩ = some (.bool rs) := (BM.out.cell 1).trans rfl
 have p2 : W2.cell? ⟨w.heap.size, 2, none⟩ = some (.int .i64 op) := (BM.out.cell 2).trans rfl
 have p3 : W2.cell? ⟨w.heap.size, 3, none⟩ = some (.bool aa) := (BM.out.cell 3).trans rfl
 have p4 : W2.cell? ⟨w.heap.size, 4, none⟩ = some (.bool tc) := (BM.out.cell 4).trans rfl
 have p5 : W2.cell? ⟨w.heap.size, 5, none⟩ = some (.bool rd) := (BM.out.cell 5).trans rfl
 have p6 : W2.cell? ⟨w.heap.size, 6, none⟩ = some (.bool ra) := (BM.out.cell 6).trans rfl
 have p7 : W2.cell? ⟨w.heap.size, 7, none⟩ = some (.bool ad) := (BM.out.cell 7).trans rfl
 have p8 : W2.cell? ⟨w.heap.size, 8, none⟩ = some (.bool cd) := (BM.out.cell 8).trans rfl
 have p9 : W2.cell? ⟨w.heap.size, 9, none⟩ = some (.int .i64 rc) := (BM.out.cell 9).trans rfl
 have p10 : W2.cell? ⟨w.heap.size, 10, none⟩ = some (.slice qa qn qc) := (BM.out.cell 10).trans rfl
 have p11 : W2.cell? ⟨w.heap.size, 11, none⟩ = some (.slice an nn1 nc1) := (BM.out.cell 11).trans rfl
 have p12 : W2.cell? ⟨w.heap.size, 12, none⟩ = some (.slice au nn2 nc2) := (BM.out.cell 12).trans rfl
 have p13 : W2.cell? ⟨w.heap.size, 13, none⟩ = some (.slice ad3 nn3 nc3) := (BM.out.cell 13).trans rfl
 have hlg := Lib.hid (large_msg2 hM.out (by have := z1.out; omega) (.int .u16 id) (.bool rs) (.int .i64 op) (.bool aa) (.bool tc) (.bool rd) (.bool ra) (.bool ad) (.bool cd) (.int .i64 rc))
 go_wp2_with fail
 refine hlg.out.mono ?_
 rintro e w4 ⟨⟨b1, rfl, hN⟩, hb⟩
 clear p0 p1 p2 p3 p4 p5 p6 p7 p8 p9 p10 p11 p12 p13
 have K_1 := Lib.hid (kb.out.trans ((hb).mono kb.out.size))
 have BM_1 := Lib.hid (BM.out.below hb BM.out.lt)
 have BE_1 := Lib.hid (B2.out.below hb B2.out.lt)
 have M_1 := Lib.hid (hM.out.ext hb)
 have E_1 := Lib.hid (hE.out.ext hb)
 clear kb BM B2 hM hE
 clear hb hlg
 cases b1 with
 | true =>
  go_wp2_with fail
  go_ret
  exact ⟨rfl, K_1.out⟩
 | false =>
  have hN' := Lib.hid (hN rfl)
  clear hN
  have q0 : w4.cell? ⟨W1.heap.size, 0, none⟩ = some (.int .i64 sz) := (BE_1.out.cell 0).trans rfl
  have q1 : w4.cell? ⟨W1.heap.size, 1, none⟩ = some (.int .i64 hi) := (BE_1.out.cell 1).trans rfl
  have q2 : w4.cell? ⟨W1.heap.size, 2, none⟩ = some (.int .i64 ver) := (BE_1.out.cell 2).trans rfl
  have q3 : w4.cell? ⟨W1.heap.size, 3, none⟩ = some (.bool d) := (BE_1.out.cell 3).trans rfl
  have q4 : w4.cell? ⟨W1.heap.size, 4, none⟩ = some (.slice a n c) := (BE_1.out.cell 4).trans rfl
  have hle := Lib.hid (large_any E_1.out sz hi ver d)
  dsimp only [eV] at hle
  go_wp2_with fail
  refine hle.out.mono ?_
  rintro e w5 ⟨⟨b2, rfl, hs⟩, hb⟩
  clear q0 q1 q2 q3 q4
  have K_2 := Lib.hid (K_1.out.trans ((hb).mono K_1.out.size))
  have BM_2 := Lib.hid (BM_1.out.below hb BM_1.out.lt)
  have BE_2 := Lib.hid (BE_1.out.below hb BE_1.out.lt)
  have M_2 := Lib.hid (M_1.out.ext hb)
  have E_2 := Lib.hid (E_1.out.ext hb)
  clear K_1 BM_1 BE_1 M_1 E_1
  clear hb hle
  cases b2 with
  | true =>
   go_wp2_with fail
   go_ret
   exact ⟨rfl, K_2.out⟩
  | false =>
   have hs' := Lib.hid (hs rfl)
   clear hs
   go_upto_region 3 with (fail)
   have hPS : Hid (∀ U : World, Below w5.heap.size w5 U → U.cell? ⟨w.heap.size, 0, none⟩ = some (.int .u16 id) ∧ U.cell? ⟨w.heap.size, 1, none⟩ = some (.bool rs) ∧ U.cell? ⟨w.heap.size, 2, none⟩ = some (.int .i64 op) ∧ U.cell? ⟨w.heap.size, 3, none⟩ = some (.bool aa) ∧ U.cell? ⟨w.heap.size, 4, none⟩ = some (.bool tc) ∧ U.cell? ⟨w.heap.size, 5, none⟩ = some (.bool rd) ∧ U.cell? ⟨w.heap.size, 6, none⟩ = some (.bool ra) ∧ U.cell? ⟨w.heap.size, 7, none⟩ = some (.bool ad) ∧ U.cell? ⟨w.heap.size, 8, none⟩ = some (.bool cd) ∧ U.cell? ⟨w.heap.size, 9, none⟩ = some (.int .i64 rc) ∧ U.cell? ⟨w.heap.size, 10, none⟩ = some (.slice qa qn qc) ∧ U.cell? ⟨w.heap.size, 11, none⟩ = some (.slice an nn1 nc1) ∧ U.cell? ⟨w.heap.size, 12, none⟩ = some (.slice au nn2 nc2) ∧ U.cell? ⟨w.heap.size, 13, none⟩ = some (.slice ad3 nn3 nc3) ∧ U.cell? ⟨W1.heap.size, 0, none⟩ = some (.int .i64 sz) ∧ U.cell? ⟨W1.heap.size, 1, none⟩ = some (.int .i64 hi) ∧ U.cell? ⟨W1.heap.size, 2, none⟩ = some (.int .i64 ver) ∧ U.cell? ⟨W1.heap.size, 3, none⟩ = some (.bool d) ∧ U.cell? ⟨W1.heap.size, 4, none⟩ = some (.slice a n c)) := Lib.hid (fun U hU => ⟨((BM_2.out.below hU BM_2.out.lt).cell 0).trans rfl, ((BM_2.out.below hU BM_2.out.lt).cell 1).trans rfl, ((BM_2.out.below hU BM_2.out.lt).cell 2).trans rfl, ((BM_2.out.below hU BM_2.out.lt).cell 3).trans rfl, ((BM_2.out.below hU BM_2.out.lt).cell 4).trans rfl, ((BM_2.out.below hU BM_2.out.lt).cell 5).trans rfl, ((BM_2.out.below hU BM_2.out.lt).cell 6).trans rfl, ((BM_2.out.below hU BM_2.out.lt).cell 7).trans rfl, ((BM_2.out.below hU BM_2.out.lt).cell 8).trans rfl, ((BM_2.out.below hU BM_2.out.lt).cell 9).trans rfl, ((BM_2.out.below hU BM_2.out.lt).cell 10).trans rfl, ((BM_2.out.below hU BM_2.out.lt).cell 11).trans rfl, ((BM_2.out.below hU BM_2.out.lt).cell 12).trans rfl, ((BM_2.out.below hU BM_2.out.lt).cell 13).trans rfl, ((BE_2.out.below hU BE_2.out.lt).cell 0).trans rfl, ((BE_2.out.below hU BE_2.out.lt).cell 1).trans rfl, ((BE_2.out.below hU BE_2.out.lt).cell 2).trans rfl, ((BE_2.out.below hU BE_2.out.lt).cell 3).trans rfl, ((BE_2.out.below hU BE_2.out.lt).cell 4).trans rfl⟩)
   refine Code.wp_mono (Q := RA6 w5 w.heap.size W1.heap.size (.agg #[.int .u16 id, .bool rs, .int .i64 op, .bool aa, .bool tc, .bool rd, .bool ra, .bool ad, .bool cd, .int .i64 rc, .slice qa qn qc, .slice an nn1 nc1, .slice au nn2 nc2, .slice ad3 nn3 nc3]) (.agg #[.int .i64 sz, .int .i64 hi, .int .i64 ver, .bool d, .slice a n c]) (.int .i64 own) [.int .u16 id, .bool rs, .int .i64 op, .bool aa, .bool tc, .bool rd, .bool ra, .bool ad, .bool cd, .int .i64 rc] QS NS Q1 L1 Q2 L2 Q3 L3 sz hi ver d O) ?rest ?reg
   case reg =>
    refine wp_region_noPanic ?_
    refine wp_region_held_drew (S := fun U => U.cell? ⟨w.heap.size, 0, none⟩ = some (.int .u16 id) ∧ U.cell? ⟨w.heap.size, 1, none⟩ = some (.bool rs) ∧ U.cell? ⟨w.heap.size, 2, none⟩ = some (.int .i64 op) ∧ U.cell? ⟨w.heap.size, 3, none⟩ = some (.bool aa) ∧ U.cell? ⟨w.heap.size, 4, none⟩ = some (.bool tc) ∧ U.cell? ⟨w.heap.size, 5, none⟩ = some (.bool rd) ∧ U.cell? ⟨w.heap.size, 6, none⟩ = some (.bool ra) ∧ U.cell? ⟨w.heap.size, 7, none⟩ = some (.bool ad) ∧ U.cell? ⟨w.heap.size, 8, none⟩ = some (.bool cd) ∧ U.cell? ⟨w.heap.size, 9, none⟩ = some (.int .i64 rc) ∧ U.cell? ⟨w.heap.size, 10, none⟩ = some (.slice qa qn qc) ∧ U.cell? ⟨w.heap.size, 11, none⟩ = some (.slice an nn1 nc1) ∧ U.cell? ⟨w.heap.size, 12, none⟩ = some (.slice au nn2 nc2) ∧ U.cell? ⟨w.heap.size, 13, none⟩ = some (.slice ad3 nn3 nc3) ∧ U.cell? ⟨W1.heap.size, 0, none⟩ = some (.int .i64 sz) ∧ U.cell? ⟨W1.heap.size, 1, none⟩ = some (.int .i64 hi) ∧ U.cell? ⟨W1.heap.size, 2, none⟩ = some (.int .i64 ver) ∧ U.cell? ⟨W1.heap.size, 3, none⟩ = some (.bool d) ∧ U.cell? ⟨W1.heap.size, 4, none⟩ = some (.slice a n c)) (by kernel_rfl) (hPS.out _ (Below.refl _ _).drew) (fun hHeld => ?_)
    have hb0 : Below w5.heap.size w5 w5.drew := (Below.refl _ _).drew
    generalize w5.drew = U0 at *
    refine tkz 0 ({ dst := some 31, op := Op.load 60 (Operand.tmp 3), type := 60, pos := _, after := #[], guard := none }) ?_ rfl ?_ ?_
    rotate_left
    ·intro w hSw
     go_simp
     first | done | with_reducible rfl
    try simp only [pz0, pz2, pz3, pz4]
    refine tkz 2 ({ dst := some 33, op := Op.load 24 (Operand.tmp 4), type := 24, pos := _, after := #[], guard := none }) ?_ rfl ?_ ?_
    rotate_left
    ·intro w hSw
     go_simp
     first | done | with_reducible rfl
    try simp only [pz0, pz2, pz3, pz4]
    refine wpAnyH_inv (fun f l A U => ∃ (l7 l8 m1 m2 : Bool) (b7 b8 : Nat) (vq x1 x2 x3 u v7 v8 v32 v34 : Value), l = #[true, m1, true, m2, l7, l8, false, false] ∧ A = F6 w.heap.size W1.heap.size (.agg #[.int .u16 id, .bool rs, .int .i64 op, .bool aa, .bool tc, .bool rd, .bool ra, .bool ad, .bool cd, .int .i64 rc, .slice qa qn qc, .slice an nn1 nc1, .slice au nn2 nc2, .slice ad3 nn3 nc3]) (.agg #[.int .i64 sz, .int .i64 hi, .int .i64 ver, .bool d, .slice a n c]) (.int .i64 own) v7 v8 v32 v34 ∧ f = 2 + (!l7).toNat + (!l8).toNat + (!m1).toNat + (!m2).toNat ∧ I6 w5 U [.int .u16 id, .bool rs, .int .i64 op, .bool aa, .bool tc, .bool rd, .bool ra, .bool ad, .bool cd, .int .i64 rc] QS NS Q1 L1 Q2 L2 Q3 L3 sz hi ver d O l7 l8 m1 m2 b7 b8 vq x1 x2 x3 u v7 v8 v32 v34) ?step _ _ _ _ ?init
    case init => exact ⟨false, false, false, false, 0, 0, undef, undef, undef, undef, undef, undef, undef, undef, undef, rfl, rfl, rfl, ⟨hb0, nofun, nofun, nofun, nofun, nofun⟩⟩
    case step =>
     rintro f l A U ⟨l7, l8, m1, m2, b7, b8, vq, x1, x2, x3, u, v7, v8, v32, v34, rfl, rfl, rfl, hI⟩
     by_cases hall : l7 = true ∧ l8 = true ∧ m2 = true
     ·left
      obtain ⟨rfl, rfl, rfl⟩ := hall
      obtain rfl := hI.o2 rfl
      obtain ⟨rfl, x7, y7⟩ := hI.a7 rfl
      obtain ⟨rfl, x8, y8⟩ := hI.a8 rfl
      obtain ⟨rfl, uq, u1, u2, u3⟩ := hI.c1 rfl
      obtain ⟨rfl, uo⟩ := hI.c2 rfl
      have bel := hI.bel
      have hne : b8 ≠ b7 := fun e => by subst e; exact absurd (blk_type x7 x8) (by decide)
      obtain ⟨aq, cq, rfl⟩ := uq.shape
      obtain ⟨a1, c1, rfl⟩ := u1.shape
      obtain ⟨a2, c2, rfl⟩ := u2.shape
      obtain ⟨a3, c3, rfl⟩ := u3.shape
      obtain ⟨ao, co, rfl⟩ := uo.shape
      generalize QS.length = n0 at *
      generalize Q1.length = n1 at *
      generalize Q2.length = n2 at *
      generalize Q3.length = n3 at *
      generalize O.length = n5 at *
      unfold F6
      show wpAnyH _ _ _ _ _ 2 _ _ _
      refine wpAnyH_ready (rs := [6]) (by kernel_rfl) (by simp) ?_
      refine AllReadyH.cons (o := { dst := none, op := Op.store 60 (Operand.tmp 7) (Operand.tmp 32), type := 0, pos := _, after := #[{ on := 4, ground := Ground.data }, { on := 1, ground := Ground.data }, { on := 3, ground := Ground.chain }, { on := 0, ground := Ground.phase }, { on := 1, ground := Ground.phase }, { on := 2, ground := Ground.textOnly Departure.lateStores }, { on := 3, ground := Ground.textOnly Departure.lateStoresUnsure }, { on := 4, ground := Ground.phase }, { on := 5, ground := Ground.phase }], guard := none }) rfl (fun K hK => ?_) AllReadyH.nil
      refine step_store (by rfl) 60 (.tmp 7) (.tmp 32) (by rfl) (cells := #[.int .u16 id, .bool rs, .int .i64 op, .bool aa, .bool tc, .bool rd, .bool ra, .bool ad, .bool cd, .int .i64 rc, .slice aq n0 cq, .slice a1 n1 c1, .slice a2 n2 c2, .slice a3 n3 c3]) (by rfl) (by rfl) x7 (by rfl) (by kernel_rfl) (by kernel_rfl) ?_
      intro X0 hB0 hg0 hz0
      have bel0 : Below w5.heap.size w5 X0 := bel.grown hg0 bel.size (fun k hk => by have e2 := Option.some.inj hk; omega)
      have x8b := x8.grownV2 hg0 (fun e => hne (Option.some.inj e))
      have uq0 := ownQs_store uq x7 (by decide) (by decide) hg0
      have u10 := ownRs_store u1 x7 hg0
      have u20 := ownRs_store u2 x7 hg0
      have u30 := ownRs_store u3 x7 hg0
      have uo0 := ownO_store uo x7 (by decide) (by decide) hg0
      refine hK.out _ _ (hPS.out _ bel0) (fun hHeld => ?_)
      clear hK K
      refine wpAnyH_ready (rs := [7]) (by kernel_rfl) (by simp) ?_
      refine AllReadyH.cons (o := { dst := none, op := Op.store 24 (Operand.tmp 8) (Operand.tmp 34), type := 0, pos := _, after := #[{ on := 5, ground := Ground.data }, { on := 3, ground := Ground.data }, { on := 6, ground := Ground.chain }, { on := 0, ground := Ground.phase }, { on := 1, ground := Ground.phase }, { on := 2, ground := Ground.phase }, { on := 3, ground := Ground.phase }, { on := 4, ground := Ground.phase }, { on := 5, ground := Ground.phase }, { on := 6, ground := Ground.phase }], guard := none }) rfl (fun K hK => ?_) AllReadyH.nil
      refine step_store (by rfl) 24 (.tmp 8) (.tmp 34) (by rfl) (cells := #[.int .i64 sz, .int .i64 hi, .int .i64 ver, .bool d, .slice ao n5 co]) (by rfl) (by rfl) x8b (by rfl) (by kernel_rfl) (by kernel_rfl) ?_
      intro X1 hB1 hg1 hz1
      have bel1 : Below w5.heap.size w5 X1 := bel0.grown hg1 bel0.size (fun k hk => by have e2 := Option.some.inj hk; omega)
      have x7b := hB0.grownV2 hg1 (fun e => hne (Option.some.inj e).symm)
      refine hK.out _ _ (hPS.out _ bel1) (fun hHeld => ?_)
      clear hK K
      refine wpAnyH_done (by kernel_rfl) ?_ _
      exact ⟨rfl, b7, b8, .slice aq n0 cq, .slice a1 n1 c1, .slice a2 n2 c2, .slice a3 n3 c3, .slice ao n5 co, rfl, ⟨bel1, x7b, hB1, ⟨y7, y8⟩, ownQs_store uq0 x8b (by decide) (by decide) hg1, ownRs_st u10 x8b (by decide) (by decide) (by decide) (by decide) (by decide) hg1, ownRs_st u20 x8b (by decide) (by decide) (by decide) (by decide) (by decide) hg1, ownRs_st u30 x8b (by decide) (by decide) (by decide) (by decide) (by decide) hg1, ownO_store uo0 x8b (by decide) (by decide) hg1⟩⟩
     ·right
      refine ⟨1 + (!l7).toNat + (!l8).toNat + (!m1).toNat + (!m2).toNat, by omega, List.exists_mem_of_ne_nil _ ?ne, fun i hi => ?arm⟩
      case ne =>
       intro hne
       have h0 : ∀ l : List Nat, l = [] → l.isEmpty = true := fun l h => by rw [h]; rfl
       have h1 := h0 _ hne
       revert h1
       clear hne h0 hI
       revert hall
       cases l7 <;> cases l8 <;> cases m1 <;> cases m2 <;> first | (intro h; exact absurd ⟨rfl, rfl, rfl⟩ h) | (intro _ h; exact absurd h (by rw [show (Region.ready Region.Mode.any _ _).isEmpty = false from by kernel_rfl]; decide))
      case arm =>
       have hrd0 := mem_ready.1 hi
       clear hi
       obtain ⟨hun, o, ho, hdep⟩ := hrd0
       match i, hun, ho with
       | 0, hun, ho =>
        exact absurd hun (by simp)
       | 1, hun, ho =>
        cases ho
        obtain rfl : m1 = false := hun
        clear hun hdep hall
        unfold F6
        refine wpOp_step (o := { dst := some 32, op := Op.call { callee := Callee.value (Operand.func 25), args := #[Operand.tmp 31], argTypes := #[60] }, type := 60, pos := _, after := #[{ on := 0, ground := Ground.data }], guard := none }) rfl (fun K hK => ?_)
        replace hK := Lib.hid hK
        have hI' := Lib.hid hI
        have mU := Lib.hid (M_2.out.ext hI.bel)
        clear hI
        refine step_call (by rfl) (.tmp 31) 60 (by rfl) (v := (.agg #[.int .u16 id, .bool rs, .int .i64 op, .bool aa, .bool tc, .bool rd, .bool ra, .bool ad, .bool cd, .int .i64 rc, .slice qa qn qc, .slice an nn1 nc1, .slice au nn2 nc2, .slice ad3 nn3 nc3])) (by rfl) enter25 ?_
        refine (copy_msg mU.out.q mU.out.a1 mU.out.a2 mU.out.a3 (.int .u16 id) (.bool rs) (.int .i64 op) (.bool aa) (.bool tc) (.bool rd) (.bool ra) (.bool ad) (.bool cd) (.int .i64 rc) rfl).mono ?_
        rintro e U' ⟨⟨wq, y1, y2, y3, rfl, oq, o1, o2, o3⟩, hb⟩
        refine ⟨_, rfl, ?_⟩
        have hN := hI'.out.cl1 hb oq o1 o2 o3
        refine hK.out _ _ ⟨hPS.out _ hN.bel, l7, l8, true, m2, b7, b8, wq, y1, y2, y3, u, v7, v8, _, v34, rfl, rfl, by simp only [Bool.not_true, Bool.not_false, Bool.toNat_true, Bool.toNat_false] <;> omega, hN⟩
       | 2, hun, ho =>
        exact absurd hun (by simp)
       | 3, hun, ho =>
        cases ho
        obtain rfl : m2 = false := hun
        have hpv : m1 = true := hdep ⟨1, .chain⟩ (by simp) (by rfl)
        clear hun hdep hall
        unfold F6
        refine wpOp_step (o := { dst := some 34, op := Op.call { callee := Callee.value (Operand.func 9), args := #[Operand.tmp 33], argTypes := #[24] }, type := 24, pos := _, after := #[{ on := 2, ground := Ground.data }, { on := 1, ground := Ground.chain }], guard := none }) rfl (fun K hK => ?_)
        replace hK := Lib.hid hK
        have hI' := Lib.hid hI
        have eU := Lib.hid (E_2.out.ext hI.bel)
        clear hI
        refine step_call (by rfl) (.tmp 33) 24 (by rfl) (v := (.agg #[.int .i64 sz, .int .i64 hi, .int .i64 ver, .bool d, .slice a n c])) (by rfl) enter9 ?_
        refine (copy_edns eU.out (by have h7 := hs'.out.1; have h8 := eU.out.len; omega) (fun o ho => Nat.le_trans (hs'.out.2 o ho) (by decide)) sz hi ver d).mono ?_
        rintro e U' ⟨⟨w1, rfl, oo⟩, hb⟩
        refine ⟨_, rfl, ?_⟩
        have hN := hI'.out.cl2 hpv hb oo
        refine hK.out _ _ ⟨hPS.out _ hN.bel, l7, l8, m1, true, b7, b8, vq, x1, x2, x3, w1, v7, v8, v32, _, rfl, rfl, by simp only [Bool.not_true, Bool.not_false, Bool.toNat_true, Bool.toNat_false] <;> omega, hN⟩
       | 4, hun, ho =>
        cases ho
        obtain rfl : l7 = false := hun
        clear hun hdep hall
        unfold F6
        refine wpOp_step (o := { dst := some 7, op := Op.alloc 60, type := 0, pos := _, after := #[], guard := none }) rfl (fun K hK => ?_)
        replace hK := Lib.hid hK
        have hN := Lib.hid (hI.al7)
        go_simp
        refine hK.out _ _ ⟨hPS.out _ hN.out.bel, true, l8, m1, m2, U.heap.size, b8, vq, x1, x2, x3, u, (.pointer (some ⟨U.heap.size, 0, none⟩)), v8, v32, v34, rfl, rfl, by simp only [Bool.not_true, Bool.not_false, Bool.toNat_true, Bool.toNat_false] <;> omega, hN.out⟩
       | 5, hun, ho =>
        cases ho
        obtain rfl : l8 = false := hun
        clear hun hdep hall
        unfold F6
        refine wpOp_step (o := { dst := some 8, op := Op.alloc 24, type := 0, pos := _, after := #[], guard := none }) rfl (fun K hK => ?_)
        replace hK := Lib.hid hK
        have hN := Lib.hid (hI.al8)
        go_simp
        refine hK.out _ _ ⟨hPS.out _ hN.out.bel, l7, true, m1, m2, b7, U.heap.size, vq, x1, x2, x3, u, v7, (.pointer (some ⟨U.heap.size, 0, none⟩)), v32, v34, rfl, rfl, by simp only [Bool.not_true, Bool.not_false, Bool.toNat_true, Bool.toNat_false] <;> omega, hN.out⟩
       | 6, hun, ho =>
        cases ho
        have h4 := hdep ⟨4, .phase⟩ (by simp) (by rfl)
        have h5 := hdep ⟨5, .phase⟩ (by simp) (by rfl)
        have h3 := hdep ⟨3, .chain⟩ (by simp) (by rfl)
        exact absurd ⟨h4, h5, h3⟩ hall
       | 7, hun, ho =>
        have h9 := hdep ⟨6, .chain⟩ (by cases ho; simp) (by rfl)
        exact absurd h9 (by simp)
       | q + 8, hun, ho => exact absurd hun (by simp)
   case rest =>
    rintro e A U ⟨rfl, b7, b8, vq, x1, x2, x3, u, rfl, hE⟩
    have hbU := hE.bel
    have K_3 := Lib.hid (K_2.out.trans ((hbU).mono K_2.out.size))
    have BM_3 := Lib.hid (BM_2.out.below hbU BM_2.out.lt)
    have BE_3 := Lib.hid (BE_2.out.below hbU BE_2.out.lt)
    have M_3 := Lib.hid (M_2.out.ext hbU)
    have E_3 := Lib.hid (E_2.out.ext hbU)
    clear K_2 BM_2 BE_2 M_2 E_2
    clear hbU
    obtain ⟨aq, cq, qX, rfl, rQ, eQ⟩ := hE.q.rdQs fit.out.1
    obtain ⟨a1, c1, A1, rfl, rA1, eA1⟩ := hE.r1.rdRs fit.out.2.1
    obtain ⟨a2, c2, A2, rfl, rA2, eA2⟩ := hE.r2.rdRs fit.out.2.2.1
    obtain ⟨a3, c3, A3, rfl, rA3, eA3⟩ := hE.r3.rdRs fit.out.2.2.2
    obtain ⟨ao, co, rfl, rO⟩ := hE.o.rdO
    have kX := Lib.hid hE.k7
    have kY := Lib.hid hE.k8
    clear hE
    obtain ⟨n0, hn0⟩ : ∃ x, QS.length = x := ⟨_, rfl⟩
    obtain ⟨n1, hn1⟩ : ∃ x, Q1.length = x := ⟨_, rfl⟩
    obtain ⟨n2, hn2⟩ : ∃ x, Q2.length = x := ⟨_, rfl⟩
    obtain ⟨n3, hn3⟩ : ∃ x, Q3.length = x := ⟨_, rfl⟩
    obtain ⟨n5, hn5⟩ : ∃ x, O.length = x := ⟨_, rfl⟩
    rw [hn0] at rQ kX ⊢
    rw [hn1] at rA1 kX ⊢
    rw [hn2] at rA2 kX ⊢
    rw [hn3] at rA3 kX ⊢
    rw [hn5] at rO kY ⊢
    have hnn : Hid (n1 + n2 + n3 ≤ 515 ∧ qn = n0 ∧ nn1 = n1 ∧ nn2 = n2 ∧ nn3 = n3 ∧ QS.length = n0 ∧ Q1.length = n1 ∧ Q2.length = n2 ∧ Q3.length = n3 ∧ O.length = n5) := Lib.hid (by have h1 := hN'.out; have h2 := z2.out; rw [List.length_append, List.length_append] at h1; omega)
    clear hn0 hn1 hn2 hn3 hn5
    have rX : Hid (RdM U aq n0 cq qX NS a1 n1 c1 A1 L1 a2 n2 c2 A2 L2 a3 n3 c3 A3 L3) := Lib.hid ⟨rQ, rA1, rA2, rA3⟩
    have rY := Lib.hid rO
    have eX := Lib.hid (And.intro eQ (And.intro eA1 (And.intro eA2 eA3)))
    have kX2 : Hid (Blk U b7 60 (0, 0) [.int .u16 id, .bool rs, .int .i64 op, .bool aa, .bool tc, .bool rd, .bool ra, .bool ad, .bool cd, .int .i64 rc, .slice aq n0 cq, .slice a1 n1 c1, .slice a2 n2 c2, .slice a3 n3 c3]) := kX
    obtain ⟨sC, iC, vC, dC, AC, isC, xE, hU0⟩ := ofU_ex Q3 L3 fit.out.2.2.2.1
    have hU := Lib.hid hU0
    have hUX := Lib.hid (ofU_same M_3.out.a3 rX.out.a3 eA3.symm hU0)
    clear hU0 rQ rA1 rA2 rA3 rO eQ eA1 eA2 eA3 kX
    unfold F6
    have M0 := M_3
    have E0 := E_3
    have BM0 := BM_3
    have BE0 := BE_3
    have X0 := kX2
    have Y0 := kY
    have RX0 := rX
    have RY0 := rY
    have K0 := K_3
    have kU0 : Hid (Below U.heap.size U U) := Lib.hid (Below.refl _ _)
    have p0 : U.cell? ⟨b7, 0, none⟩ = some (.int .u16 id) := (kX2.out.cell 0).trans rfl
    have p1 : U.cell? ⟨b7, 1, none⟩ = some (.bool rs) := (kX2.out.cell 1).trans rfl
    have p2 : U.cell? ⟨b7, 2, none⟩ = some (.int .i64 op) := (kX2.out.cell 2).trans rfl
    have p3 : U.cell? ⟨b7, 3, none⟩ = some (.bool aa) := (kX2.out.cell 3).trans rfl
    have p4 : U.cell? ⟨b7, 4, none⟩ = some (.bool tc) := (kX2.out.cell 4).trans rfl
    have p5 : U.cell? ⟨b7, 5, none⟩ = some (.bool rd) := (kX2.out.cell 5).trans rfl
    have p6 : U.cell? ⟨b7, 6, none⟩ = some (.bool ra) := (kX2.out.cell 6).trans rfl
    have p7 : U.cell? ⟨b7, 7, none⟩ = some (.bool ad) := (kX2.out.cell 7).trans rfl
    have p8 : U.cell? ⟨b7, 8, none⟩ = some (.bool cd) := (kX2.out.cell 8).trans rfl
    have p9 : U.cell? ⟨b7, 9, none⟩ = some (.int .i64 rc) := (kX2.out.cell 9).trans rfl
    have p10 : U.cell? ⟨b7, 10, none⟩ = some (.slice aq n0 cq) := (kX2.out.cell 10).trans rfl
    have p11 : U.cell? ⟨b7, 11, none⟩ = some (.slice a1 n1 c1) := (kX2.out.cell 11).trans rfl
    have p12 : U.cell? ⟨b7, 12, none⟩ = some (.slice a2 n2 c2) := (kX2.out.cell 12).trans rfl
    have p13 : U.cell? ⟨b7, 13, none⟩ = some (.slice a3 n3 c3) := (kX2.out.cell 13).trans rfl
    have hof := Lib.hid (of_any rX.out.a3 hUX.out (.int .u16 id) (.bool rs) (.int .i64 op) (.bool aa) (.bool tc) (.bool rd) (.bool ra) (.bool ad) (.bool cd) (.int .i64 rc) (.slice aq n0 cq) (.slice a1 n1 c1) (.slice a2 n2 c2))
    go_wp2_with fail
    refine hof.out.mono ?_
    rintro e w8 ⟨⟨u, rfl, hu⟩, hb⟩
    obtain ⟨u1, u2, rfl⟩ := hu.shape
    obtain ⟨nA, hnA⟩ : ∃ x, AC.length = x := ⟨_, rfl⟩
    rw [hnA] at hu ⊢
    have oxA := Lib.hid hu.ox
    have rdA := Lib.hid (ownO_rd_at hu).1
    skip
    clear p0 p1 p2 p3 p4 p5 p6 p7 p8 p9 p10 p11 p12 p13
    have K_4 := Lib.hid (K_3.out.trans ((hb).mono K_3.out.size))
    have BM_4 := Lib.hid (BM_3.out.below hb BM_3.out.lt)
    have BE_4 := Lib.hid (BE_3.out.below hb BE_3.out.lt)
    have M_4 := Lib.hid (M_3.out.ext hb)
    have E_4 := Lib.hid (E_3.out.ext hb)
    have X_4 := Lib.hid (kX2.out.below hb kX2.out.lt)
    have Y_4 := Lib.hid (kY.out.below hb kY.out.lt)
    have RX_4 := Lib.hid (rX.out.ext hb)
    have RY_4 := Lib.hid (rY.out.ext hb)
    have kU_4 := Lib.hid (kU0.out.trans ((hb).mono kU0.out.size))
    clear K_3 BM_3 BE_3 M_3 E_3 kX2 kY rX rY kU0
    rw [hnA] at oxA
    have hnA' := Lib.hid hnA
    unfold eV
    clear hu hb hof hnA
    have k80 : Hid (Below w8.heap.size w8 w8) := Lib.hid (Below.refl _ _)
    skip
    obtain ⟨W9, hW9⟩ : ∃ W, w8.alloc (.cells #[.int .i64 0, .int .i64 0, .int .i64 0, .bool false, .slice none 0 0] 24) = W := ⟨_, rfl⟩
    have N9 : Hid (Blk W9 w8.heap.size 24 (0, 0) [.int .i64 0, .int .i64 0, .int .i64 0, .bool false, .slice none 0 0]) := Lib.hid (by rw [← hW9]; exact Blk.new w8 24 (0, 0) #[.int .i64 0, .int .i64 0, .int .i64 0, .bool false, .slice none 0 0])
    have n9 : Hid (Below w8.heap.size w8 W9) := Lib.hid (by rw [← hW9]; exact alloc_bel _ _)
    go_upto_region 5 with (refine store_whole rfl 24 (.tmp 9) (.tmp 38) rfl rfl rfl N9.out (by rfl) (by kernel_rfl) (by first | kernel_rfl | rfl) ?_; intro w10 hBx hgx hzx; have R9 := Lib.hid hBx; have g9 := Lib.hid hgx; clear hBx hgx hzx)
    try rw [hW9]
    clear hW9
    have s9 := Lib.hid (fresh_store n9.out g9.out)
    have K_5 := Lib.hid (K_4.out.trans ((s9.out).mono K_4.out.size))
    have BM_5 := Lib.hid (BM_4.out.below s9.out BM_4.out.lt)
    have BE_5 := Lib.hid (BE_4.out.below s9.out BE_4.out.lt)
    have M_5 := Lib.hid (M_4.out.ext s9.out)
    have E_5 := Lib.hid (E_4.out.ext s9.out)
    have X_5 := Lib.hid (X_4.out.below s9.out X_4.out.lt)
    have Y_5 := Lib.hid (Y_4.out.below s9.out Y_4.out.lt)
    have RX_5 := Lib.hid (RX_4.out.ext s9.out)
    have RY_5 := Lib.hid (RY_4.out.ext s9.out)
    have kU_5 := Lib.hid (kU_4.out.trans ((s9.out).mono kU_4.out.size))
    have OA_5 := Lib.hid (oxA.out.ext s9.out)
    have RA_5 := Lib.hid (rdA.out.ext s9.out)
    have k8_5 := Lib.hid (k80.out.trans ((s9.out).mono k80.out.size))
    clear K_4 BM_4 BE_4 M_4 E_4 X_4 Y_4 RX_4 RY_4 kU_4 oxA rdA k80
    have l9 : Hid (w8.heap.size < w10.heap.size) := Lib.hid R9.out.lt
    clear N9 n9 g9 s9
    have p0 : w10.cell? ⟨w.heap.size, 0, none⟩ = some (.int .u16 id) := (BM_5.out.cell 0).trans rfl
    have p1 : w10.cell? ⟨w.heap.size, 1, none⟩ = some (.bool rs) := (BM_5.out.cell 1).trans rfl
    have p2 : w10.cell? ⟨w.heap.size, 2, none⟩ = some (.int .i64 op) := (BM_5.out.cell 2).trans rfl
    have p3 : w10.cell? ⟨w.heap.size, 3, none⟩ = some (.bool aa) := (BM_5.out.cell 3).trans rfl
    have p4 : w10.cell? ⟨w.heap.size, 4, none⟩ = some (.bool tc) := (BM_5.out.cell 4).trans rfl
    have p5 : w10.cell? ⟨w.heap.size, 5, none⟩ = some (.bool rd) := (BM_5.out.cell 5).trans rfl
    have p6 : w10.cell? ⟨w.heap.size, 6, none⟩ = some (.bool ra) := (BM_5.out.cell 6).trans rfl
    have p7 : w10.cell? ⟨w.heap.size, 7, none⟩ = some (.bool ad) := (BM_5.out.cell 7).trans rfl
    have p8 : w10.cell? ⟨w.heap.size, 8, none⟩ = some (.bool cd) := (BM_5.out.cell 8).trans rfl
    have p9 : w10.cell? ⟨w.heap.size, 9, none⟩ = some (.int .i64 rc) := (BM_5.out.cell 9).trans rfl
    have p10 : w10.cell? ⟨w.heap.size, 10, none⟩ = some (.slice qa qn qc) := (BM_5.out.cell 10).trans rfl
    have p11 : w10.cell? ⟨w.heap.size, 11, none⟩ = some (.slice an nn1 nc1) := (BM_5.out.cell 11).trans rfl
    have p12 : w10.cell? ⟨w.heap.size, 12, none⟩ = some (.slice au nn2 nc2) := (BM_5.out.cell 12).trans rfl
    have p13 : w10.cell? ⟨w.heap.size, 13, none⟩ = some (.slice ad3 nn3 nc3) := (BM_5.out.cell 13).trans rfl
    have hof := Lib.hid (ref_of M_5.out.a3 hU.out (.int .u16 id) (.bool rs) (.int .i64 op) (.bool aa) (.bool tc) (.bool rd) (.bool ra) (.bool ad) (.bool cd) (.int .i64 rc) (.slice qa qn qc) (.slice an nn1 nc1) (.slice au nn2 nc2))
    go_wp2_with fail
    refine hof.out.mono ?_
    rintro e w11 ⟨⟨u, rfl, hu⟩, hb⟩
    obtain ⟨u3, u4, rfl⟩ := hu.shape
    rw [hnA'.out] at hu ⊢
    have rdB := Lib.hid (ownO_rd_at hu).1
    unfold eV
    clear p0 p1 p2 p3 p4 p5 p6 p7 p8 p9 p10 p11 p12 p13
    have K_6 := Lib.hid (K_5.out.trans ((hb).mono K_5.out.size))
    have BM_6 := Lib.hid (BM_5.out.below hb BM_5.out.lt)
    have BE_6 := Lib.hid (BE_5.out.below hb BE_5.out.lt)
    have M_6 := Lib.hid (M_5.out.ext hb)
    have E_6 := Lib.hid (E_5.out.ext hb)
    have X_6 := Lib.hid (X_5.out.below hb X_5.out.lt)
    have Y_6 := Lib.hid (Y_5.out.below hb Y_5.out.lt)
    have RX_6 := Lib.hid (RX_5.out.ext hb)
    have RY_6 := Lib.hid (RY_5.out.ext hb)
    have kU_6 := Lib.hid (kU_5.out.trans ((hb).mono kU_5.out.size))
    have OA_6 := Lib.hid (OA_5.out.ext hb)
    have RA_6 := Lib.hid (RA_5.out.ext hb)
    have k8_6 := Lib.hid (k8_5.out.trans ((hb).mono k8_5.out.size))
    have BA_6 := Lib.hid (R9.out.below hb R9.out.lt)
    clear K_5 BM_5 BE_5 M_5 E_5 X_5 Y_5 RX_5 RY_5 kU_5 OA_5 RA_5 k8_5 R9
    clear hu hb hof
    obtain ⟨W12, hW12⟩ : ∃ W, w11.alloc (.cells #[.int .i64 0, .int .i64 0, .int .i64 0, .bool false, .slice none 0 0] 24) = W := ⟨_, rfl⟩
    have N12 : Hid (Blk W12 w11.heap.size 24 (0, 0) [.int .i64 0, .int .i64 0, .int .i64 0, .bool false, .slice none 0 0]) := Lib.hid (by rw [← hW12]; exact Blk.new w11 24 (0, 0) #[.int .i64 0, .int .i64 0, .int .i64 0, .bool false, .slice none 0 0])
    have n12 : Hid (Below w11.heap.size w11 W12) := Lib.hid (by rw [← hW12]; exact alloc_bel _ _)
    go_upto_region 6 with (refine store_whole rfl 24 (.tmp 12) (.tmp 44) rfl rfl rfl N12.out (by rfl) (by kernel_rfl) (by first | kernel_rfl | rfl) ?_; intro w13 hBx hgx hzx; have R12 := Lib.hid hBx; have g12 := Lib.hid hgx; clear hBx hgx hzx)
    try rw [hW12]
    clear hW12
    have s12 := Lib.hid (fresh_store n12.out g12.out)
    have K_7 := Lib.hid (K_6.out.trans ((s12.out).mono K_6.out.size))
    have BM_7 := Lib.hid (BM_6.out.below s12.out BM_6.out.lt)
    have BE_7 := Lib.hid (BE_6.out.below s12.out BE_6.out.lt)
    have M_7 := Lib.hid (M_6.out.ext s12.out)
    have E_7 := Lib.hid (E_6.out.ext s12.out)
    have X_7 := Lib.hid (X_6.out.below s12.out X_6.out.lt)
    have Y_7 := Lib.hid (Y_6.out.below s12.out Y_6.out.lt)
    have RX_7 := Lib.hid (RX_6.out.ext s12.out)
    have RY_7 := Lib.hid (RY_6.out.ext s12.out)
    have kU_7 := Lib.hid (kU_6.out.trans ((s12.out).mono kU_6.out.size))
    have OA_7 := Lib.hid (OA_6.out.ext s12.out)
    have RA_7 := Lib.hid (RA_6.out.ext s12.out)
    have k8_7 := Lib.hid (k8_6.out.trans ((s12.out).mono k8_6.out.size))
    have BA_7 := Lib.hid (BA_6.out.below s12.out BA_6.out.lt)
    have RB_7 := Lib.hid (rdB.out.ext s12.out)
    clear K_6 BM_6 BE_6 M_6 E_6 X_6 Y_6 RX_6 RY_6 kU_6 OA_6 RA_6 k8_6 BA_6 rdB
    have l12 : Hid (w11.heap.size < w13.heap.size) := Lib.hid R12.out.lt
    clear N12 n12 g12 s12
    have hmt := idxF_meta eX.out.2.2.2 0
    have hiX : idxF A3 0 < 0 := by rw [hmt]; exact hv1.out.1
    have hgood := hv1.out.2
    have hiX' := Lib.hid hiX
    have hiQ := Lib.hid (show idxF Q3 0 < 0 by rw [← hmt]; exact hiX)
    have hg' := Lib.hid hgood
    clear hiX hmt hgood
    have p0 : w13.cell? ⟨b7, 0, none⟩ = some (.int .u16 id) := (X_7.out.cell 0).trans rfl
    have p1 : w13.cell? ⟨b7, 1, none⟩ = some (.bool rs) := (X_7.out.cell 1).trans rfl
    have p2 : w13.cell? ⟨b7, 2, none⟩ = some (.int .i64 op) := (X_7.out.cell 2).trans rfl
    have p3 : w13.cell? ⟨b7, 3, none⟩ = some (.bool aa) := (X_7.out.cell 3).trans rfl
    have p4 : w13.cell? ⟨b7, 4, none⟩ = some (.bool tc) := (X_7.out.cell 4).trans rfl
    have p5 : w13.cell? ⟨b7, 5, none⟩ = some (.bool rd) := (X_7.out.cell 5).trans rfl
    have p6 : w13.cell? ⟨b7, 6, none⟩ = some (.bool ra) := (X_7.out.cell 6).trans rfl
    have p7 : w13.cell? ⟨b7, 7, none⟩ = some (.bool ad) := (X_7.out.cell 7).trans rfl
    have p8 : w13.cell? ⟨b7, 8, none⟩ = some (.bool cd) := (X_7.out.cell 8).trans rfl
    have p9 : w13.cell? ⟨b7, 9, none⟩ = some (.int .i64 rc) := (X_7.out.cell 9).trans rfl
    have p10 : w13.cell? ⟨b7, 10, none⟩ = some (.slice aq n0 cq) := (X_7.out.cell 10).trans rfl
    have p11 : w13.cell? ⟨b7, 11, none⟩ = some (.slice a1 n1 c1) := (X_7.out.cell 11).trans rfl
    have p12 : w13.cell? ⟨b7, 12, none⟩ = some (.slice a2 n2 c2) := (X_7.out.cell 12).trans rfl
    have p13 : w13.cell? ⟨b7, 13, none⟩ = some (.slice a3 n3 c3) := (X_7.out.cell 13).trans rfl
    have q0 : w13.cell? ⟨b8, 0, none⟩ = some (.int .i64 sz) := (Y_7.out.cell 0).trans rfl
    have q1 : w13.cell? ⟨b8, 1, none⟩ = some (.int .i64 hi) := (Y_7.out.cell 1).trans rfl
    have q2 : w13.cell? ⟨b8, 2, none⟩ = some (.int .i64 ver) := (Y_7.out.cell 2).trans rfl
    have q3 : w13.cell? ⟨b8, 3, none⟩ = some (.bool d) := (Y_7.out.cell 3).trans rfl
    have q4 : w13.cell? ⟨b8, 4, none⟩ = some (.slice ao n5 co) := (Y_7.out.cell 4).trans rfl
    have hw := Lib.hid (with_good RX_7.out (.int .u16 id) (.bool rs) (.int .i64 op) (.bool aa) (.bool tc) (.bool rd) (.bool ra) (.bool ad) (.bool cd) (.int .i64 rc) rfl hiX'.out RY_7.out (fun o ho => hs'.out.2 o ho) hC'.out sz hi ver d hg'.out)
    go_wp2_with fail
    refine hw.out.mono ?_
    rintro e w14 ⟨⟨wq, y1, y2, y3, rfl, om⟩, hb⟩
    clear p0 p1 p2 p3 p4 p5 p6 p7 p8 p9 p10 p11 p12 p13 q0 q1 q2 q3 q4
    have z8 : Hid (w8.heap.size ≤ w13.heap.size ∧ U.heap.size ≤ w13.heap.size ∧ w13.heap.size ≤ w14.heap.size) := Lib.hid ⟨k8_7.out.size, kU_7.out.size, hb.size⟩
    have K_8 := Lib.hid (K_7.out.trans ((hb).mono K_7.out.size))
    have BM_8 := Lib.hid (BM_7.out.below hb BM_7.out.lt)
    have BE_8 := Lib.hid (BE_7.out.below hb BE_7.out.lt)
    have M_8 := Lib.hid (M_7.out.ext hb)
    have E_8 := Lib.hid (E_7.out.ext hb)
    have X_8 := Lib.hid (X_7.out.below hb X_7.out.lt)
    have Y_8 := Lib.hid (Y_7.out.below hb Y_7.out.lt)
    have RX_8 := Lib.hid (RX_7.out.ext hb)
    have RY_8 := Lib.hid (RY_7.out.ext hb)
    have kU_8 := Lib.hid (kU_7.out.trans ((hb).mono kU_7.out.size))
    have OA_8 := Lib.hid (OA_7.out.ext hb)
    have RA_8 := Lib.hid (RA_7.out.ext hb)
    have k8_8 := Lib.hid (k8_7.out.trans ((hb).mono k8_7.out.size))
    have BA_8 := Lib.hid (BA_7.out.below hb BA_7.out.lt)
    have RB_8 := Lib.hid (RB_7.out.ext hb)
    have BB_8 := Lib.hid (R12.out.below hb R12.out.lt)
    clear K_7 BM_7 BE_7 M_7 E_7 X_7 Y_7 RX_7 RY_7 kU_7 OA_7 RA_7 k8_7 BA_7 RB_7 R12
    clear hb hw
    have z14 : Hid (w8.heap.size ≤ w14.heap.size) := Lib.hid k8_8.out.size
    have kC0 : Hid (Below w14.heap.size w14 w14) := Lib.hid (Below.refl _ _)
    obtain ⟨dq, eq, qC, rfl, rQ, eQ⟩ := om.q.rdQs RX_8.out.q.fit
    obtain ⟨d1, e1, C1, rfl, rA1, eA1⟩ := om.a1.rdRs RX_8.out.a1.fit
    obtain ⟨d2, e2, C2, rfl, rA2, eA2⟩ := om.a2.rdRs RX_8.out.a2.fit
    obtain ⟨d3, e3, C3, rfl, rA3, eA3⟩ := om.a3.rdRs (fit_snoc RX_8.out.a3.fit (by have h7 := RX_8.out.a3.1.len; have h8 := hnn.out; omega) hg'.out)
    rw [RX_8.out.q.1.len] at rQ om ⊢
    rw [RX_8.out.a1.1.len] at rA1 om ⊢
    rw [RX_8.out.a2.1.len] at rA2 om ⊢
    rw [List.length_append, RX_8.out.a3.1.len] at rA3 om ⊢
    dsimp only [List.length] at rA3 om ⊢
    have omC := Lib.hid om
    have rC : Hid (RdM w14 dq n0 eq qC NS d1 n1 e1 C1 L1 d2 n2 e2 C2 L2 d3 (n3 + 1) e3 C3 (L3 ++ [optRL (rawB O)])) := Lib.hid ⟨rQ, rA1, rA2, rA3⟩
    have eC := Lib.hid (And.intro eQ (And.intro eA1 (And.intro eA2 eA3)))
    clear om rQ rA1 rA2 rA3 eQ eA1 eA2 eA3
    obtain ⟨n4, hn4⟩ : ∃ x, n3 + 1 = x := ⟨_, rfl⟩
    rw [hn4] at omC rC ⊢
    have hn4' := Lib.hid hn4
    clear hn4
    obtain ⟨W15, hW15⟩ : ∃ W, w14.alloc (.cells #[.int .u16 0, .bool false, .int .i64 0, .bool false, .bool false, .bool false, .bool false, .bool false, .bool false, .int .i64 0, .slice none 0 0, .slice none 0 0, .slice none 0 0, .slice none 0 0] 60) = W := ⟨_, rfl⟩
    have N15 : Hid (Blk W15 w14.heap.size 60 (0, 0) [.int .u16 0, .bool false, .int .i64 0, .bool false, .bool false, .bool false, .bool false, .bool false, .bool false, .int .i64 0, .slice none 0 0, .slice none 0 0, .slice none 0 0, .slice none 0 0]) := Lib.hid (by rw [← hW15]; exact Blk.new w14 60 (0, 0) #[.int .u16 0, .bool false, .int .i64 0, .bool false, .bool false, .bool false, .bool false, .bool false, .bool false, .int .i64 0, .slice none 0 0, .slice none 0 0, .slice none 0 0, .slice none 0 0])
    have n15 : Hid (Below w14.heap.size w14 W15) := Lib.hid (by rw [← hW15]; exact alloc_bel _ _)
    go_upto_region 7 with (refine store_whole rfl 60 (.tmp 15) (.tmp 51) rfl rfl rfl N15.out (by rfl) (by kernel_rfl) (by first | kernel_rfl | rfl) ?_; intro w16 hBx hgx hzx; have R15 := Lib.hid hBx; have g15 := Lib.hid hgx; clear hBx hgx hzx)
    try rw [hW15]
    clear hW15
    have s15 := Lib.hid (fresh_store n15.out g15.out)
    have K_9 := Lib.hid (K_8.out.trans ((s15.out).mono K_8.out.size))
    have BM_9 := Lib.hid (BM_8.out.below s15.out BM_8.out.lt)
    have BE_9 := Lib.hid (BE_8.out.below s15.out BE_8.out.lt)
    have M_9 := Lib.hid (M_8.out.ext s15.out)
    have E_9 := Lib.hid (E_8.out.ext s15.out)
    have X_9 := Lib.hid (X_8.out.below s15.out X_8.out.lt)
    have Y_9 := Lib.hid (Y_8.out.below s15.out Y_8.out.lt)
    have RX_9 := Lib.hid (RX_8.out.ext s15.out)
    have RY_9 := Lib.hid (RY_8.out.ext s15.out)
    have kU_9 := Lib.hid (kU_8.out.trans ((s15.out).mono kU_8.out.size))
    have OA_9 := Lib.hid (OA_8.out.ext s15.out)
    have RA_9 := Lib.hid (RA_8.out.ext s15.out)
    have k8_9 := Lib.hid (k8_8.out.trans ((s15.out).mono k8_8.out.size))
    have BA_9 := Lib.hid (BA_8.out.below s15.out BA_8.out.lt)
    have RB_9 := Lib.hid (RB_8.out.ext s15.out)
    have BB_9 := Lib.hid (BB_8.out.below s15.out BB_8.out.lt)
    have kC_9 := Lib.hid (kC0.out.trans ((s15.out).mono kC0.out.size))
    have RC_9 := Lib.hid (rC.out.ext s15.out)
    clear K_8 BM_8 BE_8 M_8 E_8 X_8 Y_8 RX_8 RY_8 kU_8 OA_8 RA_8 k8_8 BA_8 RB_8 BB_8 kC0 rC
    have l15 : Hid (w14.heap.size < w16.heap.size) := Lib.hid R15.out.lt
    clear N15 n15 g15 s15
    have p0 : w16.cell? ⟨w.heap.size, 0, none⟩ = some (.int .u16 id) := (BM_9.out.cell 0).trans rfl
    have p1 : w16.cell? ⟨w.heap.size, 1, none⟩ = some (.bool rs) := (BM_9.out.cell 1).trans rfl
    have p2 : w16.cell? ⟨w.heap.size, 2, none⟩ = some (.int .i64 op) := (BM_9.out.cell 2).trans rfl
    have p3 : w16.cell? ⟨w.heap.size, 3, none⟩ = some (.bool aa) := (BM_9.out.cell 3).trans rfl
    have p4 : w16.cell? ⟨w.heap.size, 4, none⟩ = some (.bool tc) := (BM_9.out.cell 4).trans rfl
    have p5 : w16.cell? ⟨w.heap.size, 5, none⟩ = some (.bool rd) := (BM_9.out.cell 5).trans rfl
    have p6 : w16.cell? ⟨w.heap.size, 6, none⟩ = some (.bool ra) := (BM_9.out.cell 6).trans rfl
    have p7 : w16.cell? ⟨w.heap.size, 7, none⟩ = some (.bool ad) := (BM_9.out.cell 7).trans rfl
    have p8 : w16.cell? ⟨w.heap.size, 8, none⟩ = some (.bool cd) := (BM_9.out.cell 8).trans rfl
    have p9 : w16.cell? ⟨w.heap.size, 9, none⟩ = some (.int .i64 rc) := (BM_9.out.cell 9).trans rfl
    have p10 : w16.cell? ⟨w.heap.size, 10, none⟩ = some (.slice qa qn qc) := (BM_9.out.cell 10).trans rfl
    have p11 : w16.cell? ⟨w.heap.size, 11, none⟩ = some (.slice an nn1 nc1) := (BM_9.out.cell 11).trans rfl
    have p12 : w16.cell? ⟨w.heap.size, 12, none⟩ = some (.slice au nn2 nc2) := (BM_9.out.cell 12).trans rfl
    have p13 : w16.cell? ⟨w.heap.size, 13, none⟩ = some (.slice ad3 nn3 nc3) := (BM_9.out.cell 13).trans rfl
    have q0 : w16.cell? ⟨W1.heap.size, 0, none⟩ = some (.int .i64 sz) := (BE_9.out.cell 0).trans rfl
    have q1 : w16.cell? ⟨W1.heap.size, 1, none⟩ = some (.int .i64 hi) := (BE_9.out.cell 1).trans rfl
    have q2 : w16.cell? ⟨W1.heap.size, 2, none⟩ = some (.int .i64 ver) := (BE_9.out.cell 2).trans rfl
    have q3 : w16.cell? ⟨W1.heap.size, 3, none⟩ = some (.bool d) := (BE_9.out.cell 3).trans rfl
    have q4 : w16.cell? ⟨W1.heap.size, 4, none⟩ = some (.slice a n c) := (BE_9.out.cell 4).trans rfl
    have hw := Lib.hid (ref_with_good M_9.out.a3 (.int .u16 id) (.bool rs) (.int .i64 op) (.bool aa) (.bool tc) (.bool rd) (.bool ra) (.bool ad) (.bool cd) (.int .i64 rc) (.slice qa qn qc) (.slice an nn1 nc1) (.slice au nn2 nc2) rfl hiQ.out E_9.out (by have h7 := hs'.out.1; have h8 := E_9.out.len; omega) (fun o ho => hs'.out.2 o ho) hC'.out sz hi ver d hg'.out)
    go_wp2_with fail
    refine hw.out.mono ?_
    rintro e w17 ⟨⟨v, ra_, rn_, rc_, rfl, ov, orw⟩, hb⟩
    clear p0 p1 p2 p3 p4 p5 p6 p7 p8 p9 p10 p11 p12 p13 q0 q1 q2 q3 q4
    have K_10 := Lib.hid (K_9.out.trans ((hb).mono K_9.out.size))
    have BM_10 := Lib.hid (BM_9.out.below hb BM_9.out.lt)
    have BE_10 := Lib.hid (BE_9.out.below hb BE_9.out.lt)
    have M_10 := Lib.hid (M_9.out.ext hb)
    have E_10 := Lib.hid (E_9.out.ext hb)
    have X_10 := Lib.hid (X_9.out.below hb X_9.out.lt)
    have Y_10 := Lib.hid (Y_9.out.below hb Y_9.out.lt)
    have RX_10 := Lib.hid (RX_9.out.ext hb)
    have RY_10 := Lib.hid (RY_9.out.ext hb)
    have kU_10 := Lib.hid (kU_9.out.trans ((hb).mono kU_9.out.size))
    have OA_10 := Lib.hid (OA_9.out.ext hb)
    have RA_10 := Lib.hid (RA_9.out.ext hb)
    have k8_10 := Lib.hid (k8_9.out.trans ((hb).mono k8_9.out.size))
    have BA_10 := Lib.hid (BA_9.out.below hb BA_9.out.lt)
    have RB_10 := Lib.hid (RB_9.out.ext hb)
    have BB_10 := Lib.hid (BB_9.out.below hb BB_9.out.lt)
    have kC_10 := Lib.hid (kC_9.out.trans ((hb).mono kC_9.out.size))
    have RC_10 := Lib.hid (RC_9.out.ext hb)
    have BC_10 := Lib.hid (R15.out.below hb R15.out.lt)
    clear K_9 BM_9 BE_9 M_9 E_9 X_9 Y_9 RX_9 RY_9 kU_9 OA_9 RA_9 k8_9 BA_9 RB_9 BB_9 kC_9 RC_9 R15
    clear hb hw
    have hmy := mayB_iff hg'.out.1
    obtain ⟨f3, g3, rfl, rD3⟩ := snoc_rd M_10.out.a3 ov orw (by have h8 := hnn.out; omega) (by omega) (ttl_of hi.toNat ver.toNat d (by omega) (by omega)).1 hg'.out.2
    clear hmy
    rw [show nn3 + 1 = n4 by have h8 := hnn.out; have h9 := hn4'.out; omega] at rD3 ⊢
    have rD := Lib.hid rD3
    clear ov orw rD3
    obtain ⟨W18, hW18⟩ : ∃ W, w17.alloc (.cells #[.int .u16 0, .bool false, .int .i64 0, .bool false, .bool false, .bool false, .bool false, .bool false, .bool false, .int .i64 0, .slice none 0 0, .slice none 0 0, .slice none 0 0, .slice none 0 0] 60) = W := ⟨_, rfl⟩
    have N18 : Hid (Blk W18 w17.heap.size 60 (0, 0) [.int .u16 0, .bool false, .int .i64 0, .bool false, .bool false, .bool false, .bool false, .bool false, .bool false, .int .i64 0, .slice none 0 0, .slice none 0 0, .slice none 0 0, .slice none 0 0]) := Lib.hid (by rw [← hW18]; exact Blk.new w17 60 (0, 0) #[.int .u16 0, .bool false, .int .i64 0, .bool false, .bool false, .bool false, .bool false, .bool false, .bool false, .int .i64 0, .slice none 0 0, .slice none 0 0, .slice none 0 0, .slice none 0 0])
    have n18 : Hid (Below w17.heap.size w17 W18) := Lib.hid (by rw [← hW18]; exact alloc_bel _ _)
    go_upto_region 8 with (refine store_whole rfl 60 (.tmp 17) (.tmp 57) rfl rfl rfl N18.out (by rfl) (by kernel_rfl) (by first | kernel_rfl | rfl) ?_; intro w19 hBx hgx hzx; have R18 := Lib.hid hBx; have g18 := Lib.hid hgx; clear hBx hgx hzx)
    try rw [hW18]
    clear hW18
    have s18 := Lib.hid (fresh_store n18.out g18.out)
    have K_11 := Lib.hid (K_10.out.trans ((s18.out).mono K_10.out.size))
    have BM_11 := Lib.hid (BM_10.out.below s18.out BM_10.out.lt)
    have BE_11 := Lib.hid (BE_10.out.below s18.out BE_10.out.lt)
    have M_11 := Lib.hid (M_10.out.ext s18.out)
    have E_11 := Lib.hid (E_10.out.ext s18.out)
    have X_11 := Lib.hid (X_10.out.below s18.out X_10.out.lt)
    have Y_11 := Lib.hid (Y_10.out.below s18.out Y_10.out.lt)
    have RX_11 := Lib.hid (RX_10.out.ext s18.out)
    have RY_11 := Lib.hid (RY_10.out.ext s18.out)
    have kU_11 := Lib.hid (kU_10.out.trans ((s18.out).mono kU_10.out.size))
    have OA_11 := Lib.hid (OA_10.out.ext s18.out)
    have RA_11 := Lib.hid (RA_10.out.ext s18.out)
    have k8_11 := Lib.hid (k8_10.out.trans ((s18.out).mono k8_10.out.size))
    have BA_11 := Lib.hid (BA_10.out.below s18.out BA_10.out.lt)
    have RB_11 := Lib.hid (RB_10.out.ext s18.out)
    have BB_11 := Lib.hid (BB_10.out.below s18.out BB_10.out.lt)
    have kC_11 := Lib.hid (kC_10.out.trans ((s18.out).mono kC_10.out.size))
    have RC_11 := Lib.hid (RC_10.out.ext s18.out)
    have BC_11 := Lib.hid (BC_10.out.below s18.out BC_10.out.lt)
    have RD_11 := Lib.hid (rD.out.ext s18.out)
    clear K_10 BM_10 BE_10 M_10 E_10 X_10 Y_10 RX_10 RY_10 kU_10 OA_10 RA_10 k8_10 BA_10 RB_10 BB_10 kC_10 RC_10 BC_10 rD
    have l18 : Hid (w17.heap.size < w19.heap.size) := Lib.hid R18.out.lt
    clear N18 n18 g18 s18
    have p0 : w19.cell? ⟨b7, 0, none⟩ = some (.int .u16 id) := (X_11.out.cell 0).trans rfl
    have p1 : w19.cell? ⟨b7, 1, none⟩ = some (.bool rs) := (X_11.out.cell 1).trans rfl
    have p2 : w19.cell? ⟨b7, 2, none⟩ = some (.int .i64 op) := (X_11.out.cell 2).trans rfl
    have p3 : w19.cell? ⟨b7, 3, none⟩ = some (.bool aa) := (X_11.out.cell 3).trans rfl
    have p4 : w19.cell? ⟨b7, 4, none⟩ = some (.bool tc) := (X_11.out.cell 4).trans rfl
    have p5 : w19.cell? ⟨b7, 5, none⟩ = some (.bool rd) := (X_11.out.cell 5).trans rfl
    have p6 : w19.cell? ⟨b7, 6, none⟩ = some (.bool ra) := (X_11.out.cell 6).trans rfl
    have p7 : w19.cell? ⟨b7, 7, none⟩ = some (.bool ad) := (X_11.out.cell 7).trans rfl
    have p8 : w19.cell? ⟨b7, 8, none⟩ = some (.bool cd) := (X_11.out.cell 8).trans rfl
    have p9 : w19.cell? ⟨b7, 9, none⟩ = some (.int .i64 rc) := (X_11.out.cell 9).trans rfl
    have p10 : w19.cell? ⟨b7, 10, none⟩ = some (.slice aq n0 cq) := (X_11.out.cell 10).trans rfl
    have p11 : w19.cell? ⟨b7, 11, none⟩ = some (.slice a1 n1 c1) := (X_11.out.cell 11).trans rfl
    have p12 : w19.cell? ⟨b7, 12, none⟩ = some (.slice a2 n2 c2) := (X_11.out.cell 12).trans rfl
    have p13 : w19.cell? ⟨b7, 13, none⟩ = some (.slice a3 n3 c3) := (X_11.out.cell 13).trans rfl
    have hw := Lib.hid (without_any RX_11.out (.int .u16 id) (.bool rs) (.int .i64 op) (.bool aa) (.bool tc) (.bool rd) (.bool ra) (.bool ad) (.bool cd) (.int .i64 rc) rfl (by have h7 := RX_11.out.a3.1.len; have h8 := hnn.out; omega))
    go_wp2_with fail
    refine hw.out.mono ?_
    rintro e w20 ⟨⟨wq2, z1_, z2_, z3_, rfl, om⟩, hb⟩
    clear p0 p1 p2 p3 p4 p5 p6 p7 p8 p9 p10 p11 p12 p13
    have z9 : Hid (w8.heap.size ≤ w19.heap.size ∧ U.heap.size ≤ w19.heap.size ∧ w19.heap.size ≤ w20.heap.size ∧ w14.heap.size ≤ w19.heap.size) := Lib.hid ⟨k8_11.out.size, kU_11.out.size, hb.size, kC_11.out.size⟩
    have K_12 := Lib.hid (K_11.out.trans ((hb).mono K_11.out.size))
    have BM_12 := Lib.hid (BM_11.out.below hb BM_11.out.lt)
    have BE_12 := Lib.hid (BE_11.out.below hb BE_11.out.lt)
    have M_12 := Lib.hid (M_11.out.ext hb)
    have E_12 := Lib.hid (E_11.out.ext hb)
    have X_12 := Lib.hid (X_11.out.below hb X_11.out.lt)
    have Y_12 := Lib.hid (Y_11.out.below hb Y_11.out.lt)
    have RX_12 := Lib.hid (RX_11.out.ext hb)
    have RY_12 := Lib.hid (RY_11.out.ext hb)
    have kU_12 := Lib.hid (kU_11.out.trans ((hb).mono kU_11.out.size))
    have OA_12 := Lib.hid (OA_11.out.ext hb)
    have RA_12 := Lib.hid (RA_11.out.ext hb)
    have k8_12 := Lib.hid (k8_11.out.trans ((hb).mono k8_11.out.size))
    have BA_12 := Lib.hid (BA_11.out.below hb BA_11.out.lt)
    have RB_12 := Lib.hid (RB_11.out.ext hb)
    have BB_12 := Lib.hid (BB_11.out.below hb BB_11.out.lt)
    have kC_12 := Lib.hid (kC_11.out.trans ((hb).mono kC_11.out.size))
    have RC_12 := Lib.hid (RC_11.out.ext hb)
    have BC_12 := Lib.hid (BC_11.out.below hb BC_11.out.lt)
    have RD_12 := Lib.hid (RD_11.out.ext hb)
    have BD_12 := Lib.hid (R18.out.below hb R18.out.lt)
    clear K_11 BM_11 BE_11 M_11 E_11 X_11 Y_11 RX_11 RY_11 kU_11 OA_11 RA_11 k8_11 BA_11 RB_11 BB_11 kC_11 RC_11 BC_11 RD_11 R18
    clear hb hw
    have kW0 : Hid (Below w20.heap.size w20 w20) := Lib.hid (Below.refl _ _)
    obtain ⟨gq, hq_, qU, rfl, rQ, eQ⟩ := om.q.rdQs RX_12.out.q.fit
    obtain ⟨g1, h1_, U1_, rfl, rA1, eA1⟩ := om.a1.rdRs RX_12.out.a1.fit
    obtain ⟨g2, h2_, U2_, rfl, rA2, eA2⟩ := om.a2.rdRs RX_12.out.a2.fit
    obtain ⟨g3_, h3_, U3_, rfl, rA3, eA3⟩ := om.a3.rdRs RX_12.out.a3.fit.zf
    rw [RX_12.out.q.1.len] at rQ om ⊢
    rw [RX_12.out.a1.1.len] at rA1 om ⊢
    rw [RX_12.out.a2.1.len] at rA2 om ⊢
    obtain ⟨n6, hn6⟩ : ∃ x, (zQ A3 L3).length = x := ⟨_, rfl⟩
    rw [hn6] at rA3 om ⊢
    have hn6' := Lib.hid hn6
    clear hn6
    have omU := Lib.hid om
    have rU : Hid (RdM w20 gq n0 hq_ qU NS g1 n1 h1_ U1_ L1 g2 n2 h2_ U2_ L2 g3_ n6 h3_ U3_ (zL A3 L3)) := Lib.hid ⟨rQ, rA1, rA2, rA3⟩
    have eU := Lib.hid (And.intro eQ (And.intro eA1 (And.intro eA2 eA3)))
    clear om rQ rA1 rA2 rA3 eQ eA1 eA2 eA3
    obtain ⟨W21, hW21⟩ : ∃ W, w20.alloc (.cells #[.int .u16 0, .bool false, .int .i64 0, .bool false, .bool false, .bool false, .bool false, .bool false, .bool false, .int .i64 0, .slice none 0 0, .slice none 0 0, .slice none 0 0, .slice none 0 0] 60) = W := ⟨_, rfl⟩
    have N21 : Hid (Blk W21 w20.heap.size 60 (0, 0) [.int .u16 0, .bool false, .int .i64 0, .bool false, .bool false, .bool false, .bool false, .bool false, .bool false, .int .i64 0, .slice none 0 0, .slice none 0 0, .slice none 0 0, .slice none 0 0]) := Lib.hid (by rw [← hW21]; exact Blk.new w20 60 (0, 0) #[.int .u16 0, .bool false, .int .i64 0, .bool false, .bool false, .bool false, .bool false, .bool false, .bool false, .int .i64 0, .slice none 0 0, .slice none 0 0, .slice none 0 0, .slice none 0 0])
    have n21 : Hid (Below w20.heap.size w20 W21) := Lib.hid (by rw [← hW21]; exact alloc_bel _ _)
    go_upto_region 9 with (refine store_whole rfl 60 (.tmp 19) (.tmp 60) rfl rfl rfl N21.out (by rfl) (by kernel_rfl) (by first | kernel_rfl | rfl) ?_; intro w22 hBx hgx hzx; have R21 := Lib.hid hBx; have g21 := Lib.hid hgx; clear hBx hgx hzx)
    try rw [hW21]
    clear hW21
    have s21 := Lib.hid (fresh_store n21.out g21.out)
    have K_13 := Lib.hid (K_12.out.trans ((s21.out).mono K_12.out.size))
    have BM_13 := Lib.hid (BM_12.out.below s21.out BM_12.out.lt)
    have BE_13 := Lib.hid (BE_12.out.below s21.out BE_12.out.lt)
    have M_13 := Lib.hid (M_12.out.ext s21.out)
    have E_13 := Lib.hid (E_12.out.ext s21.out)
    have X_13 := Lib.hid (X_12.out.below s21.out X_12.out.lt)
    have Y_13 := Lib.hid (Y_12.out.below s21.out Y_12.out.lt)
    have RX_13 := Lib.hid (RX_12.out.ext s21.out)
    have RY_13 := Lib.hid (RY_12.out.ext s21.out)
    have kU_13 := Lib.hid (kU_12.out.trans ((s21.out).mono kU_12.out.size))
    have OA_13 := Lib.hid (OA_12.out.ext s21.out)
    have RA_13 := Lib.hid (RA_12.out.ext s21.out)
    have k8_13 := Lib.hid (k8_12.out.trans ((s21.out).mono k8_12.out.size))
    have BA_13 := Lib.hid (BA_12.out.below s21.out BA_12.out.lt)
    have RB_13 := Lib.hid (RB_12.out.ext s21.out)
    have BB_13 := Lib.hid (BB_12.out.below s21.out BB_12.out.lt)
    have kC_13 := Lib.hid (kC_12.out.trans ((s21.out).mono kC_12.out.size))
    have RC_13 := Lib.hid (RC_12.out.ext s21.out)
    have BC_13 := Lib.hid (BC_12.out.below s21.out BC_12.out.lt)
    have RD_13 := Lib.hid (RD_12.out.ext s21.out)
    have BD_13 := Lib.hid (BD_12.out.below s21.out BD_12.out.lt)
    have kW_13 := Lib.hid (kW0.out.trans ((s21.out).mono kW0.out.size))
    have RU_13 := Lib.hid (rU.out.ext s21.out)
    clear K_12 BM_12 BE_12 M_12 E_12 X_12 Y_12 RX_12 RY_12 kU_12 OA_12 RA_12 k8_12 BA_12 RB_12 BB_12 kC_12 RC_12 BC_12 RD_12 BD_12 kW0 rU
    have l21 : Hid (w20.heap.size < w22.heap.size) := Lib.hid R21.out.lt
    clear N21 n21 g21 s21
    have p0 : w22.cell? ⟨b7, 0, none⟩ = some (.int .u16 id) := (X_13.out.cell 0).trans rfl
    have p1 : w22.cell? ⟨b7, 1, none⟩ = some (.bool rs) := (X_13.out.cell 1).trans rfl
    have p2 : w22.cell? ⟨b7, 2, none⟩ = some (.int .i64 op) := (X_13.out.cell 2).trans rfl
    have p3 : w22.cell? ⟨b7, 3, none⟩ = some (.bool aa) := (X_13.out.cell 3).trans rfl
    have p4 : w22.cell? ⟨b7, 4, none⟩ = some (.bool tc) := (X_13.out.cell 4).trans rfl
    have p5 : w22.cell? ⟨b7, 5, none⟩ = some (.bool rd) := (X_13.out.cell 5).trans rfl
    have p6 : w22.cell? ⟨b7, 6, none⟩ = some (.bool ra) := (X_13.out.cell 6).trans rfl
    have p7 : w22.cell? ⟨b7, 7, none⟩ = some (.bool ad) := (X_13.out.cell 7).trans rfl
    have p8 : w22.cell? ⟨b7, 8, none⟩ = some (.bool cd) := (X_13.out.cell 8).trans rfl
    have p9 : w22.cell? ⟨b7, 9, none⟩ = some (.int .i64 rc) := (X_13.out.cell 9).trans rfl
    have p10 : w22.cell? ⟨b7, 10, none⟩ = some (.slice aq n0 cq) := (X_13.out.cell 10).trans rfl
    have p11 : w22.cell? ⟨b7, 11, none⟩ = some (.slice a1 n1 c1) := (X_13.out.cell 11).trans rfl
    have p12 : w22.cell? ⟨b7, 12, none⟩ = some (.slice a2 n2 c2) := (X_13.out.cell 12).trans rfl
    have p13 : w22.cell? ⟨b7, 13, none⟩ = some (.slice a3 n3 c3) := (X_13.out.cell 13).trans rfl
    have hw := Lib.hid (size_both RX_13.out.a3 hUX.out own (.int .u16 id) (.bool rs) (.int .i64 op) (.bool aa) (.bool tc) (.bool rd) (.bool ra) (.bool ad) (.bool cd) (.int .i64 rc) (.slice aq n0 cq) (.slice a1 n1 c1) (.slice a2 n2 c2))
    go_wp2_with fail
    refine hw.out.mono ?_
    rintro e w23 ⟨rfl, hb⟩
    clear p0 p1 p2 p3 p4 p5 p6 p7 p8 p9 p10 p11 p12 p13
    have K_14 := Lib.hid (K_13.out.trans ((hb).mono K_13.out.size))
    have BM_14 := Lib.hid (BM_13.out.below hb BM_13.out.lt)
    have BE_14 := Lib.hid (BE_13.out.below hb BE_13.out.lt)
    have M_14 := Lib.hid (M_13.out.ext hb)
    have E_14 := Lib.hid (E_13.out.ext hb)
    have X_14 := Lib.hid (X_13.out.below hb X_13.out.lt)
    have Y_14 := Lib.hid (Y_13.out.below hb Y_13.out.lt)
    have RX_14 := Lib.hid (RX_13.out.ext hb)
    have RY_14 := Lib.hid (RY_13.out.ext hb)
    have kU_14 := Lib.hid (kU_13.out.trans ((hb).mono kU_13.out.size))
    have OA_14 := Lib.hid (OA_13.out.ext hb)
    have RA_14 := Lib.hid (RA_13.out.ext hb)
    have k8_14 := Lib.hid (k8_13.out.trans ((hb).mono k8_13.out.size))
    have BA_14 := Lib.hid (BA_13.out.below hb BA_13.out.lt)
    have RB_14 := Lib.hid (RB_13.out.ext hb)
    have BB_14 := Lib.hid (BB_13.out.below hb BB_13.out.lt)
    have kC_14 := Lib.hid (kC_13.out.trans ((hb).mono kC_13.out.size))
    have RC_14 := Lib.hid (RC_13.out.ext hb)
    have BC_14 := Lib.hid (BC_13.out.below hb BC_13.out.lt)
    have RD_14 := Lib.hid (RD_13.out.ext hb)
    have BD_14 := Lib.hid (BD_13.out.below hb BD_13.out.lt)
    have kW_14 := Lib.hid (kW_13.out.trans ((hb).mono kW_13.out.size))
    have RU_14 := Lib.hid (RU_13.out.ext hb)
    have BU_14 := Lib.hid (R21.out.below hb R21.out.lt)
    clear K_13 BM_13 BE_13 M_13 E_13 X_13 Y_13 RX_13 RY_13 kU_13 OA_13 RA_13 k8_13 BA_13 RB_13 BB_13 kC_13 RC_13 BC_13 RD_13 BD_13 kW_13 RU_13 R21
    clear hb hw
    have p0 : w23.cell? ⟨w.heap.size, 0, none⟩ = some (.int .u16 id) := (BM_14.out.cell 0).trans rfl
    have p1 : w23.cell? ⟨w.heap.size, 1, none⟩ = some (.bool rs) := (BM_14.out.cell 1).trans rfl
    have p2 : w23.cell? ⟨w.heap.size, 2, none⟩ = some (.int .i64 op) := (BM_14.out.cell 2).trans rfl
    have p3 : w23.cell? ⟨w.heap.size, 3, none⟩ = some (.bool aa) := (BM_14.out.cell 3).trans rfl
    have p4 : w23.cell? ⟨w.heap.size, 4, none⟩ = some (.bool tc) := (BM_14.out.cell 4).trans rfl
    have p5 : w23.cell? ⟨w.heap.size, 5, none⟩ = some (.bool rd) := (BM_14.out.cell 5).trans rfl
    have p6 : w23.cell? ⟨w.heap.size, 6, none⟩ = some (.bool ra) := (BM_14.out.cell 6).trans rfl
    have p7 : w23.cell? ⟨w.heap.size, 7, none⟩ = some (.bool ad) := (BM_14.out.cell 7).trans rfl
    have p8 : w23.cell? ⟨w.heap.size, 8, none⟩ = some (.bool cd) := (BM_14.out.cell 8).trans rfl
    have p9 : w23.cell? ⟨w.heap.size, 9, none⟩ = some (.int .i64 rc) := (BM_14.out.cell 9).trans rfl
    have p10 : w23.cell? ⟨w.heap.size, 10, none⟩ = some (.slice qa qn qc) := (BM_14.out.cell 10).trans rfl
    have p11 : w23.cell? ⟨w.heap.size, 11, none⟩ = some (.slice an nn1 nc1) := (BM_14.out.cell 11).trans rfl
    have p12 : w23.cell? ⟨w.heap.size, 12, none⟩ = some (.slice au nn2 nc2) := (BM_14.out.cell 12).trans rfl
    have p13 : w23.cell? ⟨w.heap.size, 13, none⟩ = some (.slice ad3 nn3 nc3) := (BM_14.out.cell 13).trans rfl
    have hw := Lib.hid (ref_size M_14.out.a3 hU.out own (.int .u16 id) (.bool rs) (.int .i64 op) (.bool aa) (.bool tc) (.bool rd) (.bool ra) (.bool ad) (.bool cd) (.int .i64 rc) (.slice qa qn qc) (.slice an nn1 nc1) (.slice au nn2 nc2))
    go_wp2_with fail
    refine hw.out.mono ?_
    rintro e w24 ⟨rfl, hb⟩
    clear p0 p1 p2 p3 p4 p5 p6 p7 p8 p9 p10 p11 p12 p13
    have K_15 := Lib.hid (K_14.out.trans ((hb).mono K_14.out.size))
    have BM_15 := Lib.hid (BM_14.out.below hb BM_14.out.lt)
    have BE_15 := Lib.hid (BE_14.out.below hb BE_14.out.lt)
    have M_15 := Lib.hid (M_14.out.ext hb)
    have E_15 := Lib.hid (E_14.out.ext hb)
    have X_15 := Lib.hid (X_14.out.below hb X_14.out.lt)
    have Y_15 := Lib.hid (Y_14.out.below hb Y_14.out.lt)
    have RX_15 := Lib.hid (RX_14.out.ext hb)
    have RY_15 := Lib.hid (RY_14.out.ext hb)
    have kU_15 := Lib.hid (kU_14.out.trans ((hb).mono kU_14.out.size))
    have OA_15 := Lib.hid (OA_14.out.ext hb)
    have RA_15 := Lib.hid (RA_14.out.ext hb)
    have k8_15 := Lib.hid (k8_14.out.trans ((hb).mono k8_14.out.size))
    have BA_15 := Lib.hid (BA_14.out.below hb BA_14.out.lt)
    have RB_15 := Lib.hid (RB_14.out.ext hb)
    have BB_15 := Lib.hid (BB_14.out.below hb BB_14.out.lt)
    have kC_15 := Lib.hid (kC_14.out.trans ((hb).mono kC_14.out.size))
    have RC_15 := Lib.hid (RC_14.out.ext hb)
    have BC_15 := Lib.hid (BC_14.out.below hb BC_14.out.lt)
    have RD_15 := Lib.hid (RD_14.out.ext hb)
    have BD_15 := Lib.hid (BD_14.out.below hb BD_14.out.lt)
    have kW_15 := Lib.hid (kW_14.out.trans ((hb).mono kW_14.out.size))
    have RU_15 := Lib.hid (RU_14.out.ext hb)
    have BU_15 := Lib.hid (BU_14.out.below hb BU_14.out.lt)
    clear K_14 BM_14 BE_14 M_14 E_14 X_14 Y_14 RX_14 RY_14 kU_14 OA_14 RA_14 k8_14 BA_14 RB_14 BB_14 kC_14 RC_14 BC_14 RD_14 BD_14 kW_14 RU_14 BU_14
    clear hb hw
    go_upto_region 11 with (fail)
    have h11a : Hid (∀ V, Below w24.heap.size w24 V → Calls Try.prog 16 #[.agg #[.int .i64 sC, .int .i64 iC, .int .i64 vC, .bool dC, .slice u1 nA u2], .agg #[.int .i64 sC, .int .i64 iC, .int .i64 vC, .bool dC, .slice u3 nA u4]] V fun e w' => e = .returned (.bool true) ∧ Below V.heap.size V w') := Lib.hid (fun V hV => same_edns (RA_15.out.ext hV) (RB_15.out.ext hV) sC iC vC dC)
    have h11b : Hid (∀ V, Below w24.heap.size w24 V → Calls Try.prog 30 #[.agg #[.int .u16 id, .bool rs, .int .i64 op, .bool aa, .bool tc, .bool rd, .bool ra, .bool ad, .bool cd, .int .i64 rc, .slice dq n0 eq, .slice d1 n1 e1, .slice d2 n2 e2, .slice d3 n4 e3], .agg #[.int .u16 id, .bool rs, .int .i64 op, .bool aa, .bool tc, .bool rd, .bool ra, .bool ad, .bool cd, .int .i64 rc, .slice qa qn qc, .slice an nn1 nc1, .slice au nn2 nc2, .slice f3 n4 g3]] V fun e w' => e = .returned (.bool true) ∧ Below V.heap.size V w') := Lib.hid (fun V hV => same_msg (RC_15.out.ext hV) (RdM.mk (M_15.out.ext hV).q (M_15.out.ext hV).a1 (M_15.out.ext hV).a2 (RD_15.out.ext hV)) (eC.out.1.trans eX.out.1) (eC.out.2.1.trans eX.out.2.1) (eC.out.2.2.1.trans eX.out.2.2.1) (by rw [eC.out.2.2.2, List.map_append, List.map_append, eX.out.2.2.2]; rfl) id rs op aa tc rd ra ad cd rc)
    have h11c := Lib.hid (fun (V : World) (hV : Below w24.heap.size w24 V) => ref_wo_same (M_15.out.ext hV) (RU_15.out.ext hV) (zq_meta A3 Q3 L3 RX0.out.a3.2.1 eX.out.2.2.2).2 (eU.out.1.trans eX.out.1) (eU.out.2.1.trans eX.out.2.1) (eU.out.2.2.1.trans eX.out.2.2.1) (eU.out.2.2.2.trans (zq_meta A3 Q3 L3 RX0.out.a3.2.1 eX.out.2.2.2).1) id rs op aa tc rd ra ad cd rc)
    have fitC := Lib.hid (And.intro RX0.out.q.fit (And.intro RX0.out.a1.fit (And.intro RX0.out.a2.fit (fit_snoc (d := d) RX0.out.a3.fit (by have h7 := RX0.out.a3.1.len; have h8 := hnn.out; omega) hg'.out))))
    have hn6 : Hid (n6 ≤ n3) := Lib.hid (by rw [← hn6'.out, zQ_eq A3 L3 RX0.out.a3.2.1, ← RX0.out.a3.1.len]; exact List.length_filter_le _ _)
    have hnA2 : Hid (nA ≤ 9223372036854775807) := Lib.hid (by have h := RA_15.out.most; unfold maxLen at h; omega)
    have hq0 : Hid (n0 ≤ 1152921504606846976) := Lib.hid (by have h := RX0.out.q.2.2.1; unfold reachBytes at h; omega)
    refine reg11 _ _ _ _ _ _ _ _ _ _ _ _ _ _ _ _ _ _ _ _ _ _ _ _ _ _ _ _ _ _ _ _ _ _ _ _ _ _ _ _ _ _ _ _ _ _ _ _ _ _ _ _ _ _ _ _ _ _ _ _ _ _ _ _ _ _ _ _ _ _ _ _ _ _ _ _ _ _ _ _ _ _ _ _ _ _ _ _ _ _ _ _ _ _ _ _ _ _ _ _ _ _ _ _ _ _ _ _ _ _ _ _ _ _ _ _ _ _ _ _ _ _ _ _ _ _ _ _ _ _ BA_15.out _ _ _ _ _ BB_15.out _ _ _ _ _ _ _ _ _ _ _ _ _ _ BC_15.out _ _ _ _ _ _ _ _ _ _ _ _ _ _ BD_15.out _ _ _ _ _ _ _ _ _ _ _ _ _ _ BU_15.out _ _ _ _ _ _ _ _ _ _ _ _ _ _ BM_15.out h11a.out h11b.out h11c.out ?_
    intro y0_ y1_ y2_ y3_ y4_ y5_ y6_ y7_ y8_ y9_ y10_ y11_ y12_ y13_ y14_ y15_ y16_ y17_ y18_ y19_ y20_ y21_ y22_ y23_ y24_ y25_ y26_ y27_ y28_ y29_ y30_ y31_ y32_ y33_ y34_ y35_ y36_ y37_ y38_ V hV
    dsimp only
    clear K_15
    clear BM_15
    clear BE_15
    clear M_15
    clear E_15
    clear X_15
    clear Y_15
    clear RX_15
    clear RY_15
    clear RA_15
    clear RB_15
    clear BB_15
    clear RC_15
    clear RD_15
    clear BD_15
    clear RU_15
    clear h11a h11b h11c
    have kU_16 := Lib.hid (kU_15.out.trans ((hV).mono kU_15.out.size))
    have OA_16 := Lib.hid (OA_15.out.ext hV)
    have k8_16 := Lib.hid (k8_15.out.trans ((hV).mono k8_15.out.size))
    have BA_16 := Lib.hid (BA_15.out.below hV BA_15.out.lt)
    have kC_16 := Lib.hid (kC_15.out.trans ((hV).mono kC_15.out.size))
    have BC_16 := Lib.hid (BC_15.out.below hV BC_15.out.lt)
    have kW_16 := Lib.hid (kW_15.out.trans ((hV).mono kW_15.out.size))
    have BU_16 := Lib.hid (BU_15.out.below hV BU_15.out.lt)
    clear kU_15 OA_15 k8_15 BA_15 kC_15 BC_15 kW_15 BU_15
    clear hV
    have p0 : V.cell? ⟨w8.heap.size, 0, none⟩ = some (.int .i64 sC) := (BA_16.out.cell 0).trans rfl
    have p1 : V.cell? ⟨w8.heap.size, 1, none⟩ = some (.int .i64 iC) := (BA_16.out.cell 1).trans rfl
    have p2 : V.cell? ⟨w8.heap.size, 2, none⟩ = some (.int .i64 vC) := (BA_16.out.cell 2).trans rfl
    have p3 : V.cell? ⟨w8.heap.size, 3, none⟩ = some (.bool dC) := (BA_16.out.cell 3).trans rfl
    have p4 : V.cell? ⟨w8.heap.size, 4, none⟩ = some (.slice u1 nA u2) := (BA_16.out.cell 4).trans rfl
    have hov := Lib.hid (over_edns2 OA_16.out k8_16.out.size hnA2.out sC iC vC dC)
    unfold eV at hov
    go_wp2_with fail
    refine hov.out.mono ?_
    rintro e o1 ⟨rfl, hT⟩
    clear p0 p1 p2 p3 p4
    have kU1 := Lib.hid (kU_16.out.trans (hT.below (B := U.heap.size) kU_16.out.size (fun b _ h => h.1)))
    have BC1 := Lib.hid (hT.blk BC_16.out (fun h => by have h1 := h.2; have h2 := z14.out; omega))
    have BU1 := Lib.hid (hT.blk BU_16.out (fun h => by have h1 := h.2; have h2 := z9.out; omega))
    have WC1 : Hid (Win w14 o1 w13.heap.size) := Lib.hid ((Win.below kC_16.out).trans (Win.tch hT (fun k h1 h2 h3 => by have h4 := h3.2; have h5 := z8.out; omega)) kC_16.out.size)
    have WU1 : Hid (Win w20 o1 w19.heap.size) := Lib.hid ((Win.below kW_16.out).trans (Win.tch hT (fun k h1 h2 h3 => by have h4 := h3.2; have h5 := z9.out; omega)) kW_16.out.size)
    have sU1 : Hid (w20.heap.size ≤ o1.heap.size) := Lib.hid (Nat.le_trans kW_16.out.size hT.size)
    clear hT hov
    clear kU_16
    clear OA_16
    clear k8_16
    clear BA_16
    clear kC_16
    clear BC_16
    clear kW_16
    clear BU_16
    have hov := Lib.hid (over_own_msg omC.out.q omC.out.a1 omC.out.a2 omC.out.a3 fitC.out.1 fitC.out.2.1 fitC.out.2.2.1 fitC.out.2.2.2 (by have h8 := hnn.out; have h9 := hn4'.out; omega) hq0.out WC1.out (.int .u16 id) (.bool rs) (.int .i64 op) (.bool aa) (.bool tc) (.bool rd) (.bool ra) (.bool ad) (.bool cd) (.int .i64 rc))
    have p0 : o1.cell? ⟨w14.heap.size, 0, none⟩ = some (.int .u16 id) := (BC1.out.cell 0).trans rfl
    have p1 : o1.cell? ⟨w14.heap.size, 1, none⟩ = some (.bool rs) := (BC1.out.cell 1).trans rfl
    have p2 : o1.cell? ⟨w14.heap.size, 2, none⟩ = some (.int .i64 op) := (BC1.out.cell 2).trans rfl
    have p3 : o1.cell? ⟨w14.heap.size, 3, none⟩ = some (.bool aa) := (BC1.out.cell 3).trans rfl
    have p4 : o1.cell? ⟨w14.heap.size, 4, none⟩ = some (.bool tc) := (BC1.out.cell 4).trans rfl
    have p5 : o1.cell? ⟨w14.heap.size, 5, none⟩ = some (.bool rd) := (BC1.out.cell 5).trans rfl
    have p6 : o1.cell? ⟨w14.heap.size, 6, none⟩ = some (.bool ra) := (BC1.out.cell 6).trans rfl
    have p7 : o1.cell? ⟨w14.heap.size, 7, none⟩ = some (.bool ad) := (BC1.out.cell 7).trans rfl
    have p8 : o1.cell? ⟨w14.heap.size, 8, none⟩ = some (.bool cd) := (BC1.out.cell 8).trans rfl
    have p9 : o1.cell? ⟨w14.heap.size, 9, none⟩ = some (.int .i64 rc) := (BC1.out.cell 9).trans rfl
    have p10 : o1.cell? ⟨w14.heap.size, 10, none⟩ = some (.slice dq n0 eq) := (BC1.out.cell 10).trans rfl
    have p11 : o1.cell? ⟨w14.heap.size, 11, none⟩ = some (.slice d1 n1 e1) := (BC1.out.cell 11).trans rfl
    have p12 : o1.cell? ⟨w14.heap.size, 12, none⟩ = some (.slice d2 n2 e2) := (BC1.out.cell 12).trans rfl
    have p13 : o1.cell? ⟨w14.heap.size, 13, none⟩ = some (.slice d3 n4 e3) := (BC1.out.cell 13).trans rfl
    go_wp2_with fail
    refine hov.out.mono ?_
    rintro e o2 ⟨rfl, hT⟩
    clear p0 p1 p2 p3 p4 p5 p6 p7 p8 p9 p10 p11 p12 p13
    have kU2 := Lib.hid (kU1.out.trans (hT.below (B := U.heap.size) kU1.out.size (fun b _ h => Nat.le_trans z8.out.2.1 h.1)))
    have BU2 := Lib.hid (hT.blk BU1.out (fun h => by have h1 := h.2; have h2 := z9.out; omega))
    have WU2 : Hid (Win w20 o2 w19.heap.size) := Lib.hid (WU1.out.trans (Win.tch hT (fun k h1 h2 h3 => by have h4 := h3.2; have h5 := z9.out; omega)) sU1.out)
    clear hT hov kU1 BC1 BU1 WU1 WC1
    have hov := Lib.hid (over_own_msg omU.out.q omU.out.a1 omU.out.a2 omU.out.a3 RX0.out.q.fit RX0.out.a1.fit RX0.out.a2.fit RX0.out.a3.fit.zf (by have h8 := hnn.out; have h9 := hn6.out; omega) hq0.out WU2.out (.int .u16 id) (.bool rs) (.int .i64 op) (.bool aa) (.bool tc) (.bool rd) (.bool ra) (.bool ad) (.bool cd) (.int .i64 rc))
    have p0 : o2.cell? ⟨w20.heap.size, 0, none⟩ = some (.int .u16 id) := (BU2.out.cell 0).trans rfl
    have p1 : o2.cell? ⟨w20.heap.size, 1, none⟩ = some (.bool rs) := (BU2.out.cell 1).trans rfl
    have p2 : o2.cell? ⟨w20.heap.size, 2, none⟩ = some (.int .i64 op) := (BU2.out.cell 2).trans rfl
    have p3 : o2.cell? ⟨w20.heap.size, 3, none⟩ = some (.bool aa) := (BU2.out.cell 3).trans rfl
    have p4 : o2.cell? ⟨w20.heap.size, 4, none⟩ = some (.bool tc) := (BU2.out.cell 4).trans rfl
    have p5 : o2.cell? ⟨w20.heap.size, 5, none⟩ = some (.bool rd) := (BU2.out.cell 5).trans rfl
    have p6 : o2.cell? ⟨w20.heap.size, 6, none⟩ = some (.bool ra) := (BU2.out.cell 6).trans rfl
    have p7 : o2.cell? ⟨w20.heap.size, 7, none⟩ = some (.bool ad) := (BU2.out.cell 7).trans rfl
    have p8 : o2.cell? ⟨w20.heap.size, 8, none⟩ = some (.bool cd) := (BU2.out.cell 8).trans rfl
    have p9 : o2.cell? ⟨w20.heap.size, 9, none⟩ = some (.int .i64 rc) := (BU2.out.cell 9).trans rfl
    have p10 : o2.cell? ⟨w20.heap.size, 10, none⟩ = some (.slice gq n0 hq_) := (BU2.out.cell 10).trans rfl
    have p11 : o2.cell? ⟨w20.heap.size, 11, none⟩ = some (.slice g1 n1 h1_) := (BU2.out.cell 11).trans rfl
    have p12 : o2.cell? ⟨w20.heap.size, 12, none⟩ = some (.slice g2 n2 h2_) := (BU2.out.cell 12).trans rfl
    have p13 : o2.cell? ⟨w20.heap.size, 13, none⟩ = some (.slice g3_ n6 h3_) := (BU2.out.cell 13).trans rfl
    go_wp2_with fail
    refine hov.out.mono ?_
    rintro e o3 ⟨rfl, hT⟩
    clear p0 p1 p2 p3 p4 p5 p6 p7 p8 p9 p10 p11 p12 p13
    have kU3 := Lib.hid (kU2.out.trans (hT.below (B := U.heap.size) kU2.out.size (fun b _ h => Nat.le_trans z9.out.2.1 h.1)))
    clear hT hov kU2 BU2 WU2
    have X3 := Lib.hid (X0.out.below kU3.out X0.out.lt)
    have Y3 := Lib.hid (Y0.out.below kU3.out Y0.out.lt)
    have BM3 := Lib.hid (BM0.out.below kU3.out BM0.out.lt)
    have BE3 := Lib.hid (BE0.out.below kU3.out BE0.out.lt)
    have p0 : o3.cell? ⟨b7, 0, none⟩ = some (.int .u16 id) := (X3.out.cell 0).trans rfl
    have p1 : o3.cell? ⟨b7, 1, none⟩ = some (.bool rs) := (X3.out.cell 1).trans rfl
    have p2 : o3.cell? ⟨b7, 2, none⟩ = some (.int .i64 op) := (X3.out.cell 2).trans rfl
    have p3 : o3.cell? ⟨b7, 3, none⟩ = some (.bool aa) := (X3.out.cell 3).trans rfl
    have p4 : o3.cell? ⟨b7, 4, none⟩ = some (.bool tc) := (X3.out.cell 4).trans rfl
    have p5 : o3.cell? ⟨b7, 5, none⟩ = some (.bool rd) := (X3.out.cell 5).trans rfl
    have p6 : o3.cell? ⟨b7, 6, none⟩ = some (.bool ra) := (X3.out.cell 6).trans rfl
    have p7 : o3.cell? ⟨b7, 7, none⟩ = some (.bool ad) := (X3.out.cell 7).trans rfl
    have p8 : o3.cell? ⟨b7, 8, none⟩ = some (.bool cd) := (X3.out.cell 8).trans rfl
    have p9 : o3.cell? ⟨b7, 9, none⟩ = some (.int .i64 rc) := (X3.out.cell 9).trans rfl
    have p10 : o3.cell? ⟨b7, 10, none⟩ = some (.slice aq n0 cq) := (X3.out.cell 10).trans rfl
    have p11 : o3.cell? ⟨b7, 11, none⟩ = some (.slice a1 n1 c1) := (X3.out.cell 11).trans rfl
    have p12 : o3.cell? ⟨b7, 12, none⟩ = some (.slice a2 n2 c2) := (X3.out.cell 12).trans rfl
    have p13 : o3.cell? ⟨b7, 13, none⟩ = some (.slice a3 n3 c3) := (X3.out.cell 13).trans rfl
    have q0 : o3.cell? ⟨w.heap.size, 0, none⟩ = some (.int .u16 id) := (BM3.out.cell 0).trans rfl
    have q1 : o3.cell? ⟨w.heap.size, 1, none⟩ = some (.bool rs) := (BM3.out.cell 1).trans rfl
    have q2 : o3.cell? ⟨w.heap.size, 2, none⟩ = some (.int .i64 op) := (BM3.out.cell 2).trans rfl
    have q3 : o3.cell? ⟨w.heap.size, 3, none⟩ = some (.bool aa) := (BM3.out.cell 3).trans rfl
    have q4 : o3.cell? ⟨w.heap.size, 4, none⟩ = some (.bool tc) := (BM3.out.cell 4).trans rfl
    have q5 : o3.cell? ⟨w.heap.size, 5, none⟩ = some (.bool rd) := (BM3.out.cell 5).trans rfl
    have q6 : o3.cell? ⟨w.heap.size, 6, none⟩ = some (.bool ra) := (BM3.out.cell 6).trans rfl
    have q7 : o3.cell? ⟨w.heap.size, 7, none⟩ = some (.bool ad) := (BM3.out.cell 7).trans rfl
    have q8 : o3.cell? ⟨w.heap.size, 8, none⟩ = some (.bool cd) := (BM3.out.cell 8).trans rfl
    have q9 : o3.cell? ⟨w.heap.size, 9, none⟩ = some (.int .i64 rc) := (BM3.out.cell 9).trans rfl
    have q10 : o3.cell? ⟨w.heap.size, 10, none⟩ = some (.slice qa qn qc) := (BM3.out.cell 10).trans rfl
    have q11 : o3.cell? ⟨w.heap.size, 11, none⟩ = some (.slice an nn1 nc1) := (BM3.out.cell 11).trans rfl
    have q12 : o3.cell? ⟨w.heap.size, 12, none⟩ = some (.slice au nn2 nc2) := (BM3.out.cell 12).trans rfl
    have q13 : o3.cell? ⟨w.heap.size, 13, none⟩ = some (.slice ad3 nn3 nc3) := (BM3.out.cell 13).trans rfl
    have hsm := Lib.hid (same_msg (RX0.out.ext kU3.out) (M0.out.ext kU3.out) eX.out.1 eX.out.2.1 eX.out.2.2.1 eX.out.2.2.2 id rs op aa tc rd ra ad cd rc)
    go_wp2_with fail
    refine hsm.out.mono ?_
    rintro e o4 ⟨rfl, hb⟩
    clear hsm p0 p1 p2 p3 p4 p5 p6 p7 p8 p9 p10 p11 p12 p13 q0 q1 q2 q3 q4 q5 q6 q7 q8 q9 q10 q11 q12 q13
    have Y4 := Lib.hid (Y3.out.below hb Y3.out.lt)
    have BE4 := Lib.hid (BE3.out.below hb BE3.out.lt)
    have kU4 := Lib.hid (kU3.out.trans (hb.mono kU3.out.size))
    clear hb kU3 X3 BM3 Y3 BE3
    have p0 : o4.cell? ⟨b8, 0, none⟩ = some (.int .i64 sz) := (Y4.out.cell 0).trans rfl
    have p1 : o4.cell? ⟨b8, 1, none⟩ = some (.int .i64 hi) := (Y4.out.cell 1).trans rfl
    have p2 : o4.cell? ⟨b8, 2, none⟩ = some (.int .i64 ver) := (Y4.out.cell 2).trans rfl
    have p3 : o4.cell? ⟨b8, 3, none⟩ = some (.bool d) := (Y4.out.cell 3).trans rfl
    have p4 : o4.cell? ⟨b8, 4, none⟩ = some (.slice ao n5 co) := (Y4.out.cell 4).trans rfl
    have q0 : o4.cell? ⟨W1.heap.size, 0, none⟩ = some (.int .i64 sz) := (BE4.out.cell 0).trans rfl
    have q1 : o4.cell? ⟨W1.heap.size, 1, none⟩ = some (.int .i64 hi) := (BE4.out.cell 1).trans rfl
    have q2 : o4.cell? ⟨W1.heap.size, 2, none⟩ = some (.int .i64 ver) := (BE4.out.cell 2).trans rfl
    have q3 : o4.cell? ⟨W1.heap.size, 3, none⟩ = some (.bool d) := (BE4.out.cell 3).trans rfl
    have q4 : o4.cell? ⟨W1.heap.size, 4, none⟩ = some (.slice a n c) := (BE4.out.cell 4).trans rfl
    have hse := Lib.hid (same_edns (RY0.out.ext kU4.out) (E0.out.ext kU4.out) sz hi ver d)
    unfold eV at hse
    go_wp2_with fail
    refine hse.out.mono ?_
    rintro e o5 ⟨rfl, hb⟩
    clear hse p0 p1 p2 p3 p4 q0 q1 q2 q3 q4
    have kF := Lib.hid (K0.out.trans ((kU4.out.trans (hb.mono kU4.out.size)).mono K0.out.size))
    clear hb kU4 Y4 BE4
    go_wp2_with fail
    go_ret
    exact ⟨rfl, kF.out⟩
end Go.Proofs.Ythgnlbdolilklaa
