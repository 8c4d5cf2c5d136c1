/- What Of told is written over, however long. EdnsMessages: what the document's Without tells is told the same; printed by gen_ems.py. -/
import Derived.Test.YthgnlbdolilklaaOvE
import Derived.Test.YthgnlbdolilklaaEmR
namespace Go.Proofs.Ythgnlbdolilklaa
open Go Go.RowKit
set_option maxHeartbeats 4000000 in
set_option maxRecDepth 100000 in
theorem over_edns2 {w : World} {base hi n c : Nat} {a : Option Addr} (h : OX w base hi (.slice a n c) n) (hhw : hi ≤ w.heap.size) (hn : n ≤ 9223372036854775807) (sz hi0 ver : Int) (d : Bool) :
    Calls Try.prog 17 #[eV sz hi0 ver d (.slice a n c)] w fun e w' => e = .returned (.tuple #[]) ∧ Tch (Rg base hi) w w' := by
  unfold eV
  obtain ⟨W1, hW1⟩ : ∃ W1, w.alloc (.cells #[.int .i64 sz, .int .i64 hi0, .int .i64 ver, .bool d, .slice a n c] 24) = W1 := ⟨_, rfl⟩
  have B1 : Hid (Blk W1 w.heap.size 24 (0, 0) [.int .i64 sz, .int .i64 hi0, .int .i64 ver, .bool d, .slice a n c]) := Lib.hid (by rw [← hW1]; exact Blk.new w 24 (0, 0) #[.int .i64 sz, .int .i64 hi0, .int .i64 ver, .bool d, .slice a n c])
  have k1 : Hid (Below w.heap.size w W1) := Lib.hid (by rw [← hW1]; exact alloc_bel _ _)
  have hO1 := Lib.hid (h.ext k1.out)
  have hT1 : Hid (Tch (Rg base hi) w W1) := Lib.hid (Tch.of_below k1.out)
  clear h
  go_enter Try.func17, Try.ntmps17
  go_wp2_with fail
  try rw [hW1]
  clear hW1
  go_loopw [2] (fun i wr => ∃ k : Nat, k ≤ n ∧ i = .int .i64 k ∧ Hid (OX wr base hi (.slice a n c) n) ∧ Hid (Tch (Rg base hi) w wr) ∧ Hid (Blk wr w.heap.size 24 (0, 0) [.int .i64 sz, .int .i64 hi0, .int .i64 ver, .bool d, .slice a n c])) (fun i _ => n - (intOf i).toNat)
  case atStart => exact ⟨0, Nat.zero_le _, rfl, hO1, hT1, B1⟩
  case round =>
    clear hO1 hT1 B1 k1
    obtain ⟨k, hk, rfl, hO, hT, hB⟩ := hrel
    have p4 : wr.cell? ⟨w.heap.size, 4, none⟩ = some (.slice a n c) := (hB.out.cell 4).trans rfl
    by_cases hlt : k < n
    · obtain ⟨g, c1, a', n', c', l, rfl, hgb, hgh, q0, qf, q1, hD, hDh⟩ := hO.out.at_ hlt
      have hD' := Lib.hid hD
      have hDh' := Lib.hid hDh
      clear hD hDh
      have hkI : (k : Int) < n := by omega
      have hk0 : 0 ≤ (k : Int) := by omega
      go_wp2_with fail
      refine (over_own2 hD'.out).mono ?_
      rintro e w2 ⟨rfl, hg2, hkeep⟩
      have hbyte : ∀ j, (Value.slice a' n' c').ownBlock = some j → ∃ C, Blk wr j 5 (0, 0) C := own_blkE hD'.out
      have hO2 := Lib.hid (hO.out.bytes hg2 hbyte hkeep)
      have hT2 : Hid (Tch (Rg base hi) w w2) := Lib.hid (hT.out.trans (Tch.of_grown (S := Rg base hi) hg2 (fun j hj => ⟨(hD'.out.lt j hj).1, hDh'.out j hj⟩)) (fun _ _ h => h))
      have hB2 : Hid (Blk w2 w.heap.size 24 (0, 0) [.int .i64 sz, .int .i64 hi0, .int .i64 ver, .bool d, .slice (some ⟨g, 0, none⟩) n c]) := Lib.hid (blk_own hB.out hD'.out (by decide) hg2)
      clear hg2 hkeep hbyte hO hT hB p4 q0 qf q1 hD' hDh'
      obtain ⟨g2, c2, a2, n2, cc2, l2, e2, _, _, q0, qf, q1, _, _⟩ := hO2.out.at_ hlt
      cases e2
      have p4 : w2.cell? ⟨w.heap.size, 4, none⟩ = some (.slice (some ⟨g, 0, none⟩) n c) := (hB2.out.cell 4).trans rfl
      clear q1
      go_upto_region 5 with (fail)
      go_region
      obtain ⟨y, hy⟩ : ∃ y : Nat, bits BinOp.xor IntKind.u16 (if IntKind.u16.signed = true then -1 else IntKind.u16.max) (c2 : Int) = (y : Int) := ⟨_, (Int.toNat_of_nonneg (bits_lo_u16 _ _ _)).symm⟩
      rw [hy]
      obtain ⟨V, hV⟩ : ∃ V, (w2.setCell ⟨g, k * 2, none⟩ (.int .u16 (y : Nat))).drew = V := ⟨_, rfl⟩
      rw [hV]
      have yO : Hid (OX V base hi (.slice (some ⟨g, 0, none⟩) n c) n) := Lib.hid (by rw [← hV]; exact (hO2.out.code hlt y).ext (Below.refl _ _).drew)
      have yT : Hid (Tch (Rg base hi) w V) := Lib.hid (by rw [← hV]; exact (hT2.out.trans (Tch.setCell (S := Rg base hi) w2 (p := ⟨g, k * 2, none⟩) ⟨hgb, hgh⟩ _) (fun _ _ h => h)).trans (Tch.drew (Rg base hi) _) (fun _ _ h => h))
      have yB : Hid (Blk V w.heap.size 24 (0, 0) [.int .i64 sz, .int .i64 hi0, .int .i64 ver, .bool d, .slice (some ⟨g, 0, none⟩) n c]) := Lib.hid (by rw [← hV]; exact hB2.out.setOther (by intro e; simp at e; omega) _)
      clear hV hy hO2 hT2 hB2 q0 qf p4
      go_wp2_with fail
      go_roundw
      case rel => exact ⟨k + 1, by omega, by go_num, yO, yT, yB⟩
      case measure => simp [intOf]; omega
    · have hk' : k = n := by omega
      subst hk'
      go_wp2_with fail
      go_end0
      exact ⟨rfl, hT.out⟩
end Go.Proofs.Ythgnlbdolilklaa
namespace Go.Proofs.Ythgnlbdolilklaa
open Go Go.RowKit
set_option maxRecDepth 100000 in
theorem ref_wo_same {V : World} {qa : Option Addr} {qn qc : Nat} {QS : List QD} {NS : List Nm} {an : Option Addr} {nn1 nc1 : Nat} {Q1 : List RD} {L1 : List RL} {au : Option Addr} {nn2 nc2 : Nat} {Q2 : List RD} {L2 : List RL} {ad3 : Option Addr} {nn3 nc3 : Nat} {Q3 : List RD} {L3 : List RL}
    {gq : Option Addr} {n0 hq : Nat} {qU : List QD} {g1 : Option Addr} {n1 h1 : Nat} {U1 : List RD} {g2 : Option Addr} {n2 h2 : Nat} {U2 : List RD} {g3 : Option Addr} {n6 h3 : Nat} {U3 : List RD} {LU : List RL}
    (hM : RdM V qa qn qc QS NS an nn1 nc1 Q1 L1 au nn2 nc2 Q2 L2 ad3 nn3 nc3 Q3 L3) (hU : RdM V gq n0 hq qU NS g1 n1 h1 U1 L1 g2 n2 h2 U2 L2 g3 n6 h3 U3 LU) (hl : LU = zL Q3 L3)
    (e0 : qU.map metaQ = QS.map metaQ) (e1 : U1.map metaR = Q1.map metaR) (e2 : U2.map metaR = Q2.map metaR) (e3 : U3.map metaR = (zQ Q3 L3).map metaR) (id : Int) (rs : Bool) (op : Int) (aa tc rd ra ad cd : Bool) (rc : Int) :
    Calls Try.prog 31 #[.agg #[.int .u16 id, .bool rs, .int .i64 op, .bool aa, .bool tc, .bool rd, .bool ra, .bool ad, .bool cd, .int .i64 rc, .slice qa qn qc, .slice an nn1 nc1, .slice au nn2 nc2, .slice ad3 nn3 nc3]] V fun e w' => ∃ v, (e = .returned v ∧ Below V.heap.size V w') ∧ (Calls Try.prog 30 #[.agg #[.int .u16 id, .bool rs, .int .i64 op, .bool aa, .bool tc, .bool rd, .bool ra, .bool ad, .bool cd, .int .i64 rc, .slice gq n0 hq, .slice g1 n1 h1, .slice g2 n2 h2, .slice g3 n6 h3], v] w' fun e w'' => e = .returned (.bool true) ∧ Below w'.heap.size w' w'') := by
  subst hl
  have hr := ref_without hM.a3 (.int .u16 id) (.bool rs) (.int .i64 op) (.bool aa) (.bool tc) (.bool rd) (.bool ra) (.bool ad) (.bool cd) (.int .i64 rc) (.slice qa qn qc) (.slice an nn1 nc1) (.slice au nn2 nc2) rfl
  refine hr.mono ?_
  rintro e W ⟨⟨v, rfl, ov⟩, mm⟩
  obtain ⟨a4, c4, rfl, rW⟩ := zq_rd (hM.ext mm).a3 ov
  have mV := hM.ext mm
  have rV := hU.ext mm
  have rM : RdM W qa qn qc QS NS an nn1 nc1 Q1 L1 au nn2 nc2 Q2 L2 a4 (zQ Q3 L3).length c4 (zQ Q3 L3) (zL Q3 L3) := ⟨mV.q, mV.a1, mV.a2, rW⟩
  have hs := same_msg rV rM e0 e1 e2 e3 id rs op aa tc rd ra ad cd rc
  exact ⟨_, ⟨rfl, mm⟩, hs⟩
end Go.Proofs.Ythgnlbdolilklaa
