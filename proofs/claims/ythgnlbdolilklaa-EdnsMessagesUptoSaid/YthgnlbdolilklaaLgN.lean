/- Is a message more than is gone through: with the bound on its records. Printed out of LgM. -/
import Derived.Test.YthgnlbdolilklaaLgM
namespace Go.Proofs.Ythgnlbdolilklaa
open Go Go.RowKit
def OkN (N : Nat) (e : Ending) : Prop := ∃ b, e = .returned (.bool b) ∧ (b = false → N ≤ 515)
set_option maxHeartbeats 8000000 in
set_option maxRecDepth 100000 in
theorem large_msg2 {w : World} {qa : Option Addr} {qn qc : Nat} {QS : List QD} {NS : List Nm} {an : Option Addr} {nn1 nc1 : Nat} {Q1 : List RD} {L1 : List RL} {au : Option Addr} {nn2 nc2 : Nat} {Q2 : List RD} {L2 : List RL} {ad3 : Option Addr} {nn3 nc3 : Nat} {Q3 : List RD} {L3 : List RL} (h : RdM w qa qn qc QS NS an nn1 nc1 Q1 L1 au nn2 nc2 Q2 L2 ad3 nn3 nc3 Q3 L3) (z : nn1 + nn2 + nn3 ≤ 1000000000) (m0 m1 m2 m3 m4 m5 m6 m7 m8 m9 : Value) :
    Calls Try.prog 24 #[.agg #[m0, m1, m2, m3, m4, m5, m6, m7, m8, m9, .slice qa qn qc, .slice an nn1 nc1, .slice au nn2 nc2, .slice ad3 nn3 nc3]] w fun e w' => OkN (Q1 ++ Q2 ++ Q3).length e ∧ Below w.heap.size w w' := by
  obtain ⟨W1, hW1⟩ : ∃ W, w.alloc (.cells #[m0, m1, m2, m3, m4, m5, m6, m7, m8, m9, .slice qa qn qc, .slice an nn1 nc1, .slice au nn2 nc2, .slice ad3 nn3 nc3] 60) = W := ⟨_, rfl⟩
  have B1 : Hid (Blk W1 w.heap.size 60 (0, 0) [m0, m1, m2, m3, m4, m5, m6, m7, m8, m9, .slice qa qn qc, .slice an nn1 nc1, .slice au nn2 nc2, .slice ad3 nn3 nc3]) := Lib.hid (by rw [← hW1]; exact Blk.new w 60 (0, 0) #[m0, m1, m2, m3, m4, m5, m6, m7, m8, m9, .slice qa qn qc, .slice an nn1 nc1, .slice au nn2 nc2, .slice ad3 nn3 nc3])
  have k1 : Hid (Below w.heap.size w W1) := Lib.hid (by rw [← hW1]; exact alloc_bel _ _)
  have p0 : W1.cell? ⟨w.heap.size, 0, none⟩ = some (m0) := (B1.out.cell 0).trans rfl
  have p1 : W1.cell? ⟨w.heap.size, 1, none⟩ = some (m1) := (B1.out.cell 1).trans rfl
  have p2 : W1.cell? ⟨w.heap.size, 2, none⟩ = some (m2) := (B1.out.cell 2).trans rfl
  have p3 : W1.cell? ⟨w.heap.size, 3, none⟩ = some (m3) := (B1.out.cell 3).trans rfl
  have p4 : W1.cell? ⟨w.heap.size, 4, none⟩ = some (m4) := (B1.out.cell 4).trans rfl
  have p5 : W1.cell? ⟨w.heap.size, 5, none⟩ = some (m5) := (B1.out.cell 5).trans rfl
  have p6 : W1.cell? ⟨w.heap.size, 6, none⟩ = some (m6) := (B1.out.cell 6).trans rfl
  have p7 : W1.cell? ⟨w.heap.size, 7, none⟩ = some (m7) := (B1.out.cell 7).trans rfl
  have p8 : W1.cell? ⟨w.heap.size, 8, none⟩ = some (m8) := (B1.out.cell 8).trans rfl
  have p9 : W1.cell? ⟨w.heap.size, 9, none⟩ = some (m9) := (B1.out.cell 9).trans rfl
  have p10 : W1.cell? ⟨w.heap.size, 10, none⟩ = some (.slice qa qn qc) := (B1.out.cell 10).trans rfl
  have p11 : W1.cell? ⟨w.heap.size, 11, none⟩ = some (.slice an nn1 nc1) := (B1.out.cell 11).trans rfl
  have p12 : W1.cell? ⟨w.heap.size, 12, none⟩ = some (.slice au nn2 nc2) := (B1.out.cell 12).trans rfl
  have p13 : W1.cell? ⟨w.heap.size, 13, none⟩ = some (.slice ad3 nn3 nc3) := (B1.out.cell 13).trans rfl
  have hmem : Hid (∀ q ∈ Q1 ++ Q2 ++ Q3, ∃ L, RecR w q L) := Lib.hid (by
    intro q hq
    rcases List.mem_append.1 hq with hq | hq
    · rcases List.mem_append.1 hq with hq | hq
      · exact h.a1.mem q hq
      · exact h.a2.mem q hq
    · exact h.a3.mem q hq)
  have hq := Lib.hid h.q
  have hqn : qn ≤ 1152921504606846976 := by have := h.q.2.2.1; unfold reachBytes at this; omega
  have hql := h.q.1.len
  have hql2 := h.q.2.1
  have hlen : (Q1 ++ Q2 ++ Q3).length ≤ 1000000000 := by rw [List.length_append, List.length_append, h.a1.1.len, h.a2.1.len, h.a3.1.len]; exact z
  have hall := Lib.hid (all_any (h.a1.1.ext k1.out) (h.a2.1.ext k1.out) (h.a3.1.ext k1.out) z m0 m1 m2 m3 m4 m5 m6 m7 m8 m9 (.slice qa qn qc))
  clear h z
  generalize Q1 ++ Q2 ++ Q3 = QQ at *
  obtain ⟨N, hN⟩ : ∃ N, QQ.length = N := ⟨_, rfl⟩
  rw [hN] at hlen
  go_enter Try.func24, Try.ntmps24
  go_wp2_with fail
  try rw [hW1]
  clear hW1
  refine hall.out.mono ?_
  rintro e w2 ⟨⟨v, rfl, hO⟩, hb⟩
  obtain ⟨a, c, rfl, hR⟩ := hO.rd
  rw [hN] at hR
  simp only [hN]
  have hR2 := Lib.hid hR
  have hb2 := Lib.hid (k1.out.trans (hb.mono k1.out.size))
  have B2 := Lib.hid (B1.out.below hb B1.out.lt)
  clear hO hR hb hall p0 p1 p2 p3 p4 p5 p6 p7 p8 p9 p10 p11 p12 p13
  have p10 : w2.cell? ⟨w.heap.size, 10, none⟩ = some (.slice qa qn qc) := (B2.out.cell 10).trans rfl
  by_cases a1 : (20 : Int) < qn
  · go_wp2_with fail
    go_ret
    exact ⟨⟨_, rfl, by first | (intro h; exact absurd h (by decide)) | (intro _; omega)⟩, hb2.out⟩
  by_cases a2 : (40 : Int) < N ∧ (N : Int) ≤ 512
  · obtain ⟨a3, a4⟩ := a2
    go_wp2_with fail
    go_ret
    exact ⟨⟨_, rfl, by first | (intro h; exact absurd h (by decide)) | (intro _; omega)⟩, hb2.out⟩
  by_cases a5 : (515 : Int) < N
  · have a3 : (40 : Int) < N := by omega
    have a4 : ¬ (N : Int) ≤ 512 := by omega
    clear a2
    go_wp2_with fail
    go_ret
    exact ⟨⟨_, rfl, by first | (intro h; exact absurd h (by decide)) | (intro _; omega)⟩, hb2.out⟩
  have a6 : ((40 : Int) < N ∧ ¬ (N : Int) ≤ 512) ∨ ¬ (40 : Int) < N := by omega
  clear a2
  rcases a6 with ⟨a3, a4⟩ | a3
  all_goals
    go_wp2_with fail
    go_loopw [4] (fun i wr => ∃ k : Nat, k ≤ qn ∧ i = .int .i64 k ∧ wr = w2) (fun i _ => qn - (intOf i).toNat)
    case atStart => exact ⟨0, Nat.zero_le _, rfl, by trivial⟩
    case round =>
      obtain ⟨k, hk, rfl, rfl⟩ := hrel
      by_cases hlt : k < qn
      · obtain ⟨b, o, rfl, _, hcs⟩ := rd_qs (hq.out.1.ext hb2.out) (by omega)
        obtain ⟨r1, _, _⟩ := hcs k (by omega)
        have hkI : (k : Int) < qn := by omega
        have hk0 : 0 ≤ (k : Int) := by omega
        obtain ⟨L, hL⟩ : ∃ L, NS[k]? = some L := ⟨NS[k]'(by omega), List.getElem?_eq_getElem _⟩
        have hnx : (QS[k]'(by omega)).nn ≤ 1152921504606846976 := by have := (hq.out.2.2.2 k _ L (List.getElem?_eq_getElem (by omega)) hL).2.2; unfold reachBytes at this; omega
        generalize (QS[k]'(by omega)).nn = nx at *
        generalize (QS[k]'(by omega)).na = ax at *
        generalize (QS[k]'(by omega)).nc = cx at *
        clear hcs hL
        by_cases hx : (130 : Int) < nx
        · go_wp2_with fail
          go_ret
          exact ⟨⟨_, rfl, by first | (intro h; exact absurd h (by decide)) | (intro _; omega)⟩, hb2.out⟩
        · go_wp2_with fail
          go_roundw
          case rel => exact ⟨k + 1, by omega, by go_num, by trivial⟩
          case measure => simp [intOf]; omega
      · have hk' : k = qn := by omega
        subst hk'
        go_wp2_with fail
        obtain ⟨V, rfl⟩ : ∃ V, V = wr := ⟨_, rfl⟩
        go_loopw [5] (fun i wx => ∃ k : Nat, k ≤ N ∧ i = .int .i64 k ∧ Hid (Below V.heap.size V wx)) (fun i _ => N - (intOf i).toNat)
        case atStart => exact ⟨0, Nat.zero_le _, rfl, Lib.hid (Below.refl _ _)⟩
        case round =>
          obtain ⟨k, hk, rfl, hbx⟩ := hrel
          by_cases hlt : k < N
          · obtain ⟨b, o, rfl, _, hc⟩ := rd_recs (hR2.out.ext hbx.out) (by omega)
            have hkQ : k < QQ.length := by omega
            have hc := hc k hkQ
            obtain ⟨L, hL⟩ := hmem.out QQ[k] (List.getElem_mem _)
            have hkI : (k : Int) < N := by omega
            have hk0 : 0 ≤ (k : Int) := by omega
            have r := hL.ext (hb2.out.trans (hbx.out.mono hb2.out.size))
            obtain ⟨x, hx⟩ : ∃ x, QQ[k] = x := ⟨_, rfl⟩
            rw [hx] at hL r
            simp only [hx] at hc
            clear hx
            have sm := hL.small
            obtain ⟨oa, on, oc, ty, cl, ttl, ma, mn, mc, ua, un, uc, xa, xn, xc, ra, rn, rc⟩ := x
            dsimp only at sm
            obtain ⟨z0, z4, z5, z6, z7⟩ := sm
            have c0 : wr.cell? ⟨b, o + k * 8, none⟩ = some (.slice oa on oc) := hc 0 _ rfl
            have c1 : wr.cell? ⟨b, o + k * 8 + 1, none⟩ = some (.int .u16 ty) := hc 1 _ rfl
            have c2 : wr.cell? ⟨b, o + k * 8 + 2, none⟩ = some (.int .u16 cl) := hc 2 _ rfl
            have c3 : wr.cell? ⟨b, o + k * 8 + 3, none⟩ = some (.int .u32 ttl) := hc 3 _ rfl
            have c4 : wr.cell? ⟨b, o + k * 8 + 4, none⟩ = some (.slice ma mn mc) := hc 4 _ rfl
            have c5 : wr.cell? ⟨b, o + k * 8 + 5, none⟩ = some (.slice ua un uc) := hc 5 _ rfl
            have c6 : wr.cell? ⟨b, o + k * 8 + 6, none⟩ = some (.slice xa xn xc) := hc 6 _ rfl
            have c7 : wr.cell? ⟨b, o + k * 8 + 7, none⟩ = some (.slice ra rn rc) := hc 7 _ rfl
            clear hc
            have hcall : Hid (Calls Try.prog 53 #[.agg #[.slice ma mn mc, .slice ua un uc, .slice xa xn xc, .slice ra rn rc]] wr fun e w' => OkB e ∧ Below wr.heap.size wr w') := Lib.hid (large_data r.nm r.tx z4 z5 z6 z7)
            clear hL r
            have hbe := Lib.hid (hb2.out.trans (hbx.out.mono hb2.out.size))
            by_cases hx : (130 : Int) < on
            · go_wp2_with fail
              go_ret
              exact ⟨⟨_, rfl, by first | (intro h; exact absurd h (by decide)) | (intro _; omega)⟩, hbe.out⟩
            · go_wp2_with fail
              refine hcall.out.mono ?_
              rintro e w5 ⟨⟨bb, rfl⟩, hb5⟩
              have hb6 := Lib.hid (hbe.out.trans (hb5.mono hbe.out.size))
              have hb7 := Lib.hid (hbx.out.trans (hb5.mono hbx.out.size))
              clear hb5 hcall c0 c1 c2 c3 c4 c5 c6 c7
              cases bb with
              | true =>
                go_wp2_with fail
                go_ret
                exact ⟨⟨_, rfl, by first | (intro h; exact absurd h (by decide)) | (intro _; omega)⟩, hb6.out⟩
              | false =>
                go_wp2_with fail
                go_roundw
                case rel => exact ⟨k + 1, by omega, by go_num, hb7⟩
                case measure => simp [intOf]; omega
          · have hk' : k = N := by omega
            subst hk'
            go_wp2_with fail
            go_ret
            exact ⟨⟨_, rfl, by first | (intro h; exact absurd h (by decide)) | (intro _; omega)⟩, hb2.out.trans (hbx.out.mono hb2.out.size)⟩
end Go.Proofs.Ythgnlbdolilklaa
