/- A message of the call's own, as OverMessage wants it. -/
import Derived.Test.YthgnlbdolilklaaOvM
import Derived.Test.YthgnlbdolilklaaFiM
namespace Go.Proofs.Ythgnlbdolilklaa
open Go Go.RowKit
/-- the blocks of texts that are the call's own -/
def GW (w : World) (lo hi : Nat) (g : Nat) : Prop := (lo ≤ g ∧ g < hi) ∧ ∃ X : List (List UInt8), Blk w g 9 (0, 0) (rowOf strE X) ∧ ∀ s ∈ X, s.length ≤ reachBytes
theorem GW.tb (w : World) (lo hi : Nat) : TB reachBytes w (GW w lo hi) := fun _ hg => hg.2
/-- what lies from lo on is as it was -/
def Win (w wx : World) (lo : Nat) : Prop := ∀ k, lo ≤ k → k < w.heap.size → wx.heap[k]? = w.heap[k]?
theorem own_win {α : Type} {E : Enc α} {w wx : World} {lo : Nat} {v : Value} {l : List α} (h : Own E w lo v l) (hk : Win w wx lo) : Own E wx lo v l := h.keep fun k hb => hk k (h.lt k hb).1 (h.lt k hb).2
theorem own_ot {w wx : World} {lo : Nat} {v : Value} {l : List (List UInt8)} (h : Own strE w lo v l) (hk : Win w wx lo) (hl : ∀ s ∈ l, s.length ≤ reachBytes) : OT wx (GW wx lo w.heap.size) v := by
  have hlt := h.lt
  rcases own_win h hk with ⟨h, _⟩ | ⟨g, cap, X, rfl, hgb, hB, hX, hle, hcm, htk, hrs⟩
  · exact .inl h
  · refine .inr ⟨g, _, cap, _, rfl, ⟨hlt g rfl, X, hB, fun s hs => ?_⟩, hB, by rw [row_str, List.length_map, hX], hle, hcm⟩
    rw [← List.take_append_drop l.length X] at hs
    rcases List.mem_append.1 hs with hs | hs
    · rw [htk] at hs
      exact hl s hs
    · rcases hrs s hs with e | e
      · rw [e]; exact Nat.zero_le _
      · exact absurd rfl (e _ (by show _ ∈ [Value.string (mk s)]; exact List.mem_singleton.2 rfl) (mk s))
def KN : Nat := 6000000000000
theorem ownRec_o {w wx w0 : World} {lo : Nat} {q q0 : RD} {L : RL} (ho : OwnRec w lo q L) (hk : Win w wx lo) (hr : RecR w0 q0 L) : RecO wx lo w.heap.size (GW wx lo w.heap.size) q ∧ q.mn ≤ KN := by
  have hln := ho.lens hr
  obtain ⟨rs, _, hrl0, hb24, hrn⟩ := hr.nm
  refine ⟨⟨own_ot ho.ow hk hr.ow.2.1, ?_, ⟨⟨_, own_win ho.nu hk⟩, fun k hb => (ho.nu.lt k hb).2⟩, own_ot ho.tx hk hr.tx.2.1, ⟨⟨_, own_win ho.raw hk⟩, fun k hb => (ho.raw.lt k hb).2⟩⟩, ?_⟩
  · obtain ⟨ps, h1, h2, h3⟩ := ho.nm
    refine ⟨ps, own_win h1 hk, fun p hp => ?_⟩
    obtain ⟨j, hj, rfl⟩ := List.getElem_of_mem hp
    have hjN : j < L.nm.length := by omega
    refine own_ot (h3 j ps[j] L.nm[j] (List.getElem?_eq_getElem hj) (List.getElem?_eq_getElem hjN)) hk ?_
    have hrl : j < rs.length := by omega
    exact (hrn j rs[j] L.nm[j] (List.getElem?_eq_getElem hrl) (List.getElem?_eq_getElem hjN)).2.1
  · rw [hln.2.1]
    unfold KN
    unfold reachBytes at hb24
    omega
theorem ownRs_row {w wx : World} {lo : Nat} {v : Value} {Q : List RD} {L : List RL} (h : OwnRs w lo v Q L) (hk : Win w wx lo) (hf : FitRs Q L) : RowC wx lo w.heap.size (GW wx lo w.heap.size) KN v := by
  obtain ⟨qs, h1, h2, h3⟩ := h
  refine RowC.of (own_win h1 hk) (fun k hb => (h1.lt k hb).2) (fun q hq => ?_)
  obtain ⟨j, hj, rfl⟩ := List.getElem_of_mem hq
  have j1 : j < Q.length := by omega
  have j2 : j < L.length := by rw [← hf.1]; exact j1
  obtain ⟨w0, hr⟩ := hf.2.2 j Q[j] L[j] (List.getElem?_eq_getElem j1) (List.getElem?_eq_getElem j2)
  exact ownRec_o (h3 j qs[j] Q[j] L[j] (List.getElem?_eq_getElem hj) (List.getElem?_eq_getElem j1) (List.getElem?_eq_getElem j2)).1 hk hr
theorem ownQs_o {w wx : World} {lo : Nat} {v : Value} {Q : List QD} {L : List Nm} (h : OwnQs w lo v Q L) (hk : Win w wx lo) (hf : FitQs Q L) : ∃ qds, Own qsE wx lo v qds ∧ ∀ q ∈ qds, OT wx (GW wx lo w.heap.size) (.slice q.na q.nn q.nc) := by
  obtain ⟨qs, h1, h2, h3⟩ := h
  refine ⟨qs, own_win h1 hk, fun q hq => ?_⟩
  obtain ⟨j, hj, rfl⟩ := List.getElem_of_mem hq
  have j1 : j < Q.length := by omega
  have j2 : j < L.length := by rw [← hf.1]; exact j1
  obtain ⟨w0, hr⟩ := hf.2.2 j Q[j] L[j] (List.getElem?_eq_getElem j1) (List.getElem?_eq_getElem j2)
  exact own_ot (h3 j qs[j] Q[j] L[j] (List.getElem?_eq_getElem hj) (List.getElem?_eq_getElem j1) (List.getElem?_eq_getElem j2)).1 hk hr.2.1
/-- a message of the call's own is written over -/
theorem over_own_msg {w wx : World} {lo : Nat} {qa : Option Addr} {qn qc : Nat} {an : Option Addr} {nn1 nc1 : Nat} {au : Option Addr} {nn2 nc2 : Nat} {ad : Option Addr} {nn3 nc3 : Nat} {QS : List QD} {NS : List Nm} {Q1 : List RD} {L1 : List RL} {Q2 : List RD} {L2 : List RL} {Q3 : List RD} {L3 : List RL}
    (hq : OwnQs w lo (.slice qa qn qc) QS NS) (h1 : OwnRs w lo (.slice an nn1 nc1) Q1 L1) (h2 : OwnRs w lo (.slice au nn2 nc2) Q2 L2) (h3 : OwnRs w lo (.slice ad nn3 nc3) Q3 L3) (fq : FitQs QS NS) (f1 : FitRs Q1 L1) (f2 : FitRs Q2 L2) (f3 : FitRs Q3 L3) (hn : nn1 + nn2 + nn3 ≤ 600) (hqn : qn ≤ 1152921504606846976) (hk : Win w wx lo) (m0 m1 m2 m3 m4 m5 m6 m7 m8 m9 : Value) :
    Calls Try.prog 32 #[.agg #[m0, m1, m2, m3, m4, m5, m6, m7, m8, m9, .slice qa qn qc, .slice an nn1 nc1, .slice au nn2 nc2, .slice ad nn3 nc3]] wx fun e w' => e = .returned (.tuple #[]) ∧ Tch (Rg lo w.heap.size) wx w' := by
  obtain ⟨qds, a1, a2⟩ := ownQs_o hq hk fq
  refine over_msg (K := KN) (M := reachBytes) (fun g hg => hg.1) a1 a2 (ownRs_row h1 hk f1) (ownRs_row h2 hk f2) (ownRs_row h3 hk f3) (by unfold KN; decide) hqn ?_ (GW.tb wx lo w.heap.size) m0 m1 m2 m3 m4 m5 m6 m7 m8 m9
  have e : nn1 * (KN + 3) + nn2 * (KN + 3) + nn3 * (KN + 3) = (nn1 + nn2 + nn3) * (KN + 3) := by rw [Nat.add_mul, Nat.add_mul]
  rw [e]
  have h9 : (nn1 + nn2 + nn3) * (KN + 3) ≤ 600 * (KN + 3) := Nat.mul_le_mul_right _ hn
  unfold KN at h9 ⊢
  unfold reachBytes
  omega
theorem Win.trans {u v w : World} {lo : Nat} (h : Win u v lo) (k : Win v w lo) (hs : u.heap.size ≤ v.heap.size) : Win u w lo := fun b h1 h2 => (k b h1 (Nat.lt_of_lt_of_le h2 hs)).trans (h b h1 h2)
theorem Win.tch {u v : World} {lo : Nat} {S : Nat → Prop} (t : Tch S u v) (hS : ∀ k, lo ≤ k → k < u.heap.size → ¬ S k) : Win u v lo := fun k h1 h2 => t.block k h2 (hS k h1 h2)
theorem Win.below {u v : World} {lo : Nat} (hb : Below u.heap.size u v) : Win u v lo := fun k _ h2 => hb.block k h2
end Go.Proofs.Ythgnlbdolilklaa
