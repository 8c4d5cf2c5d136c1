/- Lists of records and questions that some memory bears; what is left of them without the record that says more. -/
import Derived.Test.YthgnlbdolilklaaLgM
import Derived.Test.YthgnlbdolilklaaDeB
namespace Go.Proofs.Ythgnlbdolilklaa
open Go Go.RowKit
/-- records that some memory bears -/
def FitRs (Q : List RD) (L : List RL) : Prop := Q.length = L.length ∧ Q.length * 144 ≤ reachBytes ∧ ∀ (j : Nat) (q : RD) (l : RL), Q[j]? = some q → L[j]? = some l → ∃ w0, RecR w0 q l
theorem RdRs.fit {w : World} {a : Option Addr} {n c : Nat} {Q : List RD} {L : List RL} (h : RdRs w a n c Q L) : FitRs Q L := ⟨h.2.1, by rw [h.1.len]; exact h.2.2.1, fun j q l hq hl => ⟨w, h.2.2.2 j q l hq hl⟩⟩
theorem OwnRs.rdRs {w : World} {b : Nat} {v : Value} {Q : List RD} {L : List RL} (h : OwnRs w b v Q L) (hf : FitRs Q L) : ∃ a c qs, v = .slice a Q.length c ∧ RdRs w a Q.length c qs L ∧ qs.map metaR = Q.map metaR := by
  obtain ⟨qs, h1, h2, h3⟩ := h
  obtain ⟨a, c, e, r⟩ := h1.rd
  rw [h2] at e r
  refine ⟨a, c, qs, e, ⟨r, by rw [h2]; exact hf.1, hf.2.1, fun j q l hq hl => ?_⟩, ?_⟩
  · have hj : j < Q.length := by rw [← h2]; exact (List.getElem?_eq_some_iff.1 hq).1
    obtain ⟨w0, h0⟩ := hf.2.2 j Q[j] l (List.getElem?_eq_getElem hj) hl
    obtain ⟨o, t1, t2, t3⟩ := h3 j q Q[j] l hq (List.getElem?_eq_getElem hj) hl
    exact o.recR h0 t1 t2 t3
  · refine List.ext_getElem (by simp [h2]) fun j hj hj2 => ?_
    have j1 : j < qs.length := by simpa using hj
    have j2 : j < Q.length := by simpa using hj2
    have j3 : j < L.length := by rw [← hf.1]; exact j2
    obtain ⟨_, t1, t2, t3⟩ := h3 j qs[j] Q[j] L[j] (List.getElem?_eq_getElem j1) (List.getElem?_eq_getElem j2) (List.getElem?_eq_getElem j3)
    rw [List.getElem_map, List.getElem_map]
    unfold metaR
    rw [t1, t2, t3]
def FitQs (Q : List QD) (L : List Nm) : Prop := Q.length = L.length ∧ Q.length * 32 ≤ reachBytes ∧ ∀ (j : Nat) (q : QD) (l : Nm), Q[j]? = some q → L[j]? = some l → ∃ w0, RdT w0 q.na q.nn q.nc l
theorem RdQs.fit {w : World} {a : Option Addr} {n c : Nat} {Q : List QD} {L : List Nm} (h : RdQs w a n c Q L) : FitQs Q L := ⟨h.2.1, by rw [h.1.len]; exact h.2.2.1, fun j q l hq hl => ⟨w, h.2.2.2 j q l hq hl⟩⟩
theorem OwnQs.rdQs {w : World} {b : Nat} {v : Value} {Q : List QD} {L : List Nm} (h : OwnQs w b v Q L) (hf : FitQs Q L) : ∃ a c qs, v = .slice a Q.length c ∧ RdQs w a Q.length c qs L ∧ qs.map metaQ = Q.map metaQ := by
  obtain ⟨qs, h1, h2, h3⟩ := h
  obtain ⟨a, c, e, r⟩ := h1.rd
  rw [h2] at e r
  refine ⟨a, c, qs, e, ⟨r, by rw [h2]; exact hf.1, hf.2.1, fun j q l hq hl => ?_⟩, ?_⟩
  · have hj : j < Q.length := by rw [← h2]; exact (List.getElem?_eq_some_iff.1 hq).1
    obtain ⟨w0, h0⟩ := hf.2.2 j Q[j] l (List.getElem?_eq_getElem hj) hl
    obtain ⟨o, _, _⟩ := h3 j q Q[j] l hq (List.getElem?_eq_getElem hj) hl
    obtain ⟨r1, e1⟩ := own_rd_at o
    have e2 := h0.1.len
    exact ⟨r1, h0.2.1, by have := h0.2.2; omega⟩
  · refine List.ext_getElem (by simp [h2]) fun j hj hj2 => ?_
    have j1 : j < qs.length := by simpa using hj
    have j2 : j < Q.length := by simpa using hj2
    have j3 : j < L.length := by rw [← hf.1]; exact j2
    obtain ⟨_, t1, t2⟩ := h3 j qs[j] Q[j] L[j] (List.getElem?_eq_getElem j1) (List.getElem?_eq_getElem j2) (List.getElem?_eq_getElem j3)
    rw [List.getElem_map, List.getElem_map]
    unfold metaQ
    rw [t1, t2]
/-- what is left -/
def zf (Q : List RD) (L : List RL) : List (RD × RL) := (Q.zip L).filter fun p => !isOpt p.1
def zQ (Q : List RD) (L : List RL) : List RD := (zf Q L).map (·.1)
def zL (Q : List RD) (L : List RL) : List RL := (zf Q L).map (·.2)
theorem zQ_eq : ∀ (Q : List RD) (L : List RL), Q.length = L.length → zQ Q L = Q.filter fun x => !isOpt x
  | [], _, _ => by simp [zQ, zf]
  | q :: r, [], h => by simp at h
  | q :: r, l :: s, h => by
    have := zQ_eq r s (by simpa using h)
    unfold zQ zf at this ⊢
    rw [List.zip_cons_cons, List.filter_cons, List.filter_cons]
    cases isOpt q with
    | true => simpa using this
    | false => simpa using this
theorem zf_at {P : RD → RD → RL → Prop} (hty : ∀ q q0 l, P q q0 l → q.ty = q0.ty) : ∀ (qs Q : List RD) (L : List RL), qs.length = Q.length → Q.length = L.length → (∀ (j : Nat) (q q0 : RD) (l : RL), qs[j]? = some q → Q[j]? = some q0 → L[j]? = some l → P q q0 l) →
    (qs.filter fun x => !isOpt x).length = (zQ Q L).length ∧ ∀ (j : Nat) (q q0 : RD) (l : RL), (qs.filter fun x => !isOpt x)[j]? = some q → (zQ Q L)[j]? = some q0 → (zL Q L)[j]? = some l → P q q0 l
  | [], [], [], _, _, _ => by simp [zQ, zf]
  | q :: r, q0 :: r0, l :: s, h1, h2, h3 => by
    obtain ⟨i1, i2⟩ := zf_at hty r r0 s (by simpa using h1) (by simpa using h2) fun j a b c ha hb hc => h3 (j + 1) a b c (by simpa using ha) (by simpa using hb) (by simpa using hc)
    have h0 := h3 0 q q0 l rfl rfl rfl
    have ht : isOpt q = isOpt q0 := by unfold isOpt; rw [hty _ _ _ h0]
    unfold zQ zf at i1 ⊢
    unfold zQ zL zf at i2
    unfold zL zf
    rw [List.zip_cons_cons, List.filter_cons, List.filter_cons, ht]
    cases isOpt q0 with
    | true => exact ⟨by simpa using i1, fun j a b c ha hb hc => i2 j a b c (by simpa using ha) (by simpa using hb) (by simpa using hc)⟩
    | false =>
      simp only [Bool.not_false, if_pos]
      refine ⟨by simpa using i1, fun j a b c ha hb hc => ?_⟩
      cases j with
      | zero =>
        simp at ha hb hc
        subst ha hb hc
        exact h0
      | succ j => exact i2 j a b c (by simpa using ha) (by simpa using hb) (by simpa using hc)
  | [], _ :: _, _, h, _, _ => by simp at h
  | _ :: _, [], _, h, _, _ => by simp at h
  | [], [], _ :: _, _, h, _ => by simp at h
  | _ :: _, _ :: _, [], _, h, _ => by simp at h
theorem zL_len (Q : List RD) (L : List RL) : (zQ Q L).length = (zL Q L).length := by simp [zQ, zL]
theorem zf_mem {Q : List RD} {L : List RL} {j : Nat} {q : RD} {l : RL} (h1 : (zQ Q L)[j]? = some q) (h2 : (zL Q L)[j]? = some l) : ∃ k : Nat, Q[k]? = some q ∧ L[k]? = some l := by
  unfold zQ at h1
  unfold zL at h2
  rw [List.getElem?_map] at h1 h2
  cases h : (zf Q L)[j]? with
  | none => rw [h] at h1; cases h1
  | some p =>
    rw [h] at h1 h2
    simp only [Option.map_some, Option.some.injEq] at h1 h2
    have hm : p ∈ Q.zip L := (List.mem_filter.1 (List.mem_of_getElem? h)).1
    obtain ⟨k, hk⟩ := List.getElem?_of_mem hm
    rw [List.getElem?_zip_eq_some] at hk
    exact ⟨k, by rw [hk.1, h1], by rw [hk.2, h2]⟩
theorem FitRs.zf {Q : List RD} {L : List RL} (h : FitRs Q L) : FitRs (zQ Q L) (zL Q L) := by
  refine ⟨zL_len Q L, ?_, fun j q l hq hl => ?_⟩
  · have : (zQ Q L).length ≤ Q.length := by rw [zQ_eq Q L h.1]; exact List.length_filter_le _ _
    exact Nat.le_trans (Nat.mul_le_mul_right _ this) h.2.1
  · obtain ⟨k, k1, k2⟩ := zf_mem hq hl
    exact h.2.2 k q l k1 k2
/-- DeleteFunc on records of the call's own -/
theorem OwnRs.del {w : World} {b : Nat} {v : Value} {Q : List RD} {L : List RL} (h : OwnRs w b v Q L) (hl : Q.length = L.length) : ∃ qs, Own recE w b v qs ∧ qs.length = Q.length ∧
    ∀ w' v', Own recE w' b v' (qs.filter fun x => !isOpt x) → w.grownBy w' v.ownBlock → OwnRs w' b v' (zQ Q L) (zL Q L) := by
  obtain ⟨qs, h1, h2, h3⟩ := h
  refine ⟨qs, h1, h2, fun w' v' ho hg => ?_⟩
  obtain ⟨e1, e2⟩ := zf_at (P := fun q q0 l => OwnRec w b q l ∧ q.ty = q0.ty ∧ q.cl = q0.cl ∧ q.ttl = q0.ttl) (fun _ _ _ h => h.2.1) qs Q L h2 hl h3
  exact ⟨_, ho, e1, fun j q q0 l hq h0 hl => ⟨(e2 j q q0 l hq h0 hl).1.grown h1 hg, (e2 j q q0 l hq h0 hl).2⟩⟩
theorem ownRs_grown {w w' : World} {b base : Nat} {v v3 : Value} {Q : List RD} {L : List RL} {l : List RD} (h : OwnRs w b v Q L) (ho : Own recE w base v3 l) (ha : Apt v v3) (hg : w.grownBy w' v3.ownBlock) : OwnRs w' b v Q L := by
  obtain ⟨qs, h1, h2, h3⟩ := h
  exact ⟨qs, h1.keep (fun k hk => hg.block k (h1.lt k hk).2 (fun e => ha k hk e.symm)), h2, fun j q q0 l hq h0 hl => ⟨(h3 j q q0 l hq h0 hl).1.grown ho hg, (h3 j q q0 l hq h0 hl).2⟩⟩
theorem ownQs_grownR {w w' : World} {b base : Nat} {v v3 : Value} {Q : List QD} {L : List Nm} {l : List RD} (h : OwnQs w b v Q L) (ho : Own recE w base v3 l) (hg : w.grownBy w' v3.ownBlock) : OwnQs w' b v Q L := by
  obtain ⟨qs, h1, h2, h3⟩ := h
  exact ⟨qs, own_grown h1 ho (by decide) hg, h2, fun j q q0 l hq h0 hl => ⟨own_grown (h3 j q q0 l hq h0 hl).1 ho (by decide) hg, (h3 j q q0 l hq h0 hl).2⟩⟩
/-- where the record that says more is -/
theorem idxF_meta : ∀ {Q Q' : List RD}, Q.map metaR = Q'.map metaR → ∀ k, idxF Q k = idxF Q' k
  | [], [], _, _ => rfl
  | [], _ :: _, h, _ => by simp at h
  | _ :: _, [], h, _ => by simp at h
  | q :: r, q' :: r', h, k => by
    rw [List.map_cons, List.map_cons, List.cons.injEq] at h
    have ht : q.ty = q'.ty := by have := h.1; unfold metaR at this; exact (Prod.mk.inj this).1
    rw [idxF, idxF, ht, idxF_meta h.2]
end Go.Proofs.Ythgnlbdolilklaa
