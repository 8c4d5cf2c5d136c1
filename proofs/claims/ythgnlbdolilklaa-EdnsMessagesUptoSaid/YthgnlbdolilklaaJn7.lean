/- EdnsMessages, plain: what a copy of a message says is what the message says. A region whose order is drawn, by an invariant over what has come up. Nothing of the program. -/
import Derived.Test.YthgnlbdolilklaaOvL
import Derived.Test.YthgnlbdolilklaaRfM
import Derived.Test.YthgnlbdolilklaaOfW
import Derived.Test.YthgnlbdolilklaaLgN
import Derived.Test.YthgnlbdolilklaaJn6
namespace Go.Proofs.Ythgnlbdolilklaa
open Go Go.RowKit
theorem idxF_metas : ∀ (A B : List RD) (k : Nat), A.map metaR = B.map metaR → idxF A k = idxF B k
  | [], [], _, _ => rfl
  | [], _ :: _, _, h => by simp at h
  | _ :: _, [], _, h => by simp at h
  | q :: r, p :: s, k, h => by
    simp only [List.map_cons, List.cons.injEq] at h
    have e : q.ty = p.ty := by have := h.1; unfold metaR at this; exact congrArg (·.1) this
    rw [idxF, idxF, e, idxF_metas r s (k + 1) h.2]
theorem rec_lens {w w' : World} {q q' : RD} {L : RL} (h : RecR w q L) (h' : RecR w' q' L) : q.on = q'.on ∧ q.mn = q'.mn ∧ q.un = q'.un ∧ q.xn = q'.xn ∧ q.rn = q'.rn := by
  have a1 := h.ow.1.len
  have b1 := h'.ow.1.len
  have a2 := h.nm.len
  have b2 := h'.nm.len
  have a3 := h.nu.len
  have b3 := h'.nu.len
  have a4 := h.tx.1.len
  have b4 := h'.tx.1.len
  have a5 := h.raw.len
  have b5 := h'.raw.len
  omega
theorem ofU_same {w w' : World} {a a' : Option Addr} {n c n' c' : Nat} {A B : List RD} {L : List RL} (hA : RdRs w a n c A L) (hB : RdRs w' a' n' c' B L) (e : A.map metaR = B.map metaR) {s h v : Int} {d : Bool} {O : List Opt} {is : Bool} {E : Int} (hU : OfU A L s h v d O is E) : OfU B L s h v d O is E := by
  have i0 := idxF_metas A B 0 e
  have hl : A.length = B.length := by rw [hA.2.1, hB.2.1]
  have i1 : ∀ k, idxF (A.drop (k + 1)) 0 = idxF (B.drop (k + 1)) 0 := fun k => idxF_metas _ _ 0 (by rw [List.map_drop, List.map_drop, e])
  rcases hU with h1 | ⟨k, h1, h2, h3, h4⟩ | ⟨k, q, l, h1, h2, h3, h4, h5, h6, h7⟩
  · exact .inl ⟨by rw [← i0]; exact h1.1, h1.2⟩
  · exact .inr (.inl ⟨k, by rw [← i0]; exact h1, by omega, by rw [← i1]; exact h3, h4⟩)
  · have hk : k < B.length := by omega
    obtain ⟨q', hq'⟩ : ∃ q', B[k]? = some q' := ⟨B[k], List.getElem?_eq_getElem hk⟩
    have em : metaR q = metaR q' := meta_at e h4 hq'
    unfold metaR at em
    simp only [Prod.mk.injEq] at em
    obtain ⟨e1, e2, e3⟩ := em
    obtain ⟨l1, l2, l3, l4, _⟩ := rec_lens (hA.2.2.2 k q l h4 h5) (hB.2.2.2 k q' l hq' h5)
    refine .inr (.inr ⟨k, q', l, by rw [← i0]; exact h1, hk, by rw [← i1]; exact h3, hq', h5, h6, fun base e w' hB => h7 base e w' ?_⟩)
    rw [l1, e1, e2, e3, l2, l3, l4]
    exact hB
theorem zq_meta : ∀ (A B : List RD) (L : List RL), A.length = L.length → A.map metaR = B.map metaR → (zQ A L).map metaR = (zQ B L).map metaR ∧ zL A L = zL B L
  | [], [], _, _, _ => ⟨rfl, rfl⟩
  | [], _ :: _, _, _, h => by simp at h
  | _ :: _, [], _, _, h => by simp at h
  | q :: r, p :: s, [], hl, h => by simp at hl
  | q :: r, p :: s, l :: m, hl, h => by
    simp only [List.map_cons, List.cons.injEq] at h
    have e : isOpt q = isOpt p := by have := h.1; unfold metaR at this; have e9 : q.ty = p.ty := congrArg (·.1) this; unfold isOpt; rw [e9]
    obtain ⟨i1, i2⟩ := zq_meta r s m (by simpa using hl) h.2
    unfold zQ zf at i1 ⊢
    unfold zL zf at i2 ⊢
    rw [List.zip_cons_cons, List.zip_cons_cons, List.filter_cons, List.filter_cons, e]
    cases isOpt p with
    | true => exact ⟨by simpa using i1, by simpa using i2⟩
    | false => exact ⟨by simp only [Bool.not_false, if_pos, List.map_cons]; rw [h.1, i1], by simp only [Bool.not_false, if_pos, List.map_cons]; rw [i2]⟩
end Go.Proofs.Ythgnlbdolilklaa
namespace Go.Proofs.Ythgnlbdolilklaa
open Go Go.RowKit
theorem wpAnyH_inv {P : Program} {md : Region.Mode} {ops : Array Oper} {Q : Exit → Act → World → Prop} {S : World → Prop} (I : Nat → Array Bool → Act → World → Prop)
    (step : ∀ f l a w, I f l a w → wpAnyH P md ops Q S f l a w ∨ ∃ f', f = f' + 1 ∧ (∃ j, j ∈ Region.ready md ops l) ∧ ∀ i ∈ Region.ready md ops l, wpOp P ops Q i (fun a' w' => S w' ∧ I f' (l.setIfInBounds i true) a' w') a w) :
    ∀ f l a w, I f l a w → wpAnyH P md ops Q S f l a w := by
  intro f
  induction f with
  | zero =>
    intro l a w h
    rcases step 0 l a w h with h | ⟨f', e, _⟩
    · exact h
    · omega
  | succ f ih =>
    intro l a w h
    rcases step _ l a w h with h | ⟨f', e, ⟨j, hj⟩, h2⟩
    · exact h
    · obtain rfl : f = f' := by omega
      exact ⟨fun h0 => (by rw [h0] at hj; cases hj), fun i hi => wpOp_mono (fun a' w' h3 => ⟨h3.1, ih _ _ _ h3.2⟩) (h2 i hi)⟩
end Go.Proofs.Ythgnlbdolilklaa
