/- A region whose order is drawn, by an invariant over what has come up. Nothing of the program. -/
import Derived.Test.YthgnlbdolilklaaStp
namespace Go.Proofs.Ythgnlbdolilklaa
open Go Go.RowKit
theorem wpAnyH_inv {P : Program} {md : Region.Mode} {ops : Array Oper} {Q : Exit → Act → World → Prop} {S : World → Prop} (I : Nat → Array Bool → Act → World → Prop)
    (step : ∀ f l a w, I f l a w → wpAnyH P md ops Q S f l a w ∨ ∃ f', f = f' + 1 ∧ (∃ j, j ∈ Region.ready md ops l) ∧ ∀ i ∈ Region.ready md ops l, wpOp P ops Q i (fun a' w' => S w' ∧ I f' (l.setIfInBounds i true) a' w') a w) :
    ∀ f l a w, I f l a w → wpAnyH P md ops Q S f l a w := by
  intro f
  induction f with
  | zero =>
    intro l a w h
    rcases step 0 l a w h with h | ⟨f', e, _⟩
    · exact h
    · omega
  | succ f ih =>
    intro l a w h
    rcases step _ l a w h with h | ⟨f', e, ⟨j, hj⟩, h2⟩
    · exact h
    · obtain rfl : f = f' := by omega
      exact ⟨fun h0 => (by rw [h0] at hj; cases hj), fun i hi => wpOp_mono (fun a' w' h3 => ⟨h3.1, ih _ _ _ h3.2⟩) (h2 i hi)⟩
end Go.Proofs.Ythgnlbdolilklaa
