/- The verifier's kit on bytes: Kept. -/
import Derived.Test.YthgnlbdolilklaaKitB
import Derived.Deep.RegionHeld3
namespace Go.Proofs.Ythgnlbdolilklaa
open Go.RowKit
theorem rd_blk {α : Type} {E : Enc α} {w : World} {g : Nat} {fz : Nat × Nat} {X : List α} (h : Blk w g E.e fz (rowOf E X)) (n : Nat) (hn : n = X.length) (hm : n ≤ maxLen) : Rd E w (some ⟨g, 0, none⟩) n n X := by
  subst hn
  refine ⟨rfl, Nat.le_refl _, hm, fun j hj i hi => ⟨g, 0, rfl, ?_⟩⟩
  rw [h.cell, Nat.zero_add, rowOf_get E X j i hj hi]
end Go.Proofs.Ythgnlbdolilklaa
