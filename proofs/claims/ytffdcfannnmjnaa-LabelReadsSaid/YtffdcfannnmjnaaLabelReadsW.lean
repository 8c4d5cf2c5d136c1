/- LabelReads returns true for any text. No condition. -/
import Derived.Test.YtffdcfannnmjnaaParse3
namespace Go.Proofs.Ytffdcfannnmjnaa
open Go.RowKit
theorem parseV_shape (l : List UInt8) : ∃ (x : List UInt8) (n e : Nat), parseV l = .tuple #[.string (mk x), .int .i64 n, .int .i64 e] := by
  unfold parseV
  split
  · exact ⟨[], 0, 120, rfl⟩
  · split
    · exact ⟨_, _, 0, rfl⟩
    · exact ⟨[], 0, 4, rfl⟩
set_option maxHeartbeats 1000000 in
theorem labelReads_frame (l : List UInt8) (_ : l.length ≤ reachBytes) (w : World) :
    Calls Try.prog 5 #[.string (mk l)] w fun e w' => e = .returned (.bool true) ∧ Below w.heap.size w w' := by
  by_cases h : l.length ≤ 600
  · go_enter Try.func5, Try.ntmps5
    go_wp2_with fail
    refine (labelParse_any l _ (by omega)).mono ?_
    obtain ⟨x, n, e, hv⟩ := parseV_shape l
    rw [hv]
    rintro e w1 ⟨rfl, hb1⟩
    have hv' := Lib.hid hv; clear hv
    go_wp2_with fail
    refine (refParse_any l _ (by omega)).mono ?_
    rw [hv'.out]
    rintro e w2 ⟨rfl, hb2⟩
    go_wp2_with fail
    go_ret
    exact ⟨rfl, nx hb1 hb2 (Nat.le_refl _)⟩
  · go_enter Try.func5, Try.ntmps5
    go_wp2_with fail
    go_ret
    exact ⟨rfl, Below.refl _ _⟩
end Go.Proofs.Ytffdcfannnmjnaa
