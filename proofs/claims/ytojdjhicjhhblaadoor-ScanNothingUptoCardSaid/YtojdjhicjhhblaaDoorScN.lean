/- The scanner as it lies; wrong 35. -/
import Derived.Test.YtojdjhicjhhblaaDoorScM
namespace Go.Proofs.YtojdjhicjhhblaaDoor
open Go Go.RowKit
/-- the scanner with a fault -/
def SF (g : Nat) (e : Int × Int) (w : World) : Prop := ∃ x0 x1 x2 x3 x4 x5 x6 x7 x8 x9 x10, Blk w g 62 (0, 0) [x0, x1, x2, x3, x4, x5, x6, x7, x8, x9, x10, .int .i64 e.1, .int .i64 e.2]
set_option maxHeartbeats 8000000 in
set_option maxRecDepth 100000 in
theorem wrong_any {w : World} {g : Nat} {x0 x2 x3 x4 x5 x6 x7 x8 x9 x10 x11 x12 : Value} {ln : Int} (hB : Blk w g 62 (0, 0) [x0, .int .i64 ln, x2, x3, x4, x5, x6, x7, x8, x9, x10, x11, x12]) :
    Calls Tryd.prog 33 #[.pointer (some ⟨g, 0, none⟩)] w fun e w' => e = .returned (.bool false) ∧ w.grownBy w' (some g) ∧ Blk w' g 62 (0, 0) [x0, .int .i64 ln, x2, x3, x4, x5, x6, x7, x8, x9, x10, .int .i64 230, .int .i64 ln] := by
  have B1 := Lib.hid hB
  have c1 : w.cell? ⟨g, 1, none⟩ = some (.int .i64 ln) := (hB.cell 1).trans rfl
  have c11 : w.cell? ⟨g, 11, none⟩ = some x11 := (hB.cell 11).trans rfl
  have z11 : w.frozen? ⟨g, 11, none⟩ = false := by rw [hB.frozen]; rfl
  have c12 : w.cell? ⟨g, 12, none⟩ = some x12 := (hB.cell 12).trans rfl
  have z12 : w.frozen? ⟨g, 12, none⟩ = false := by rw [hB.frozen]; rfl
  clear hB
  go_enter Tryd.func33, Tryd.ntmps33
  go_wp2_with fail
  go_ret
  refine ⟨rfl, grown_trans (grown_set _ _ _ _) (grown_set _ _ _ _), ?_⟩
  exact (B1.out.set 11 _).set 12 _
end Go.Proofs.YtojdjhicjhhblaaDoor
