/- The scanner: entry 47, word 36, with the block's cells as letters. -/
import Derived.Test.YtojdjhicjhhblaaDoorScE
namespace Go.Proofs.YtojdjhicjhhblaaDoor
open Go Go.RowKit
set_option maxHeartbeats 8000000 in
set_option maxRecDepth 100000 in
theorem entry_none {w : World} {g : Nat} {y0 y1 y2 y3 y4 y5 y6 y7 y9 y10 y11 y12 : Value} {wa : Option Addr} {wc : Nat} (hB : Blk w g 62 (0, 0) [y0, y1, y2, y3, y4, y5, y6, y7, .slice wa 0 wc, y9, y10, y11, y12]) :
    Calls Tryd.prog 46 #[.pointer (some ⟨g, 0, none⟩)] w fun e w' => e = .returned (.tuple #[]) ∧ w.grownBy w' (some g) ∧ Blk w' g 62 (0, 0) [y0, y1, y2, y3, y4, y5, .int .i64 0, .bool false, .slice none 0 0, .bool true, y10, y11, y12] := by
  have B1 := Lib.hid hB
  have c8 : w.cell? ⟨g, 8, none⟩ = some (.slice wa 0 wc) := (hB.cell 8).trans rfl
  have c6 : w.cell? ⟨g, 6, none⟩ = some y6 := (hB.cell 6).trans rfl
  have c7 : w.cell? ⟨g, 7, none⟩ = some y7 := (hB.cell 7).trans rfl
  have c9 : w.cell? ⟨g, 9, none⟩ = some y9 := (hB.cell 9).trans rfl
  have z6 : w.frozen? ⟨g, 6, none⟩ = false := by rw [hB.frozen]; rfl
  have z7 : w.frozen? ⟨g, 7, none⟩ = false := by rw [hB.frozen]; rfl
  have z8 : w.frozen? ⟨g, 8, none⟩ = false := by rw [hB.frozen]; rfl
  have z9 : w.frozen? ⟨g, 9, none⟩ = false := by rw [hB.frozen]; rfl
  clear hB
  go_enter Tryd.func46, Tryd.ntmps46
  go_wp2_with fail
  go_end0
  refine ⟨rfl, ?_, ?_⟩
  · exact grown_trans (grown_trans (grown_trans (grown_set _ _ _ _) (grown_set _ _ _ _)) (grown_set _ _ _ _)) (grown_set _ _ _ _)
  · exact ((((B1.out.set 6 _).set 7 _).set 8 _).set 9 _)
set_option maxHeartbeats 8000000 in
set_option maxRecDepth 100000 in
theorem entry_some {w : World} {g base : Nat} {y0 y1 y2 y3 y4 y5 y9 y11 y12 : Value} {el : Int} {bl : Bool} {wa va : Option Addr} {wn wc vn vc : Nat} {l : List ED} (hB : Blk w g 62 (0, 0) [y0, y1, y2, y3, y4, y5, .int .i64 el, .bool bl, .slice wa wn wc, y9, .slice va vn vc, y11, y12])
    (ho : Own enE w base (.slice va vn vc) l) (hl : l.length = vn) (hb : base ≤ w.heap.size) (hvn : vn ≤ 70000) (hw : 0 < wn) :
    Calls Tryd.prog 46 #[.pointer (some ⟨g, 0, none⟩)] w fun e w' => e = .returned (.tuple #[]) ∧ ∃ a c V, w.grownBy V (Value.slice va vn vc).ownBlock ∧ V.grownBy w' (some g) ∧
      Blk w' g 62 (0, 0) [y0, y1, y2, y3, y4, y5, .int .i64 0, .bool false, .slice none 0 0, .bool true, .slice a (vn + 1) c, y11, y12] ∧ Own enE w' base (.slice a (vn + 1) c) (l ++ [⟨el, bl, wa, wn, wc⟩]) := by
  have B1 := Lib.hid hB
  have c8 : w.cell? ⟨g, 8, none⟩ = some (.slice wa wn wc) := (hB.cell 8).trans rfl
  have hwI : (0 : Int) < wn := by omega
  have HO := Lib.hid ho
  clear hB ho
  go_enter Tryd.func46, Tryd.ntmps46
  go_upto_region 1 with (fail)
  refine entry_reg _ _ _ _ _ _ _ _ _ _ _ _ _ _ _ _ _ _ _ _ _ _ _ _ _ _ _ _ _ _ _ _ _ _ _ _ _ _ _ _ _ _ _ _ _ B1.out HO.out hl hb hvn ?_
  intro x9 x10 x11 x12 x13 x14 x15 x16 x17 x18 x19 x20 x21 V V1 a c hg1 hg2 hB2 hO2
  try dsimp only
  have G1 := Lib.hid hg1
  have G2 := Lib.hid hg2
  have B2 := Lib.hid hB2
  have O2 := Lib.hid hO2
  have c6 : V.cell? ⟨g, 6, none⟩ = some (.int .i64 el) := (hB2.cell 6).trans rfl
  have c7 : V.cell? ⟨g, 7, none⟩ = some (.bool bl) := (hB2.cell 7).trans rfl
  have c8 : V.cell? ⟨g, 8, none⟩ = some (.slice wa wn wc) := (hB2.cell 8).trans rfl
  have c9 : V.cell? ⟨g, 9, none⟩ = some y9 := (hB2.cell 9).trans rfl
  have z6 : V.frozen? ⟨g, 6, none⟩ = false := by rw [hB2.frozen]; rfl
  have z7 : V.frozen? ⟨g, 7, none⟩ = false := by rw [hB2.frozen]; rfl
  have z8 : V.frozen? ⟨g, 8, none⟩ = false := by rw [hB2.frozen]; rfl
  have z9 : V.frozen? ⟨g, 9, none⟩ = false := by rw [hB2.frozen]; rfl
  clear hg1 hg2 hB2 hO2
  go_wp2_with fail
  go_end0
  have G3 : V.grownBy ((((V.setCell ⟨g, 6, none⟩ (.int .i64 0)).setCell ⟨g, 7, none⟩ (.bool false)).setCell ⟨g, 8, none⟩ (.slice none 0 0)).setCell ⟨g, 9, none⟩ (.bool true)) (some g) := grown_trans (grown_trans (grown_trans (grown_set _ _ _ _) (grown_set _ _ _ _)) (grown_set _ _ _ _)) (grown_set _ _ _ _)
  exact ⟨rfl, a, c, V1, G1.out, grown_trans G2.out G3, (((B2.out.set 6 _).set 7 _).set 8 _).set 9 _, own_store O2.out B2.out (by decide) G3⟩
end Go.Proofs.YtojdjhicjhhblaaDoor
