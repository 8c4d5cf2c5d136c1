/- The scanner: word 36, with the block's cells as letters. -/
import Derived.Test.YtojdjhicjhhblaaDoorScF
namespace Go.Proofs.YtojdjhicjhhblaaDoor
open Go Go.RowKit
set_option maxHeartbeats 8000000 in
set_option maxRecDepth 100000 in
theorem word_full {w : World} {g : Nat} {y0 y1 y2 y3 y4 y6 y7 y9 y10 y11 y12 : Value} {bg : Int} {wa : Option Addr} {wc : Nat} (hB : Blk w g 62 (0, 0) [y0, y1, y2, y3, y4, .int .i64 bg, y6, y7, .slice wa 64 wc, y9, y10, y11, y12]) (i : Nat) :
    Calls Tryd.prog 34 #[.pointer (some ⟨g, 0, none⟩), .int .i64 i] w fun e w' => e = .returned (.bool false) ∧ w.grownBy w' (some g) ∧ Blk w' g 62 (0, 0) [y0, y1, y2, y3, y4, .int .i64 bg, y6, y7, .slice wa 64 wc, y9, y10, .int .i64 3, .int .i64 bg] := by
  have B1 := Lib.hid hB
  have c5 : w.cell? ⟨g, 5, none⟩ = some (.int .i64 bg) := (hB.cell 5).trans rfl
  have c8 : w.cell? ⟨g, 8, none⟩ = some (.slice wa 64 wc) := (hB.cell 8).trans rfl
  have c11 : w.cell? ⟨g, 11, none⟩ = some y11 := (hB.cell 11).trans rfl
  have z11 : w.frozen? ⟨g, 11, none⟩ = false := by rw [hB.frozen]; rfl
  have c12 : w.cell? ⟨g, 12, none⟩ = some y12 := (hB.cell 12).trans rfl
  have z12 : w.frozen? ⟨g, 12, none⟩ = false := by rw [hB.frozen]; rfl
  clear hB
  go_enter Tryd.func34, Tryd.ntmps34
  go_wp2_with fail
  go_ret
  exact ⟨rfl, grown_trans (grown_set _ _ _ _) (grown_set _ _ _ _), (B1.out.set 11 _).set 12 _⟩
set_option maxHeartbeats 8000000 in
set_option maxRecDepth 100000 in
theorem word_some {w : World} {g base : Nat} {y1 y3 y6 y7 y9 y10 y11 y12 : Value} {bg : Int} {va : Option Addr} {vn vc : Nat} {l : List Trm} {s : List UInt8} {st : Int} {frm i : Nat}
    (hB : Blk w g 62 (0, 0) [.string (mk s), y1, .int .u8 st, y3, .int .i64 frm, .int .i64 bg, y6, y7, .slice va vn vc, y9, y10, y11, y12])
    (ho : Own trE w base (.slice va vn vc) l) (hl : l.length = vn) (hb : base ≤ w.heap.size) (hvn : vn < 64) (h0 : 0 < vn) (h1 : frm ≤ i) (h2 : i ≤ s.length) :
    Calls Tryd.prog 34 #[.pointer (some ⟨g, 0, none⟩), .int .i64 i] w fun e w' => e = .returned (.bool true) ∧ ∃ a c V, w.grownBy V (Value.slice va vn vc).ownBlock ∧ V.grownBy w' (some g) ∧
      Blk w' g 62 (0, 0) [.string (mk s), y1, .int .u8 st, y3, .int .i64 frm, .int .i64 bg, y6, y7, .slice a (vn + 1) c, y9, y10, y11, y12] ∧ Own trE w' base (.slice a (vn + 1) c) (l ++ [((s.take i).drop frm, st == 2)]) := by
  have B1 := Lib.hid hB
  have c8 : w.cell? ⟨g, 8, none⟩ = some (.slice va vn vc) := (hB.cell 8).trans rfl
  have hwI : (0 : Int) < vn := by omega
  have hwI2 : (vn : Int) < 64 := by omega
  have e0 : ((vn : Int) == 0) = false := by simp; omega
  have e64 : ((vn : Int) == 64) = false := by simp; omega
  have HO := Lib.hid ho
  clear hB ho
  go_enter Tryd.func34, Tryd.ntmps34
  go_upto_region 6 with (fail)
  refine word_reg _ _ _ _ _ _ _ _ _ _ _ _ _ _ _ _ _ _ _ _ _ _ _ _ _ _ _ _ _ _ _ _ _ _ _ _ _ _ _ _ _ _ _ _ _ _ _ _ _ _ _ _ _ _ _ _ _ _ _ _ _ _ _ _ _ _ _ _ _ _ _ _ _ _ _ _ B1.out HO.out hl hb (by omega) h1 h2 ?_
  intro x35 x36 x37 x38 x39 x40 x41 x42 x43 x44 x45 x46 x47 x48 x49 x50 x51 x52 x53 x54 x55 x56 x57 x58 x59 x60 x61 V V1 a c hg1 hg2 hB2 hO2
  try dsimp only
  have G1 := Lib.hid hg1
  have G2 := Lib.hid hg2
  have B2 := Lib.hid hB2
  have O2 := Lib.hid hO2
  clear hg1 hg2 hB2 hO2
  go_wp2_with fail
  go_ret
  exact ⟨rfl, a, c, V1, G1.out, G2.out, B2.out, O2.out⟩
set_option maxHeartbeats 8000000 in
set_option maxRecDepth 100000 in
theorem word_first {w : World} {g base : Nat} {y1 y3 y6 y7 y9 y10 y11 y12 : Value} {bg : Int} {va : Option Addr} {vc : Nat} {s : List UInt8} {st : Int} {frm i : Nat}
    (hB : Blk w g 62 (0, 0) [.string (mk s), y1, .int .u8 st, y3, .int .i64 frm, .int .i64 bg, y6, y7, .slice va 0 vc, y9, y10, y11, y12])
    (ho : Own trE w base (.slice va 0 vc) []) (hb : base ≤ w.heap.size) (h1 : frm ≤ i) (h2 : i ≤ s.length) :
    Calls Tryd.prog 34 #[.pointer (some ⟨g, 0, none⟩), .int .i64 i] w fun e w' => e = .returned (.bool true) ∧ ∃ a c V V0 C0, w.grownBy V0 (some g) ∧ Blk V0 g 62 (0, 0) C0 ∧ V0.grownBy V (Value.slice va 0 vc).ownBlock ∧ V.grownBy w' (some g) ∧
      Blk w' g 62 (0, 0) [.string (mk s), y1, .int .u8 st, y3, .int .i64 frm, .int .i64 bg, .int .i64 bg, y7, .slice a 1 c, y9, y10, y11, y12] ∧ Own trE w' base (.slice a 1 c) [((s.take i).drop frm, st == 2)] := by
  have B1 := Lib.hid hB
  have c5 : w.cell? ⟨g, 5, none⟩ = some (.int .i64 bg) := (hB.cell 5).trans rfl
  have c6 : w.cell? ⟨g, 6, none⟩ = some y6 := (hB.cell 6).trans rfl
  have c8 : w.cell? ⟨g, 8, none⟩ = some (.slice va 0 vc) := (hB.cell 8).trans rfl
  have z6 : w.frozen? ⟨g, 6, none⟩ = false := by rw [hB.frozen]; rfl
  have HO := Lib.hid ho
  clear hB ho
  go_enter Tryd.func34, Tryd.ntmps34
  go_upto_region 3 with (fail)
  obtain ⟨Y, hY⟩ : ∃ Y, w.setCell ⟨g, 6, none⟩ (.int .i64 bg) = Y := ⟨_, rfl⟩
  rw [hY]
  have G0 : Hid (w.grownBy Y (some g)) := Lib.hid (by rw [← hY]; exact grown_set _ _ _ _)
  have BY : Hid (Blk Y g 62 (0, 0) [.string (mk s), y1, .int .u8 st, y3, .int .i64 frm, .int .i64 bg, .int .i64 bg, y7, .slice va 0 vc, y9, y10, y11, y12]) := Lib.hid (by rw [← hY]; exact B1.out.set 6 _)
  have OY := Lib.hid (own_store HO.out B1.out (by decide) G0.out)
  have d8 : Y.cell? ⟨g, 8, none⟩ = some (.slice va 0 vc) := (BY.out.cell 8).trans rfl
  clear hY c5 c6 c8 z6
  go_upto_region 6 with (fail)
  refine word_reg _ _ _ _ _ _ _ _ _ _ _ _ _ _ _ _ _ _ _ _ _ _ _ _ _ _ _ _ _ _ _ _ _ _ _ _ _ _ _ _ _ _ _ _ _ _ _ _ _ _ _ _ _ _ _ _ _ _ _ _ _ _ _ _ _ _ _ _ _ _ _ _ _ _ _ _ BY.out OY.out rfl (Nat.le_trans hb G0.out.size) (by omega) h1 h2 ?_
  intro x35 x36 x37 x38 x39 x40 x41 x42 x43 x44 x45 x46 x47 x48 x49 x50 x51 x52 x53 x54 x55 x56 x57 x58 x59 x60 x61 V V1 a c hg1 hg2 hB2 hO2
  try dsimp only
  have G1 := Lib.hid hg1
  have G2 := Lib.hid hg2
  have B2 := Lib.hid hB2
  have O2 := Lib.hid hO2
  clear hg1 hg2 hB2 hO2
  go_wp2_with fail
  go_ret
  exact ⟨rfl, a, c, V1, Y, _, G0.out, BY.out, G1.out, G2.out, B2.out, O2.out⟩
end Go.Proofs.YtojdjhicjhhblaaDoor
