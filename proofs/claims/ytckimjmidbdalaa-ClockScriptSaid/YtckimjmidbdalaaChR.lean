/- Layer 22: the document's chance. -/
import Derived.Test.YtckimjmidbdalaaCh
namespace Go.Proofs.Ytckimjmidbdalaa
open Go.RowKit
set_option maxHeartbeats 2000000 in
set_option maxRecDepth 100000 in
theorem rchance_draw {w : World} {g : Nat} {s : Int} (h : Blk w g 65 (0, 0) [.int .u64 s]) (n : Int) :
    Calls Try.prog 13 #[.pointer (some ⟨g, 0, none⟩), .int .u64 n] w fun en w' => en = .returned (.int .u64 (drawS s n)) ∧ Blk w' g 65 (0, 0) [.int .u64 (nextS s n)] ∧ w.grownBy w' (some g) := by
  have c0 : w.cell? ⟨g, 0, none⟩ = some (.int .u64 s) := by rw [h.cell]; rfl
  have f0 : w.frozen? ⟨g, 0, none⟩ = false := by rw [h.frozen]; simp
  by_cases hn : n = 0
  · subst hn
    have hH := Lib.hid h; clear h
    go_enter Try.func13, Try.ntmps13
    go_wp2
    go_ret
    exact ⟨rfl, hH.out, grown_refl _ _⟩
  · have hH := Lib.hid h; clear h
    go_enter Try.func13, Try.ntmps13
    go_wp2_with fail
    have hB1 : Blk ((w.setCell ⟨g, 0, none⟩ (.int .u64 (bits BinOp.xor IntKind.u64 s (IntKind.u64.wrap (s * 8192))))).drew) g 65 (0, 0) [.int .u64 (x1 s)] := (hH.out.set 0 _).drew
    have hG1 : w.grownBy ((w.setCell ⟨g, 0, none⟩ (.int .u64 (bits BinOp.xor IntKind.u64 s (IntKind.u64.wrap (s * 8192))))).drew) (some g) := grown_trans (grown_set _ _ _ _) (grown_drewN _ 1 _)
    go_region
    generalize hW1 : (w.setCell ⟨g, 0, none⟩ (.int .u64 (bits BinOp.xor IntKind.u64 s (IntKind.u64.wrap (s * 8192))))).drew = w1 at *
    have c1 : w1.cell? ⟨g, 0, none⟩ = some (.int .u64 (x1 s)) := by rw [hB1.cell]; rfl
    have f1 : w1.frozen? ⟨g, 0, none⟩ = false := by rw [hB1.frozen]; simp
    clear hW1
    have hB1 := Lib.hid hB1
    go_wp2_with fail
    have hB2 : Blk ((w1.setCell ⟨g, 0, none⟩ (.int .u64 (bits BinOp.xor IntKind.u64 (x1 s) (x1 s / 128)))).drew) g 65 (0, 0) [.int .u64 (x2 (x1 s))] := (hB1.out.set 0 _).drew
    have hG2 : w1.grownBy ((w1.setCell ⟨g, 0, none⟩ (.int .u64 (bits BinOp.xor IntKind.u64 (x1 s) (x1 s / 128)))).drew) (some g) := grown_trans (grown_set _ _ _ _) (grown_drewN _ 1 _)
    go_region
    generalize hW2 : (w1.setCell ⟨g, 0, none⟩ (.int .u64 (bits BinOp.xor IntKind.u64 (x1 s) (x1 s / 128)))).drew = w2 at *
    have c2 : w2.cell? ⟨g, 0, none⟩ = some (.int .u64 (x2 (x1 s))) := by rw [hB2.cell]; rfl
    have f2 : w2.frozen? ⟨g, 0, none⟩ = false := by rw [hB2.frozen]; simp
    clear hW2
    have hB2 := Lib.hid hB2
    go_wp2_with fail
    have hB3 : Blk ((w2.setCell ⟨g, 0, none⟩ (.int .u64 (bits BinOp.xor IntKind.u64 (x2 (x1 s)) (IntKind.u64.wrap (x2 (x1 s) * 131072))))).drew) g 65 (0, 0) [.int .u64 (x3 (x2 (x1 s)))] := (hB2.out.set 0 _).drew
    have hG3 : w2.grownBy ((w2.setCell ⟨g, 0, none⟩ (.int .u64 (bits BinOp.xor IntKind.u64 (x2 (x1 s)) (IntKind.u64.wrap (x2 (x1 s) * 131072))))).drew) (some g) := grown_trans (grown_set _ _ _ _) (grown_drewN _ 1 _)
    go_region
    generalize hW3 : (w2.setCell ⟨g, 0, none⟩ (.int .u64 (bits BinOp.xor IntKind.u64 (x2 (x1 s)) (IntKind.u64.wrap (x2 (x1 s) * 131072))))).drew = w3 at *
    have c3 : w3.cell? ⟨g, 0, none⟩ = some (.int .u64 (x3 (x2 (x1 s)))) := by rw [hB3.cell]; rfl
    have f3 : w3.frozen? ⟨g, 0, none⟩ = false := by rw [hB3.frozen]; simp
    clear hW3
    have hB3 := Lib.hid hB3
    go_wp2_with fail
    go_ret
    refine ⟨?_, ?_, grown_trans hG1 (grown_trans hG2 hG3)⟩
    · simp [drawS, hn, xs]
    · simp only [nextS, hn, if_false]; exact hB3.out
end Go.Proofs.Ytckimjmidbdalaa
