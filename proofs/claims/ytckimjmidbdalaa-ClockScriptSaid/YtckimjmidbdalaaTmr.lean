/- Layer 22: the timers in memory: Less, Swap. -/
import Derived.Test.YtckimjmidbdalaaClkLaw
import Derived.Test.YtckimjmidbdalaaChR
import Derived.BigQuiet
import Derived.Deep.QuietTactic
namespace Go.Proofs.Ytckimjmidbdalaa
open Go.RowKit
def timerE : Enc Tm := ⟨71, 3, fun t => [.int .i64 t.at_, .int .i64 t.turn, .int .i64 t.key], tz, fun _ => rfl, fun x v hv => by simp at hv; rcases hv with rfl | rfl | rfl <;> rfl, by decide⟩
/-- the block g holds cap timers, the first ones are l -/
def TL (w : World) (g cap : Nat) (l : List Tm) : Prop := ∃ X : List Tm, Blk w g 71 (0, 0) (rowOf timerE X) ∧ X.length = cap ∧ l.length ≤ cap ∧ cap ≤ maxLen ∧ X.take l.length = l
theorem TL.lt {w : World} {g cap : Nat} {l : List Tm} (h : TL w g cap l) : g < w.heap.size := by obtain ⟨X, h, _⟩ := h; exact h.lt
theorem TL.same {w w' : World} {g cap : Nat} {l : List Tm} (h : TL w g cap l) (e : w'.heap[g]? = w.heap[g]?) : TL w' g cap l := by obtain ⟨X, h, r⟩ := h; exact ⟨X, e.trans h, r⟩
theorem TL.drew {w : World} {g cap : Nat} {l : List Tm} (h : TL w g cap l) : TL w.drew g cap l := h
theorem TL.drewN {w : World} {g cap : Nat} {l : List Tm} (h : TL w g cap l) (n : Nat) : TL (w.drewN n) g cap l := h
theorem grown_drew (w : World) (r : Option Nat) : w.grownBy w.drew r := ⟨rfl, rfl, rfl, Nat.le_refl _, fun _ _ _ => rfl⟩
theorem TL.cells {w : World} {g cap : Nat} {l : List Tm} (h : TL w g cap l) (j : Nat) (hj : j < l.length) :
    w.cell? ⟨g, j * 3, none⟩ = some (.int .i64 (gt l j).at_) ∧ w.cell? ⟨g, j * 3 + 1, none⟩ = some (.int .i64 (gt l j).turn) ∧ w.cell? ⟨g, j * 3 + 2, none⟩ = some (.int .i64 (gt l j).key) := by
  obtain ⟨X, hB, h1, h2, h3, h4⟩ := h
  have e : l[j] = X[j]'(by omega) := by
    have : l[j] = (X.take l.length)[j]'(by simp; omega) := by congr 1; exact h4.symm
    rw [this, List.getElem_take]
  rw [gt_eq _ _ hj, e]
  refine ⟨?_, ?_, ?_⟩
  · have := rowOf_get timerE X j 0 (by omega) (by decide); rw [hB.cell]; simpa [timerE] using this
  · have := rowOf_get timerE X j 1 (by omega) (by decide); rw [hB.cell]; simpa [timerE] using this
  · have := rowOf_get timerE X j 2 (by omega) (by decide); rw [hB.cell]; simpa [timerE] using this
theorem TL.unfrozen {w : World} {g cap : Nat} {l : List Tm} (h : TL w g cap l) (j : Nat) : w.frozen? ⟨g, j, none⟩ = false := by obtain ⟨X, hB, _⟩ := h; rw [hB.frozen]; simp
theorem TL.set3 {w : World} {g cap : Nat} {l : List Tm} (h : TL w g cap l) (j : Nat) (t : Tm) (hj : j < l.length) :
    TL (((w.setCell ⟨g, j * 3, none⟩ (.int .i64 t.at_)).setCell ⟨g, j * 3 + 1, none⟩ (.int .i64 t.turn)).setCell ⟨g, j * 3 + 2, none⟩ (.int .i64 t.key)) g cap (l.set j t) := by
  obtain ⟨X, hB, h1, h2, h3, h4⟩ := h
  have hl : (rowOf timerE X).length = cap * 3 := by rw [rowOf_length, h1]; rfl
  have hs := setCells_blk (timerE.f t) (j * 3) w hB (by rw [hl, timerE.len]; show j * 3 + 3 ≤ _; omega)
  have e : splice (rowOf timerE X) (j * 3) (timerE.f t) = rowOf timerE (X.set j t) := by
    unfold splice
    have r1 := rowOf_take timerE X j
    have r2 := rowOf_drop timerE X (j + 1)
    have k3 : timerE.k = 3 := rfl
    rw [k3] at r1 r2
    rw [timerE.len, k3, r1, show j * 3 + 3 = (j + 1) * 3 by omega, r2, List.set_eq_take_append_cons_drop, if_pos (by omega)]
    simp [rowOf]
  rw [e] at hs
  refine ⟨X.set j t, hs, by simpa using h1, by simpa using h2, h3, ?_⟩
  rw [List.length_set, List.take_set, h4]
theorem grown_set3 (w : World) (g a b c : Nat) (x y z : Value) : w.grownBy (((w.setCell ⟨g, a, none⟩ x).setCell ⟨g, b, none⟩ y).setCell ⟨g, c, none⟩ z) (some g) :=
  grown_trans (grown_set _ _ _ _) (grown_trans (grown_set _ _ _ _) (grown_set _ _ _ _))
set_option maxHeartbeats 2000000 in
set_option maxRecDepth 100000 in
theorem less_any {w : World} {g cap : Nat} {l : List Tm} (h : TL w g cap l) (i j : Nat) (hi : i < l.length) (hj : j < l.length) :
    Calls Try.prog 57 #[.slice (some ⟨g, 0, none⟩) l.length cap, .int .i64 i, .int .i64 j] w fun e w' => e = .returned (.bool ((gt l i).lt (gt l j))) ∧ ∃ k, w' = w.drewN k := by
  obtain ⟨a1, a2, _⟩ := h.cells i hi
  obtain ⟨b1, b2, _⟩ := h.cells j hj
  have hc : l.length ≤ cap := by obtain ⟨X, _, _, h, _⟩ := h; exact h
  clear h
  by_cases e : (gt l i).at_ = (gt l j).at_
  · have hr : (gt l i).lt (gt l j) = decide ((gt l i).turn < (gt l j).turn) := by unfold Tm.lt; rw [if_pos e]
    rw [hr]
    rw [e] at a1
    generalize (gt l i).turn = p at *
    generalize (gt l j).turn = q at *
    generalize (gt l j).at_ = r at *
    go_enter Try.func57, Try.ntmps57
    go_wp2_with fail
    go_quiet (fail)
    go_wp2_with fail
    go_quiet (fail)
    go_wp2_with fail
    go_ret
    exact ⟨rfl, _, World.drewN_drewN _ _ _⟩
  · have hr : (gt l i).lt (gt l j) = decide ((gt l i).at_ < (gt l j).at_) := by unfold Tm.lt; rw [if_neg e]
    rw [hr]
    generalize (gt l i).at_ = p at *
    generalize (gt l j).at_ = q at *
    go_enter Try.func57, Try.ntmps57
    go_wp2_with fail
    go_quiet (fail)
    go_wp2_with fail
    go_quiet (fail)
    go_wp2_with fail
    go_ret
    exact ⟨rfl, _, World.drewN_drewN _ _ _⟩
set_option maxHeartbeats 2000000 in
set_option maxRecDepth 100000 in
theorem swap_any {w : World} {g cap : Nat} {l : List Tm} (h : TL w g cap l) (i j : Nat) (hi : i < l.length) (hj : j < l.length) :
    Calls Try.prog 58 #[.slice (some ⟨g, 0, none⟩) l.length cap, .int .i64 i, .int .i64 j] w fun e w' => e = .returned (.tuple #[]) ∧ TL w' g cap (swapL l i j) ∧ w.grownBy w' (some g) := by
  obtain ⟨a1, a2, a3⟩ := h.cells i hi
  obtain ⟨b1, b2, b3⟩ := h.cells j hj
  have fz := h.unfrozen
  have f1 := fz (i * 3)
  have f2 := fz (i * 3 + 1)
  have f3 := fz (i * 3 + 2)
  have f4 := fz (j * 3)
  have f5 := fz (j * 3 + 1)
  have f6 := fz (j * 3 + 2)
  have hc : l.length ≤ cap := by obtain ⟨X, _, _, h, _⟩ := h; exact h
  have h0 := h
  clear h fz
  have hT2 := (h0.set3 i (gt l j) hi).set3 j (gt l i) (by simpa using hj)
  have hG := grown_trans (grown_set3 w g (i * 3) (i * 3 + 1) (i * 3 + 2) (.int .i64 (gt l j).at_) (.int .i64 (gt l j).turn) (.int .i64 (gt l j).key)) (grown_set3 _ g (j * 3) (j * 3 + 1) (j * 3 + 2) (.int .i64 (gt l i).at_) (.int .i64 (gt l i).turn) (.int .i64 (gt l i).key))
  have hH := Lib.hid hT2
  have hGG := Lib.hid hG
  clear h0 hT2 hG
  unfold swapL
  by_cases hij : i = j
  · subst hij
    generalize gt l i = p at *
    clear b1 b2 b3
    go_enter Try.func58, Try.ntmps58
    go_wp2_with fail
    go_region
    go_end0
    exact ⟨rfl, hH.out.drew, grown_trans hGG.out (grown_drew _ _)⟩
  · generalize gt l i = p at *
    generalize gt l j = q at *
    have hn1 : i * 3 ≠ j * 3 := by omega
    have hn2 : j * 3 ≠ i * 3 := by omega
    go_enter Try.func58, Try.ntmps58
    go_wp2_with fail
    go_region
    go_end0
    exact ⟨rfl, hH.out.drew, grown_trans hGG.out (grown_drew _ _)⟩
end Go.Proofs.Ytckimjmidbdalaa
