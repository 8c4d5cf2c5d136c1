/- Layer 22: container/heap over the timers. -/
import Derived.Test.YtckimjmidbdalaaTmr
import Derived.Test.YtckimjmidbdalaaMeth
namespace Go.Proofs.Ytckimjmidbdalaa
open Go.RowKit
/-- cell 2 of block c holds the timers l -/
structure HP (w : World) (c g cap : Nat) (l : List Tm) : Prop where
  cell : w.cell? ⟨c, 2, none⟩ = some (.slice (some ⟨g, 0, none⟩) l.length cap)
  tl : TL w g cap l
  ne : c ≠ g
theorem HP.grown {w w' : World} {c g cap : Nat} {l l' : List Tm} (h : HP w c g cap l) (hl : l'.length = l.length) (ht : TL w' g cap l') (hg : w.grownBy w' (some g)) : HP w' c g cap l' :=
  ⟨by rw [hl, ← h.cell]; exact World.cell?_of_block (w := w) (hg.block c (World.block_lt_of_cell? w _ h.cell) (fun e => h.ne (by cases e; rfl))), ht, h.ne⟩
theorem HP.drewN {w : World} {c g cap : Nat} {l : List Tm} (h : HP w c g cap l) (n : Nat) : HP (w.drewN n) c g cap l := ⟨h.cell, h.tl, h.ne⟩
theorem m_less (a : Addr) (w : World) (v : Value) (h : w.cell? a = some v) : (method 199 69 (.pointer (some a)) "Less").run Try.prog w = .ok (57, v) w :=
  method_one 69 56 57 "Less" 198 (by kernel_rfl) Try.underlying69 Try.isAgg56 a w v h
theorem m_swap (a : Addr) (w : World) (v : Value) (h : w.cell? a = some v) : (method 199 69 (.pointer (some a)) "Swap").run Try.prog w = .ok (58, v) w :=
  method_one 69 56 58 "Swap" 198 (by kernel_rfl) Try.underlying69 Try.isAgg56 a w v h
theorem m_len (a : Addr) (w : World) (v : Value) (h : w.cell? a = some v) : (method 199 69 (.pointer (some a)) "Len").run Try.prog w = .ok (56, v) w :=
  method_one 69 56 56 "Len" 198 (by kernel_rfl) Try.underlying69 Try.isAgg56 a w v h
theorem less_i {w : World} {g cap n : Nat} {l : List Tm} (h : TL w g cap l) (i j : Nat) (hi : i < l.length) (hj : j < l.length) {p q : Int} (ep : p = i) (eq : q = j) (en : n = l.length) :
    Calls Try.prog 57 #[.slice (some ⟨g, 0, none⟩) n cap, .int .i64 p, .int .i64 q] w fun e w' => e = .returned (.bool ((gt l i).lt (gt l j))) ∧ ∃ k, w' = w.drewN k := by
  subst ep eq en; exact less_any h i j hi hj
theorem swap_i {w : World} {g cap n : Nat} {l : List Tm} (h : TL w g cap l) (i j : Nat) (hi : i < l.length) (hj : j < l.length) {p q : Int} (ep : p = i) (eq : q = j) (en : n = l.length) :
    Calls Try.prog 58 #[.slice (some ⟨g, 0, none⟩) n cap, .int .i64 p, .int .i64 q] w fun e w' => e = .returned (.tuple #[]) ∧ TL w' g cap (swapL l i j) ∧ w.grownBy w' (some g) := by
  subst ep eq en; exact swap_any h i j hi hj
def ifc (c : Nat) : Value := .iface 69 (.pointer (some ⟨c, 2, none⟩))
theorem upL_zero (l : List Tm) : upL l 0 = l := by unfold upL; simp
theorem upL_yes (l : List Tm) (j : Nat) (h0 : j ≠ 0) (h : (gt l j).lt (gt l ((j - 1) / 2)) = true) : upL l j = upL (swapL l ((j - 1) / 2) j) ((j - 1) / 2) := by
  rw [upL]; simp only [h0, dif_neg, not_false_eq_true]; rw [if_pos (by exact h)]; rfl
theorem upL_no (l : List Tm) (j : Nat) (h : (gt l j).lt (gt l ((j - 1) / 2)) = false) : upL l j = l := by
  rw [upL]; split
  · rfl
  · rw [if_neg (by unfold par; rw [h]; simp)]
set_option maxHeartbeats 2000000 in
set_option maxRecDepth 100000 in
theorem up_any {w : World} {c g cap : Nat} {l : List Tm} (h : HP w c g cap l) (j : Nat) (hj : j < l.length) :
    Calls Try.prog 36 #[ifc c, .int .i64 j] w fun e w' => e = .returned (.tuple #[]) ∧ HP w' c g cap (upL l j) ∧ w.grownBy w' (some g) := by
  unfold ifc
  have hH := Lib.hid h
  clear h
  go_enter Try.func36, Try.ntmps36
  go_wp2_with fail
  go_loopw [1] (fun i wr => ∃ k l', i = .int .i64 (k : Nat) ∧ k < l'.length ∧ l'.length = l.length ∧ upL l' k = upL l j ∧ HP wr c g cap l' ∧ w.grownBy wr (some g))
    (fun i _ => (intOf i).toNat)
  case atStart => exact ⟨j, l, rfl, hj, rfl, rfl, hH.out, grown_refl _ _⟩
  case round =>
    obtain ⟨k, l', rfl, hk, hl0, hu, hP, hg⟩ := hrel
    have hl' := Lib.hid hl0
    clear hl0
    have hc := hP.cell
    have hkm : k ≤ 9223372036854775807 := by obtain ⟨X, _, h1, h2, h3, _⟩ := hP.tl; unfold maxLen at h3; omega
    have hPP := Lib.hid hP
    clear hP
    by_cases k0 : k = 0
    · subst k0
      go_wp2_with fail
      go_end0
      refine ⟨rfl, ?_, hg⟩
      rw [← hu, upL_zero]; exact hPP.out
    · have hml := m_less _ _ _ hc
      have hk1 : (k - 1) / 2 < k := by omega
      cases hlt : (gt l' k).lt (gt l' ((k - 1) / 2)) with
      | false =>
        go_wp2_with (go_at_call 57; refine (less_i hPP.out.tl k ((k - 1) / 2) hk (by omega) (by omega) (by omega) rfl).mono ?_; rw [hlt]; rintro e w1 ⟨rfl, nd, rfl⟩)
        go_end0
        refine ⟨rfl, ?_, grown_trans hg (grown_drewN _ _ _)⟩
        rw [← hu, upL_no _ _ hlt]; exact hPP.out.drewN _
      | true =>
        have hms := fun nd => m_swap ⟨c, 2, none⟩ (wr.drewN nd) _ hc
        go_wp2_with (first | (go_at_call 57; refine (less_i hPP.out.tl k ((k - 1) / 2) hk (by omega) (by omega) (by omega) rfl).mono ?_; rw [hlt]; rintro e w1 ⟨rfl, nd, rfl⟩) | (go_at_call 58; refine (swap_i (hPP.out.drewN _).tl ((k - 1) / 2) k (by omega) hk (by omega) (by omega) rfl).mono ?_; rintro e w2 ⟨rfl, hT2, hg2⟩))
        go_roundw
        case rel => exact ⟨(k - 1) / 2, swapL l' ((k - 1) / 2) k, by congr 1; omega, by rw [swapL_length]; omega, by rw [swapL_length, hl'.out], by rw [← hu, upL_yes _ _ k0 hlt], (hPP.out.drewN _).grown (swapL_length _ _ _) hT2 hg2, grown_trans hg (grown_trans (grown_drewN _ _ _) hg2)⟩
        case measure => simp [intOf]; omega
end Go.Proofs.Ytckimjmidbdalaa
