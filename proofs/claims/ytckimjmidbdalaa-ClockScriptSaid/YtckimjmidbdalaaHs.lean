/- Layer 22: container/heap over the timers: Pop, Init. -/
import Derived.Test.YtckimjmidbdalaaHr
namespace Go.Proofs.Ytckimjmidbdalaa
open Go.RowKit
theorem HO.hp {w : World} {c g cap : Nat} {n T b : Value} {l : List Tm} (h : HO w c n T (.slice (some ⟨g, 0, none⟩) l.length cap) b l) (h0 : 0 < l.length) : HP w c g cap l ∧ c + 1 ≤ g := by
  obtain ⟨g', cap', e, hbg, hT⟩ := own_tl h.own h0
  cases e
  exact ⟨⟨h.cell.2.2.1, hT, by omega⟩, hbg⟩
theorem HO.of_hp {w w' : World} {c g cap : Nat} {n T v b : Value} {l l' : List Tm} (h : HO w c n T v b l) (hv : v = .slice (some ⟨g, 0, none⟩) l.length cap) (hl : l'.length = l.length) (h1 : HP w' c g cap l') (hbg : c + 1 ≤ g) (hg : w.grownBy w' (some g)) : HO w' c n T v b l' := by
  subst hv
  refine ⟨(hg.block c h.lt (by simp; omega)).trans h.blk, ?_⟩
  rw [← hl]; exact tl_own h1.tl hbg
theorem down_i {w : World} {c g cap : Nat} {l : List Tm} (h : HP w c g cap l) (i0 n : Nat) (hn : n ≤ l.length) (hm : l.length ≤ 1073741824) (hi0 : i0 ≤ 1073741824) {p q : Int} (ep : p = i0) (eq : q = n) :
    Calls Try.prog 37 #[.iface 69 (.pointer (some ⟨c, 2, none⟩)), .int .i64 p, .int .i64 q] w fun e w' => (∃ v, e = .returned v) ∧ HP w' c g cap (downL l i0 n) ∧ w.grownBy w' (some g) := by
  subst ep eq; exact down_any h i0 n hn hm hi0
set_option maxHeartbeats 2000000 in
set_option maxRecDepth 100000 in
theorem hpop_any {w : World} {c : Nat} {n T v b : Value} {l : List Tm} (h : HO w c n T v b l) (h0 : 0 < l.length) (hm : l.length ≤ 1073741824) :
    Calls Try.prog 29 #[ifc c] w fun e w' => e = .returned (tmV (gt l 0)) ∧ ∃ v', HO w' c n T v' b (popL l) ∧ Tn w w' c v.ownBlock ∧ v'.ownBlock = v.ownBlock := by
  obtain ⟨g, cap, rfl, hbg, hT⟩ := own_tl h.own h0
  clear hT
  have hP0 := (h.hp h0).1
  have hml := m_len ⟨c, 2, none⟩ w _ hP0.cell
  have hms := m_swap ⟨c, 2, none⟩ w _ hP0.cell
  have hmp := fun w => m_pop ⟨c, 2, none⟩ w
  have hH := Lib.hid h
  have hPP := Lib.hid hP0
  clear h hP0
  obtain ⟨m, hm1⟩ : ∃ m, l.length = m + 1 := ⟨l.length - 1, by omega⟩
  have hmh := Lib.hid hm1
  have hm2 : m + 1 ≤ 1073741824 := by omega
  rw [hm1] at hml hms
  have hsl : (swapL l 0 m).length = l.length := swapL_length _ _ _
  have hdl : (popA l).length = l.length := popA_length _
  have hpa : popA l = downL (swapL l 0 m) 0 m := by unfold popA; rw [hm1]; rfl
  have hlast : gt (popA l) ((popA l).length - 1) = gt l 0 := by rw [hdl]; exact popA_last l h0
  have htake : (popA l).take ((popA l).length - 1) = popL l := by unfold popL; rw [hdl]
  have h1 := Lib.hid hsl
  have h2 := Lib.hid hdl
  have h3 := Lib.hid hpa
  have h4 := Lib.hid hlast
  have h5 := Lib.hid htake
  clear hsl hdl hpa hlast htake hm1 hm h0
  unfold ifc
  go_enter Try.func29, Try.ntmps29
  go_wp2_with (first | (go_at_call 56; refine len_any.mono ?_; rintro e w1 ⟨rfl, rfl⟩) | (go_at_call 58; refine (swap_i hPP.out.tl 0 m (by have := hmh.out; omega) (by have := hmh.out; omega) (by rfl) (by omega) hmh.out.symm).mono ?_; rintro e w2 ⟨rfl, hT2, hg2⟩; have hP2 := Lib.hid (hPP.out.grown h1.out hT2 hg2)) | (go_at_call 37; refine (down_i hP2.out 0 m (by have := h1.out; have := hmh.out; omega) (by have := h1.out; have := hmh.out; omega) (by omega) (by rfl) (by omega)).mono ?_; rintro e w3 ⟨⟨v3, rfl⟩, hP3, hg3⟩))
  rw [← h3.out] at hP3
  have hP4 := Lib.hid hP3
  clear hP3
  have hgg := Lib.hid (grown_trans hg2 hg3)
  have hO := Lib.hid (hH.out.of_hp rfl h2.out hP4.out hbg hgg.out)
  refine (tpop_any (g := g) (cap := cap) (l := popA l) (n := n) (T := T) (b := b) (by rw [h2.out]; exact hO.out) (by have := h2.out; have := hmh.out; omega) (by have := h2.out; have := hmh.out; omega)).mono ?_
  rw [h4.out, h5.out]
  rintro e w5 ⟨rfl, hO5, hT5⟩
  have hO6 := Lib.hid hO5
  clear hO5
  unfold tmV
  go_wp2_with fail
  go_ret
  exact ⟨rfl, _, hO6.out, (Tn.of_grown hgg.out).trans hT5 (.inl rfl), rfl⟩
set_option maxHeartbeats 2000000 in
set_option maxRecDepth 100000 in
theorem hinit_any {w : World} {c : Nat} {n T v b : Value} {l : List Tm} (h : HO w c n T v b l) (hm : l.length ≤ 1073741824) :
    Calls Try.prog 35 #[ifc c] w fun e w' => e = .returned (.tuple #[]) ∧ HO w' c n T v b (initL (l.length / 2) l) ∧ Tn w w' c v.ownBlock := by
  obtain ⟨a, cap, rfl⟩ := h.own.shape
  have hml := m_len ⟨c, 2, none⟩ w _ h.cell.2.2.1
  have hH := Lib.hid h
  clear h
  unfold ifc
  go_enter Try.func35, Try.ntmps35
  go_wp2_with (go_at_call 56; refine len_any.mono ?_; rintro e w1 ⟨rfl, rfl⟩)
  go_loopw [3] (fun i wr => ∃ (k : Nat) (l' : List Tm), i = .int .i64 ((k : Int) - 1) ∧ k ≤ l.length / 2 ∧ l'.length = l.length ∧ initL k l' = initL (l.length / 2) l ∧ HO wr c n T (.slice a l.length cap) b l' ∧ Tn w wr c (Value.slice a l.length cap).ownBlock)
    (fun i _ => (intOf i + 1).toNat)
  case atStart => exact ⟨l.length / 2, l, by go_num, Nat.le_refl _, rfl, rfl, hH.out, Tn.refl _ _ _⟩
  case round =>
    obtain ⟨k, l', rfl, hk, hl0, hu, hO, hg⟩ := hrel
    have hl' := Lib.hid hl0
    clear hl0
    have hOO := Lib.hid hO
    have hgg := Lib.hid hg
    clear hO hg
    cases k with
    | zero =>
      go_wp2_with fail
      go_end0
      exact ⟨rfl, by rw [← hu]; exact hOO.out, hgg.out⟩
    | succ k =>
      have hl0 : 0 < l'.length := by have := hl'.out; omega
      have hO1 : HO wr c n T (.slice a l'.length cap) b l' := by rw [hl'.out]; exact hOO.out
      obtain ⟨g, cap', e, hbg, hT⟩ := own_tl hO1.own hl0
      cases e
      have hPP := Lib.hid (hO1.hp hl0).1
      clear hT hO1
      have e1 : ((k + 1 : Nat) : Int) - 1 = k := by omega
      go_wp2_with (go_at_call 37; refine (down_i hPP.out k l'.length (Nat.le_refl _) (by have := hl'.out; omega) (by omega) (by omega) (by have := hl'.out; omega)).mono ?_; rintro e w3 ⟨⟨v3, rfl⟩, hP3, hg3⟩)
      go_roundw
      case rel => exact ⟨k, downL l' k l'.length, by go_num, by omega, by rw [downL_length]; exact hl'.out, by rw [← hu]; rfl, hOO.out.of_hp (by rw [hl'.out]) (downL_length _ _ _) hP3 hbg hg3, hgg.out.trans (Tn.of_grown hg3) (.inl rfl)⟩
      case measure => simp [intOf]
end Go.Proofs.Ytckimjmidbdalaa
