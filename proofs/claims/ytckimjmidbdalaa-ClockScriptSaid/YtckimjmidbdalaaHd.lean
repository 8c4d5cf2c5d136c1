/- Layer 22: container/heap over the timers: down, Init. -/
import Derived.Test.YtckimjmidbdalaaHp
namespace Go.Proofs.Ytckimjmidbdalaa
open Go.RowKit
theorem downL_out0 (l : List Tm) (k n : Nat) (h : n ≤ 2 * k + 1) : downL l k n = l := by rw [downL]; simp [h]
theorem downL_yes (l : List Tm) (k n : Nat) (h : 2 * k + 1 < n) (ht : (gt l (least l k n)).lt (gt l k) = true) : downL l k n = downL (swapL l k (least l k n)) (least l k n) n := by
  rw [downL]; rw [dif_neg (by omega), if_pos ht]
theorem downL_no (l : List Tm) (k n : Nat) (ht : (gt l (least l k n)).lt (gt l k) = false) : downL l k n = l := by
  rw [downL]; split
  · rfl
  · rw [if_neg (by rw [ht]; simp)]
set_option maxHeartbeats 4000000 in
set_option maxRecDepth 100000 in
theorem down_any {w : World} {c g cap : Nat} {l : List Tm} (h : HP w c g cap l) (i0 n : Nat) (hn : n ≤ l.length) (hm : l.length ≤ 1073741824) (hi0 : i0 ≤ 1073741824) :
    Calls Try.prog 37 #[ifc c, .int .i64 i0, .int .i64 n] w fun e w' => (∃ v, e = .returned v) ∧ HP w' c g cap (downL l i0 n) ∧ w.grownBy w' (some g) := by
  unfold ifc
  have hH := Lib.hid h
  clear h
  go_enter Try.func37, Try.ntmps37
  go_wp2_with fail
  go_loopw [7] (fun i wr => ∃ k l', i = .int .i64 (k : Nat) ∧ k ≤ 1073741824 ∧ l'.length = l.length ∧ downL l' k n = downL l i0 n ∧ HP wr c g cap l' ∧ w.grownBy wr (some g))
    (fun i _ => n - (intOf i).toNat)
  case atStart => exact ⟨i0, l, rfl, hi0, rfl, rfl, hH.out, grown_refl _ _⟩
  case round =>
    obtain ⟨k, l', rfl, hk, hl0, hu, hP, hg⟩ := hrel
    have hn' : n ≤ l'.length := by omega
    have hm' : l'.length ≤ 1073741824 := by omega
    have hl' := Lib.hid hl0
    clear hl0
    have hc := hP.cell
    have hPP := Lib.hid hP
    clear hP
    by_cases h1 : n ≤ 2 * k + 1
    · go_wp2_with fail
      go_ret
      refine ⟨⟨_, rfl⟩, ?_, hg⟩
      rw [← hu, downL_out0 _ _ _ h1]; exact hPP.out
    · have hml := fun nd => m_less ⟨c, 2, none⟩ (wr.drewN nd) _ hc
      have hml0 := m_less ⟨c, 2, none⟩ wr _ hc
      have hms := fun nd => m_swap ⟨c, 2, none⟩ (wr.drewN nd) _ hc
      by_cases h2 : 2 * k + 2 < n
      · cases hlt : (gt l' (2 * k + 2)).lt (gt l' (2 * k + 1)) with
        | true =>
          have hj : least l' k n = 2 * k + 2 := by unfold least; rw [if_pos ⟨h2, hlt⟩]
          cases hlt2 : (gt l' (2 * k + 2)).lt (gt l' k) with
          | false =>
            go_wp2_with (first | (go_at_call 57; refine (less_i hPP.out.tl (2 * k + 2) (2 * k + 1) (by omega) (by omega) (by omega) (by omega) rfl).mono ?_; rw [hlt]; rintro e w1 ⟨rfl, nd, rfl⟩) | (go_at_call 57; refine (less_i (hPP.out.drewN _).tl (2 * k + 2) k (by omega) (by omega) (by omega) (by omega) rfl).mono ?_; rw [hlt2]; rintro e w1 ⟨rfl, nd2, rfl⟩))
            go_ret
            refine ⟨⟨_, rfl⟩, ?_, grown_trans hg (grown_drewN _ _ _)⟩
            rw [← hu, downL_no _ _ _ (by rw [hj]; exact hlt2)]; exact hPP.out.drewN _
          | true =>
            go_wp2_with (first | (go_at_call 57; refine (less_i hPP.out.tl (2 * k + 2) (2 * k + 1) (by omega) (by omega) (by omega) (by omega) rfl).mono ?_; rw [hlt]; rintro e w1 ⟨rfl, nd, rfl⟩) | (go_at_call 57; refine (less_i (hPP.out.drewN _).tl (2 * k + 2) k (by omega) (by omega) (by omega) (by omega) rfl).mono ?_; rw [hlt2]; rintro e w1 ⟨rfl, nd2, rfl⟩) | (go_at_call 58; refine (swap_i (hPP.out.drewN _).tl k (2 * k + 2) (by omega) (by omega) (by omega) (by omega) rfl).mono ?_; rintro e w2 ⟨rfl, hT2, hg2⟩))
            go_roundw
            case rel => exact ⟨(2 * k + 2), swapL l' k (2 * k + 2), by congr 1, by omega, by rw [swapL_length, hl'.out], by rw [← hu, downL_yes l' k n (by omega) (by rw [hj]; exact hlt2), hj], (hPP.out.drewN _).grown (swapL_length _ _ _) hT2 hg2, grown_trans hg (grown_trans (grown_drewN _ _ _) hg2)⟩
            case measure => simp [intOf]; omega
        | false =>
          have hj : least l' k n = 2 * k + 1 := by unfold least; rw [if_neg (fun hx => by rw [hlt] at hx; simp at hx)]
          cases hlt2 : (gt l' (2 * k + 1)).lt (gt l' k) with
          | false =>
            go_wp2_with (first | (go_at_call 57; refine (less_i hPP.out.tl (2 * k + 2) (2 * k + 1) (by omega) (by omega) (by omega) (by omega) rfl).mono ?_; rw [hlt]; rintro e w1 ⟨rfl, nd, rfl⟩) | (go_at_call 57; refine (less_i (hPP.out.drewN _).tl (2 * k + 1) k (by omega) (by omega) (by omega) (by omega) rfl).mono ?_; rw [hlt2]; rintro e w1 ⟨rfl, nd2, rfl⟩))
            go_ret
            refine ⟨⟨_, rfl⟩, ?_, grown_trans hg (grown_drewN _ _ _)⟩
            rw [← hu, downL_no _ _ _ (by rw [hj]; exact hlt2)]; exact hPP.out.drewN _
          | true =>
            go_wp2_with (first | (go_at_call 57; refine (less_i hPP.out.tl (2 * k + 2) (2 * k + 1) (by omega) (by omega) (by omega) (by omega) rfl).mono ?_; rw [hlt]; rintro e w1 ⟨rfl, nd, rfl⟩) | (go_at_call 57; refine (less_i (hPP.out.drewN _).tl (2 * k + 1) k (by omega) (by omega) (by omega) (by omega) rfl).mono ?_; rw [hlt2]; rintro e w1 ⟨rfl, nd2, rfl⟩) | (go_at_call 58; refine (swap_i (hPP.out.drewN _).tl k (2 * k + 1) (by omega) (by omega) (by omega) (by omega) rfl).mono ?_; rintro e w2 ⟨rfl, hT2, hg2⟩))
            go_roundw
            case rel => exact ⟨(2 * k + 1), swapL l' k (2 * k + 1), by congr 1, by omega, by rw [swapL_length, hl'.out], by rw [← hu, downL_yes l' k n (by omega) (by rw [hj]; exact hlt2), hj], (hPP.out.drewN _).grown (swapL_length _ _ _) hT2 hg2, grown_trans hg (grown_trans (grown_drewN _ _ _) hg2)⟩
            case measure => simp [intOf]; omega
      · have hj : least l' k n = 2 * k + 1 := by unfold least; rw [if_neg (fun hx => h2 hx.1)]
        cases hlt2 : (gt l' (2 * k + 1)).lt (gt l' k) with
        | false =>
          go_wp2_with (first | (go_at_call 57; refine (less_i hPP.out.tl (2 * k + 1) k (by omega) (by omega) (by omega) (by omega) rfl).mono ?_; rw [hlt2]; rintro e w1 ⟨rfl, nd2, rfl⟩))
          go_ret
          refine ⟨⟨_, rfl⟩, ?_, grown_trans hg (grown_drewN _ _ _)⟩
          rw [← hu, downL_no _ _ _ (by rw [hj]; exact hlt2)]; exact hPP.out.drewN _
        | true =>
          go_wp2_with (first | (go_at_call 57; refine (less_i hPP.out.tl (2 * k + 1) k (by omega) (by omega) (by omega) (by omega) rfl).mono ?_; rw [hlt2]; rintro e w1 ⟨rfl, nd2, rfl⟩) | (go_at_call 58; refine (swap_i (hPP.out.drewN _).tl k (2 * k + 1) (by omega) (by omega) (by omega) (by omega) rfl).mono ?_; rintro e w2 ⟨rfl, hT2, hg2⟩))
          go_roundw
          case rel => exact ⟨(2 * k + 1), swapL l' k (2 * k + 1), by congr 1, by omega, by rw [swapL_length, hl'.out], by rw [← hu, downL_yes l' k n (by omega) (by rw [hj]; exact hlt2), hj], (hPP.out.drewN _).grown (swapL_length _ _ _) hT2 hg2, grown_trans hg (grown_trans (grown_drewN _ _ _) hg2)⟩
          case measure => simp [intOf]; omega
end Go.Proofs.Ytckimjmidbdalaa
