/- lists 26; a reader that is none. -/
import Derived.Test.YtmimbfikjnfhdaaStD
namespace Go.Proofs.Ytmimbfikjnfhdaa
open Go.RowKit
set_option maxHeartbeats 8000000 in
set_option maxRecDepth 100000 in
theorem lists_any {w : World} {a a' : Option Addr} {n c n' c' : Nat} {XS YS : List (List UInt8)} (h : RdL w a n c XS) (h' : RdL w a' n' c' YS) (hn : n ≤ 1000000) (hn' : n' ≤ 1000000) :
    Calls Try.prog 26 #[.slice a n c, .slice a' n' c'] w fun e w' => e = .returned (.bool (decide (XS = YS))) ∧ Below w.heap.size w w' := by
  have hl := h.len
  have hl' := h'.len
  have hH := Lib.hid h
  have hH' := Lib.hid h'
  clear h h'
  by_cases hnn : n ≠ n'
  · have hne : decide (XS = YS) = false := by simp; intro e; rw [e] at hl; omega
    rw [hne]
    have hnI : (n : Int) ≠ n' := by omega
    go_enter Try.func26, Try.ntmps26
    go_wp2_with fail
    go_ret
    exact ⟨rfl, Below.refl _ _⟩
  have hnn : n = n' := by omega
  subst hnn
  go_enter Try.func26, Try.ntmps26
  go_wp2_with fail
  go_loopw [5] (fun i wr => ∃ k : Nat, k ≤ n ∧ i = .int .i64 k ∧ XS.take k = YS.take k ∧ Below w.heap.size w wr)
    (fun i _ => n - (intOf i).toNat)
  case atStart => exact ⟨0, Nat.zero_le _, rfl, rfl, Below.refl _ _⟩
  case round =>
    obtain ⟨k, hk, rfl, hq, hb⟩ := hrel
    by_cases hlt : k < n
    · obtain ⟨b, o, e1, hc1⟩ := (hH.out.ext hb).at_ (by omega)
      obtain ⟨b', o', e2, hc2⟩ := (hH'.out.ext hb).at_ (by omega)
      subst e1 e2
      obtain ⟨a1, n1, c1, hcell1, hr1⟩ := hc1 k (by omega)
      obtain ⟨a2, n2, c2, hcell2, hr2⟩ := hc2 k (by omega)
      have hr1' : Hid (Rd byteE wr.drew a1 n1 c1 (XS[k]'(by omega))) := Lib.hid (hr1.ext ((Below.refl _ _).drew))
      have hr2' : Hid (Rd byteE wr.drew a2 n2 c2 (YS[k]'(by omega))) := Lib.hid (hr2.ext ((Below.refl _ _).drew))
      have hkI : (k : Int) < n := by omega
      have hst : Hid (XS[k]'(by omega) = YS[k]'(by omega) → XS.take (k + 1) = YS.take (k + 1)) := Lib.hid fun e => by
        rw [List.take_succ_eq_append_getElem (by omega), List.take_succ_eq_append_getElem (by omega), hq, e]
      have hsn : Hid (XS[k]'(by omega) ≠ YS[k]'(by omega) → decide (XS = YS) = false) := Lib.hid fun e => by
        simp; intro e'; apply e; simp [e']
      generalize XS[k]'(by omega) = X at *
      generalize YS[k]'(by omega) = Y at *
      clear hc1 hc2 hr1 hr2 hq
      by_cases hXY : X = Y
      · subst hXY
        go_wp2_with fail
        go_region_held3 (fun w' => w'.cell? ⟨b, o + k, none⟩ = some (.slice a1 n1 c1) ∧ w'.cell? ⟨b', o' + k, none⟩ = some (.slice a2 n2 c2))
          (first | exact ⟨hcell1, hcell2⟩)
          (first | (go_at_call 21; refine (same_bytes hr1'.out hr2'.out).mono ?_; rw [beq_self_eq_true]; rintro e w5 ⟨rfl, rfl⟩))
        go_wp2_with fail
        go_roundw
        case rel => exact ⟨k + 1, by omega, by go_num, hst.out (by first | trivial | rfl), hb.drew⟩
        case measure => simp [intOf]; omega
      · have hbe : (X == Y) = false := by simp [hXY]
        have hfin := Lib.hid (hsn.out hXY)
        go_wp2_with fail
        go_region_held3 (fun w' => w'.cell? ⟨b, o + k, none⟩ = some (.slice a1 n1 c1) ∧ w'.cell? ⟨b', o' + k, none⟩ = some (.slice a2 n2 c2))
          (first | exact ⟨hcell1, hcell2⟩)
          (first | (go_at_call 21; refine (same_bytes hr1'.out hr2'.out).mono ?_; rw [hbe]; rintro e w5 ⟨rfl, rfl⟩))
        go_wp2_with fail
        go_ret
        rw [hfin.out]
        exact ⟨rfl, hb.drew⟩
    · have hk' : k = n := by omega
      have he : decide (XS = YS) = true := by
        rw [List.take_of_length_le (by omega), List.take_of_length_le (by omega)] at hq
        simp [hq]
      clear hq
      subst hk'
      go_wp2_with fail
      go_ret
      rw [he]
      exact ⟨rfl, hb⟩
end Go.Proofs.Ytmimbfikjnfhdaa
