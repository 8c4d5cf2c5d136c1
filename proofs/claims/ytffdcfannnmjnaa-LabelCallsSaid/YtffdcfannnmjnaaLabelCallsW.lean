/- LabelCalls returns true for any two texts. No condition. -/
import Derived.Test.YtffdcfannnmjnaaRef02
import Derived.Test.YtffdcfannnmjnaaParse3
namespace Go.Proofs.Ytffdcfannnmjnaa
open Go.RowKit
theorem checkB (l : List UInt8) (w : World) : Calls Try.prog 65 #[.string (mk l)] w fun e w' => e = .returned (.int .i64 (if 1 ≤ l.length ∧ l.length ≤ 63 then 0 else 4)) ∧ w = w' := by
  by_cases h : 1 ≤ l.length ∧ l.length ≤ 63
  · rw [if_pos h]; exact check_yes l w h
  · rw [if_neg h]; exact check_no l w (by omega)
theorem rcheckB (l : List UInt8) (w : World) : Calls Try.prog 66 #[.string (mk l)] w fun e w' => e = .returned (.int .i64 (if 1 ≤ l.length ∧ l.length ≤ 63 then 0 else 4)) ∧ w = w' := by
  by_cases h : 1 ≤ l.length ∧ l.length ≤ 63
  · rw [if_pos h]; exact rcheck_yes l w h
  · rw [if_neg h]; exact rcheck_no l w (by omega)
theorem star_any (l : List UInt8) (w : World) : Calls Try.prog 71 #[.string (mk l)] w fun e w' => e = .returned (.bool (l == [42])) ∧ w = w' := by
  go_enter Try.func71, Try.ntmps71
  go_wp2
  go_ret
  exact ⟨rfl, rfl⟩

set_option maxHeartbeats 4000000 in
set_option maxRecDepth 100000 in
theorem labelCalls_frame (a : List UInt8) (_ : a.length ≤ reachBytes) (b : List UInt8) (_ : b.length ≤ reachBytes) (w : World) :
    Calls Try.prog 11 #[.string (mk a), .string (mk b)] w fun e w' => e = .returned (.bool true) ∧ Below w.heap.size w w' := by
  by_cases h1 : a.length ≤ 400
  · by_cases h2 : b.length ≤ 400
    · go_enter Try.func11, Try.ntmps11
      go_wp2_with fail
      refine (checkB a _).mono ?_
      generalize hg : (if 1 ≤ a.length ∧ a.length ≤ 63 then (0 : Int) else 4) = ce
      have hg' := Lib.hid hg; clear hg
      rintro e w1 ⟨rfl, rfl⟩
      go_wp2_with fail
      refine (rcheckB a _).mono ?_
      rw [hg'.out]
      rintro e w1 ⟨rfl, rfl⟩
      go_wp2_with fail
      refine (fold_any a _ (by omega)).mono ?_
      rintro e w2 ⟨rfl, hb2⟩
      go_wp2_with fail
      refine (refFold_any a _ (by omega)).mono ?_
      rintro e w3 ⟨rfl, hb3⟩
      go_wp2_with fail
      refine (same_any a b _ (by omega) (by omega)).mono ?_
      have hz := cmp_zero (foldL a) (foldL b)
      obtain ⟨q, hq⟩ : ∃ q : Bool, Hid ((foldL a == foldL b) = q) := ⟨_, rfl⟩
      rw [hq.out]
      rintro e w4 ⟨rfl, hb4⟩
      have hC : Hid ((Lib.compareBytes (foldL a) (foldL b) == 0) = q) := by
        unfold Hid; rw [← hq.out, Bool.eq_iff_iff, beq_iff_eq, beq_iff_eq]; exact hz
      clear hz
      go_wp2_with fail
      refine (refCompare_any a b _ (by omega) (by omega)).mono ?_
      obtain ⟨C, hCC⟩ : ∃ C : Int, Hid (Lib.compareBytes (foldL a) (foldL b) = C) := ⟨_, rfl⟩
      rw [hCC.out]
      have hC0 : (C == 0) = q := by rw [← hCC.out]; exact hC.out
      rintro e w5 ⟨rfl, hb5⟩
      go_wp2_with fail
      refine (compare_any a b _ (by omega) (by omega)).mono ?_
      rw [hCC.out]
      rintro e w6 ⟨rfl, hb6⟩
      go_wp2_with fail
      refine (refCompare_any a b _ (by omega) (by omega)).mono ?_
      rw [hCC.out]
      rintro e w7 ⟨rfl, hb7⟩
      go_wp2_with fail
      refine (text_any a _ (by omega)).mono ?_
      rintro e w8 ⟨rfl, hb8⟩
      go_wp2_with fail
      refine (refText_any a _ (by omega)).mono ?_
      rintro e w9 ⟨rfl, hb9⟩
      go_wp2_with fail
      refine (star_any a _).mono ?_
      rintro e w10 ⟨rfl, rfl⟩
      go_wp2_with fail
      go_ret
      exact ⟨rfl, nx (nx (nx (nx (nx (nx (nx hb2 hb3 (Nat.le_refl _)) hb4 (Nat.le_refl _)) hb5 (Nat.le_refl _)) hb6 (Nat.le_refl _)) hb7 (Nat.le_refl _)) hb8 (Nat.le_refl _)) hb9 (Nat.le_refl _)⟩
    · go_enter Try.func11, Try.ntmps11
      go_wp2_with fail
      go_ret
      exact ⟨rfl, Below.refl _ _⟩
  · go_enter Try.func11, Try.ntmps11
    go_wp2_with fail
    go_ret
    exact ⟨rfl, Below.refl _ _⟩
end Go.Proofs.Ytffdcfannnmjnaa
