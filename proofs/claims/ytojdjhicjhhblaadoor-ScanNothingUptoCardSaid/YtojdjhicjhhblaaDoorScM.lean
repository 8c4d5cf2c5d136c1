/- The scanner as it lies; blank 32, stop 34. -/
import Derived.Test.YtojdjhicjhhblaaDoorStp
import Derived.Test.YtojdjhicjhhblaaDoorScP
namespace Go.Proofs.YtojdjhicjhhblaaDoor
open Go Go.RowKit
theorem beq_u8 (b k : UInt8) : (b == k) = decide ((b.toNat : Int) = k.toNat) := by
  rw [Bool.eq_iff_iff]
  simp only [beq_iff_eq, decide_eq_true_eq]
  constructor
  · rintro rfl; rfl
  · intro h
    exact UInt8.toNat_inj.1 (by exact_mod_cast h)
theorem blankB_int (b : UInt8) : blankB b = (decide ((b.toNat : Int) = 32) || decide ((b.toNat : Int) = 9) || decide ((b.toNat : Int) = 13)) := by
  unfold blankB
  rw [beq_u8, beq_u8, beq_u8]
  rfl
theorem stopB_int (b : UInt8) : stopB b = (blankB b || decide ((b.toNat : Int) = 59) || decide ((b.toNat : Int) = 40) || decide ((b.toNat : Int) = 41) || decide ((b.toNat : Int) = 10)) := by
  unfold stopB
  rw [beq_u8 b 59, beq_u8 b 40, beq_u8 b 41, beq_u8 b 10]
  rfl
set_option maxHeartbeats 8000000 in
set_option maxRecDepth 100000 in
theorem blank_any (w : World) (b : UInt8) : Calls Tryd.prog 30 #[.int .u8 b.toNat] w fun e w' => e = .returned (.bool (blankB b)) ∧ Below w.heap.size w w' := by
  rw [blankB_int]
  generalize (b.toNat : Int) = x
  by_cases h1 : x = 32
  · subst h1
    go_enter Tryd.func30, Tryd.ntmps30
    go_wp2_with fail
    go_ret
    exact ⟨rfl, Below.refl _ _⟩
  by_cases h2 : x = 9
  · subst h2
    go_enter Tryd.func30, Tryd.ntmps30
    go_wp2_with fail
    go_ret
    exact ⟨rfl, Below.refl _ _⟩
  by_cases h3 : x = 13
  · subst h3
    go_enter Tryd.func30, Tryd.ntmps30
    go_wp2_with fail
    go_ret
    exact ⟨rfl, Below.refl _ _⟩
  · go_enter Tryd.func30, Tryd.ntmps30
    go_wp2_with fail
    go_ret
    exact ⟨by simp [h1, h2, h3], Below.refl _ _⟩
set_option maxHeartbeats 8000000 in
set_option maxRecDepth 100000 in
theorem stop_any (w : World) (b : UInt8) : Calls Tryd.prog 32 #[.int .u8 b.toNat] w fun e w' => e = .returned (.bool (stopB b)) ∧ Below w.heap.size w w' := by
  rw [stopB_int]
  have hb := Lib.hid (blank_any w b)
  generalize blankB b = t at hb ⊢
  generalize (b.toNat : Int) = x at hb ⊢
  cases t with
  | true =>
    go_enter Tryd.func32, Tryd.ntmps32
    go_wp2_with fail
    refine hb.out.mono ?_
    rintro e w1 ⟨rfl, k1⟩
    replace k1 := Lib.hid k1
    go_wp2_with fail
    go_ret
    exact ⟨rfl, k1.out⟩
  | false =>
    by_cases h1 : x = 59
    · subst h1
      go_enter Tryd.func32, Tryd.ntmps32
      go_wp2_with fail
      refine hb.out.mono ?_
      rintro e w1 ⟨rfl, k1⟩
      replace k1 := Lib.hid k1
      go_wp2_with fail
      go_ret
      exact ⟨rfl, k1.out⟩
    by_cases h2 : x = 40
    · subst h2
      go_enter Tryd.func32, Tryd.ntmps32
      go_wp2_with fail
      refine hb.out.mono ?_
      rintro e w1 ⟨rfl, k1⟩
      replace k1 := Lib.hid k1
      go_wp2_with fail
      go_ret
      exact ⟨rfl, k1.out⟩
    by_cases h3 : x = 41
    · subst h3
      go_enter Tryd.func32, Tryd.ntmps32
      go_wp2_with fail
      refine hb.out.mono ?_
      rintro e w1 ⟨rfl, k1⟩
      replace k1 := Lib.hid k1
      go_wp2_with fail
      go_ret
      exact ⟨rfl, k1.out⟩
    by_cases h4 : x = 10
    · subst h4
      go_enter Tryd.func32, Tryd.ntmps32
      go_wp2_with fail
      refine hb.out.mono ?_
      rintro e w1 ⟨rfl, k1⟩
      replace k1 := Lib.hid k1
      go_wp2_with fail
      go_ret
      exact ⟨rfl, k1.out⟩
    · go_enter Tryd.func32, Tryd.ntmps32
      go_wp2_with fail
      refine hb.out.mono ?_
      rintro e w1 ⟨rfl, k1⟩
      replace k1 := Lib.hid k1
      go_wp2_with fail
      go_ret
      exact ⟨by simp [h1, h2, h3, h4], k1.out⟩
end Go.Proofs.YtojdjhicjhhblaaDoor
