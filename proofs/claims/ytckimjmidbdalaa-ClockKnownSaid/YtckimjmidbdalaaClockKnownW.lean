/- ClockKnown: the walk. -/
import Derived.Test.YtckimjmidbdalaaAwk
namespace Go.Proofs.Ytckimjmidbdalaa
open Go.RowKit
def knL : Nat → List Tk
  | 0 => [] ++ [(5, 1)] ++ [(3, 2)] ++ [(5, 3)]
  | 1 => [(5, 1), (5, 3)]
  | 2 => [(5, 3)]
  | _ => []
def knK : Nat → Int
  | 0 => 2
  | 1 => 1
  | _ => 3
theorem knR (k : Nat) (h : k < 3) : popR 5 (knL k) = (knK k, true) ∧ popT 5 (knL k) = knL (k + 1) := by
  match k, h with
  | 0, _ => decide
  | 1, _ => decide
  | 2, _ => decide
set_option maxHeartbeats 8000000 in
set_option maxRecDepth 100000 in
theorem clockKnown_walk {w : World} : Calls Try.prog 6 #[] w fun e w' => e = .returned (.bool true) ∧ Below w.heap.size w w' := by
  go_enter Try.func6, Try.ntmps6
  go_wp2_with fail
  refine clk_new.mono ?_
  rintro e w1 ⟨rfl, hC, hb⟩
  have hC1 := Lib.hid hC
  have hb1 := Lib.hid hb
  clear hC hb
  go_wp2_with fail
  refine (clk_add_yes hC1.out 5 1 (by decide) (by decide) (by omega)).mono ?_
  rintro e w2 ⟨rfl, o2, hC, hT, hn2⟩
  have hC2 := Lib.hid hC
  have hb2 := Lib.hid (hC1.out.below hT hb1.out (Nat.le_refl _))
  clear hC hT hn2 hC1 hb1
  go_wp2_with fail
  refine (clk_add_yes hC2.out 3 2 (by decide) (by decide) (by omega)).mono ?_
  rintro e w3 ⟨rfl, o3, hC, hT, hn3⟩
  have hC3 := Lib.hid hC
  have hb3 := Lib.hid (hC2.out.below hT hb2.out (Nat.le_refl _))
  clear hC hT hn3 hC2 hb2
  go_wp2_with fail
  refine (clk_add_yes hC3.out 5 3 (by decide) (by decide) (by omega)).mono ?_
  rintro e w4 ⟨rfl, o4, hC, hT, hn4⟩
  have hC4 := Lib.hid hC
  have hb4 := Lib.hid (hC3.out.below hT hb3.out (Nat.le_refl _))
  clear hC hT hn4 hC3 hb3
  go_wp2_with fail
  refine (clk_go_yes hC4.out 5 (by decide) (by decide)).mono ?_
  rintro e w5 ⟨rfl, hC, hT⟩
  have hC5 := Lib.hid hC
  have hb5 := Lib.hid (hC4.out.below hT hb4.out (Nat.le_refl _))
  clear hC hT hC4 hb4
  go_wp2_with fail
  go_loopw [3] (fun i wr => ∃ k : Nat, k ≤ 3 ∧ i = .int .i64 k ∧ Below w.heap.size w wr ∧ Clk wr w.heap.size o4 5 (knL k) 3)
    (fun i _ => 3 - (intOf i).toNat)
  case atStart => exact ⟨0, by omega, rfl, hb5.out, hC5.out⟩
  case round =>
    obtain ⟨k, hk, rfl, hb, hC⟩ := hrel
    have hCC := Lib.hid hC
    clear hC hC5 hb5
    have hsz := hb.size
    by_cases h3 : k < 3
    · have hkr := knR k h3
      have hk2 := Lib.hid hkr.2
      have hk1 := Lib.hid hkr.1
      clear hkr
      go_wp2_with fail
      refine (clk_pop hCC.out (by omega)).mono ?_
      rintro e w6 ⟨rfl, hC, hT⟩
      rw [hk1.out]
      rw [hk2.out] at hC
      have hb6 := hCC.out.below hT hb (Nat.le_refl _)
      have hs6 := hb6.size
      have hC6 := Lib.hid hC
      clear hC hT
      have hal : Hid (∀ o : Obj, Clk (w6.alloc o) w.heap.size o4 5 (knL (k + 1)) 3) := Lib.hid fun o => hC6.out.ext ((Below.refl _ _).alloc (Nat.le_refl _) o) hC6.out.lt (fun j hj => (hC6.out.own j hj).2)
      obtain rfl | rfl | rfl : k = 0 ∨ k = 1 ∨ k = 2 := by omega
      · go_wp2_with fail
        go_roundw
        case rel => exact ⟨1, by omega, by go_num, hb6.alloc hs6 _, hal.out _⟩
        case measure => simp [intOf]
      · go_wp2_with fail
        go_roundw
        case rel => exact ⟨2, by omega, by go_num, hb6.alloc hs6 _, hal.out _⟩
        case measure => simp [intOf]
      · go_wp2_with fail
        go_roundw
        case rel => exact ⟨3, by omega, by go_num, hb6.alloc hs6 _, hal.out _⟩
        case measure => simp [intOf]
    · have hk3 : k = 3 := by omega
      subst hk3
      go_wp2_with fail
      refine (clk_pop hCC.out (by omega)).mono ?_
      rintro e w6 ⟨rfl, hC, hT⟩
      have e1 : popR 5 (knL 3) = (0, false) := by decide
      rw [e1]
      clear e1
      have hb6 := Lib.hid (hCC.out.below hT hb (Nat.le_refl _))
      have hC6 := Lib.hid hC
      clear hC hT hb hsz hCC
      go_wp2_with fail
      refine (clk_go_no hC6.out 4 (by decide)).mono ?_
      rintro e w7 ⟨rfl, rfl⟩
      go_wp2_with fail
      refine (clk_add_no hC6.out (-1) 0 (by decide)).mono ?_
      rintro e w7 ⟨rfl, rfl⟩
      clear hC6
      have v1 : drawS 1 9223372036854775808 = 1082269761 := by decide +kernel
      have v2 : drawS (nextS 1 9223372036854775808) 9223372036854775808 = 1152992998833853505 := by decide +kernel
      have v3 : drawS 1 10 = 1 := by decide +kernel
      have v4 : drawS (nextS 1 10) 0 = 0 := by decide +kernel
      have v5 : drawS (nextS (nextS 1 10) 0) 10 = 5 := by decide +kernel
      have z1 : mixB (mixA 0) = 0 := by decide +kernel
      have z2 : mixB (mixA 1) = 1561565218 := by decide +kernel
      have z3 : mixB (mixA 2) = 3573156908 := by decide +kernel
      have y1 := Lib.hid v1
      have y2 := Lib.hid v2
      have y3 := Lib.hid v3
      have y4 := Lib.hid v4
      have y5 := Lib.hid v5
      have y6 := Lib.hid z1
      have y7 := Lib.hid z2
      have y8 := Lib.hid z3
      clear v1 v2 v3 v4 v5 z1 z2 z3
      go_wp2_with fail
      refine (new_chance 1).mono ?_
      rintro e w8 ⟨rfl, hw8⟩
      have hB8 := Lib.hid (show Blk w8 w6.heap.size 62 (0, 0) [.int .u64 1] by rw [hw8]; exact Blk.new w6 62 (0, 0) #[.int .u64 1])
      have hz6 := hb6.out.size
      have hb8 := Lib.hid (show Below w.heap.size w w8 by rw [hw8]; exact hb6.out.alloc hz6 _)
      clear hw8
      go_wp2_with fail
      refine (chance_draw hB8.out 9223372036854775808).mono ?_
      rintro e w9 ⟨rfl, hB, hg⟩
      rw [y1.out]
      have hB9 := Lib.hid hB
      have hb9 := Lib.hid (below_grown hb8.out hg (by have := hb8.out.size; omega) hz6)
      clear hB hg
      go_wp2_with fail
      refine (chance_draw hB9.out 9223372036854775808).mono ?_
      rintro e w10 ⟨rfl, hB, hg⟩
      rw [y2.out]
      have hb10 := Lib.hid (below_grown hb9.out hg (by have := hb9.out.size; omega) hz6)
      clear hB hg
      go_wp2_with fail
      refine (new_chance 1).mono ?_
      rintro e w11 ⟨rfl, hw11⟩
      have hB11 := Lib.hid (show Blk w11 w10.heap.size 62 (0, 0) [.int .u64 1] by rw [hw11]; exact Blk.new w10 62 (0, 0) #[.int .u64 1])
      have hz10 := hb10.out.size
      have hb11 := Lib.hid (show Below w.heap.size w w11 by rw [hw11]; exact hb10.out.alloc hz10 _)
      clear hw11
      go_wp2_with fail
      refine (chance_draw hB11.out 10).mono ?_
      rintro e w12 ⟨rfl, hB, hg⟩
      rw [y3.out]
      have hB12 := Lib.hid hB
      have hb12 := Lib.hid (below_grown hb11.out hg (by have := hb11.out.size; omega) hz10)
      clear hB hg
      go_wp2_with fail
      refine (chance_draw hB12.out 0).mono ?_
      rintro e w13 ⟨rfl, hB, hg⟩
      rw [y4.out]
      have hB13 := Lib.hid hB
      have hb13 := Lib.hid (below_grown hb12.out hg (by have := hb12.out.size; omega) hz10)
      clear hB hg
      go_wp2_with fail
      refine (chance_draw hB13.out 10).mono ?_
      rintro e w14 ⟨rfl, hB, hg⟩
      rw [y5.out]
      have hb14 := Lib.hid (below_grown hb13.out hg (by have := hb13.out.size; omega) hz10)
      clear hB hg
      go_wp2_with fail
      refine (mix_any 0).mono ?_
      rintro e w15 ⟨rfl, rfl⟩
      rw [y6.out]
      go_wp2_with fail
      refine (mix_any 1).mono ?_
      rintro e w15 ⟨rfl, rfl⟩
      rw [y7.out]
      go_wp2_with fail
      refine (mix_any 2).mono ?_
      rintro e w15 ⟨rfl, rfl⟩
      rw [y8.out]
      go_wp2_with fail
      refine (new_chance 0).mono ?_
      rintro e w16 ⟨rfl, hw16⟩
      have hB16 := Lib.hid (show Blk w16 w14.heap.size 62 (0, 0) [.int .u64 11400714819323198485] by rw [hw16]; exact Blk.new w14 62 (0, 0) #[.int .u64 11400714819323198485])
      have hz14 := hb14.out.size
      have hb16 := Lib.hid (show Below w.heap.size w w16 by rw [hw16]; exact hb14.out.alloc hz14 _)
      clear hw16
      go_wp2_with fail
      refine (chance_draw hB16.out 9223372036854775808).mono ?_
      rintro e w17 ⟨rfl, hB, hg⟩
      have hb17 := Lib.hid (below_grown hb16.out hg (by have := hb16.out.size; omega) hz14)
      clear hB hg
      generalize hdd : drawS 11400714819323198485 9223372036854775808 = dd
      have hd := Lib.hid hdd
      clear hdd
      go_wp2_with fail
      refine (new_chance 11400714819323198485).mono ?_
      rintro e w18 ⟨rfl, hw18⟩
      have hB18 := Lib.hid (show Blk w18 w17.heap.size 62 (0, 0) [.int .u64 11400714819323198485] by rw [hw18]; exact Blk.new w17 62 (0, 0) #[.int .u64 11400714819323198485])
      have hz17 := hb17.out.size
      have hb18 := Lib.hid (show Below w.heap.size w w18 by rw [hw18]; exact hb17.out.alloc hz17 _)
      clear hw18
      go_wp2_with fail
      refine (chance_draw hB18.out 9223372036854775808).mono ?_
      rintro e w19 ⟨rfl, hB, hg⟩
      rw [hd.out]
      have hb19 := Lib.hid (below_grown hb18.out hg (by have := hb18.out.size; omega) hz17)
      clear hB hg
      go_wp2_with fail
      refine awake_any.mono ?_
      rintro e w20 ⟨rfl, hb⟩
      have hb20 := Lib.hid (hb19.out.trans (hb.mono hb19.out.size))
      clear hb
      go_wp2_with fail
      go_ret
      exact ⟨rfl, hb20.out⟩
theorem clockKnown_law (W : World) : Calls Try.prog 6 #[] W fun e w' => e = .returned (.bool true) ∧ Below W.heap.size W w' := clockKnown_walk
end Go.Proofs.Ytckimjmidbdalaa
