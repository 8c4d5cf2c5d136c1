/- Layer 22: awake. -/
import Derived.Test.YtckimjmidbdalaaClk3
namespace Go.Proofs.Ytckimjmidbdalaa
open Go.RowKit
theorem Clk.below {w0 w w' : World} {B c : Nat} {o : Option Nat} {now : Int} {L : List Tk} {m : Nat} (h : Clk w c o now L m) (hT : Tn w w' c o) (hb : Below B w0 w) (hB : B ≤ c) : Below B w0 w' :=
  hT.below hb (by have := h.lt; omega) hB fun j hj => by have := h.own j hj; omega
theorem Clk.ext {w w' : World} {B c : Nat} {o : Option Nat} {now : Int} {L : List Tk} {m : Nat} (h : Clk w c o now L m) (hb : Below B w w') (hc : c < B) (ho : ∀ j, o = some j → j < B) : Clk w' c o now L m :=
  h.keep (hb.block c hc) fun k hk => hb.block k (ho k hk)
set_option maxHeartbeats 4000000 in
set_option maxRecDepth 100000 in
theorem awake_any {w : World} : Calls Try.prog 16 #[] w fun e w' => e = .returned (.bool true) ∧ Below w.heap.size w w' := by
  have n1 : popR 0 ([] ++ [(5, 1)] ++ [(3, 2)] ++ [(5, 3)]) = (0, false) := by decide
  have n2 : popT 0 ([] ++ [(5, 1)] ++ [(3, 2)] ++ [(5, 3)]) = [] ++ [(5, 1)] ++ [(3, 2)] ++ [(5, 3)] := by decide
  have n3 : nxt ([] ++ [(5, 1)] ++ [(3, 2)] ++ [(5, 3)]) = (3, true) := by decide
  have n4 : drawS 1 10 = 1 := by decide +kernel
  have h1 := Lib.hid n1
  have h2 := Lib.hid n2
  have h3 := Lib.hid n3
  have h4 := Lib.hid n4
  clear n1 n2 n3 n4
  go_enter Try.func16, Try.ntmps16
  go_wp2_with fail
  refine clk_new.mono ?_
  rintro e w1 ⟨rfl, hC, hb⟩
  have hC1 := Lib.hid hC
  have hb1 := Lib.hid hb
  clear hC hb
  go_wp2_with fail
  refine (clk_add_yes hC1.out 5 1 (by decide) (by decide) (by omega)).mono ?_
  rintro e w2 ⟨rfl, o2, hC, hT, _⟩
  have hC2 := Lib.hid hC
  have hb2 := Lib.hid (hC1.out.below hT hb1.out (Nat.le_refl _))
  clear hC hT
  go_wp2_with fail
  refine (clk_add_yes hC2.out 3 2 (by decide) (by decide) (by omega)).mono ?_
  rintro e w3 ⟨rfl, o3, hC, hT, _⟩
  have hC3 := Lib.hid hC
  have hb3 := Lib.hid (hC2.out.below hT hb2.out (Nat.le_refl _))
  clear hC hT
  go_wp2_with fail
  refine (clk_add_yes hC3.out 5 3 (by decide) (by decide) (by omega)).mono ?_
  rintro e w4 ⟨rfl, o4, hC, hT, _⟩
  have hC4 := Lib.hid hC
  have hb4 := Lib.hid (hC3.out.below hT hb3.out (Nat.le_refl _))
  clear hC hT
  go_wp2_with fail
  refine (clk_pop hC4.out (by omega)).mono ?_
  rintro e w5 ⟨rfl, hC, hT⟩
  rw [h1.out]
  rw [h2.out] at hC
  have hC5 := Lib.hid hC
  have hb5 := Lib.hid (hC4.out.below hT hb4.out (Nat.le_refl _))
  clear hC hT
  go_wp2_with fail
  refine (clk_next hC5.out).mono ?_
  rintro e w6 ⟨rfl, rfl⟩
  rw [h3.out]
  go_wp2_with (first | (go_at_call 19; refine (clk_len hC5.out).mono ?_; rintro e w7 ⟨rfl, rfl⟩) | (go_at_call 10; refine (new_chance 1).mono ?_; rintro e w8 ⟨rfl, rfl⟩))
  refine (chance_draw (s := 1) (Blk.new w5 62 (0, 0) #[.int .u64 1]) 10).mono ?_
  rintro e w9 ⟨rfl, _, hg9⟩
  rw [h4.out]
  have hz := hb5.out.size
  go_wp2_with fail
  go_ret
  exact ⟨rfl, below_grown (hb5.out.alloc hz _) hg9 (by simp; omega) hz⟩
end Go.Proofs.Ytckimjmidbdalaa
