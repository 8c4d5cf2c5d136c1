/- LabelOrder returns true for any three texts. No condition. -/
import Derived.Test.YtffdcfannnmjnaaLabel
namespace Go.Proofs.Ytffdcfannnmjnaa
open Go.RowKit
theorem compare_aB (w : World) : Calls Try.prog 18 #[.string { data := #[97] }, .string { data := #[66] }] w fun e w' => e = .returned (.int .i64 (-1)) ∧ Below w.heap.size w w' :=
  (compare_any [97] [66] w (by decide) (by decide)).mono fun _ _ ⟨h1, h2⟩ => ⟨h1.trans (ret_int (by decide)), h2⟩
set_option maxHeartbeats 1000000 in
set_option maxRecDepth 100000 in
theorem labelOrder_walk (a b c : List UInt8) (w : World) :
    Calls Try.prog 3 #[.string (mk a), .string (mk b), .string (mk c)] w fun e w' => e = .returned (.bool true) ∧ Below w.heap.size w w' := by
  by_cases h : a.length ≤ 400 ∧ b.length ≤ 400 ∧ c.length ≤ 400
  · obtain ⟨h1, h2, h3⟩ := h
    go_enter Try.func3, Try.ntmps3
    go_wp2_with fail
    refine (compare_any a b _ (by omega) (by omega)).mono ?_
    rintro e w1 ⟨rfl, hb1⟩
    go_wp2_with fail
    refine (compare_any b c _ (by omega) (by omega)).mono ?_
    rintro e w2 ⟨rfl, hb2⟩
    go_wp2_with fail
    refine (compare_any a c _ (by omega) (by omega)).mono ?_
    rintro e w3 ⟨rfl, hb3⟩
    go_wp2_with fail
    refine (fold_any a _ (by omega)).mono ?_
    rintro e w4 ⟨rfl, hb4⟩
    go_wp2_with fail
    refine (fold_any (foldL a) _ (by rw [length_foldL]; omega)).mono ?_
    rw [foldL_idem]
    rintro e w5 ⟨rfl, hb5⟩
    go_wp2_with fail
    refine (same_any a (foldL a) _ (by omega) (by rw [length_foldL]; omega)).mono ?_
    rw [foldL_idem]
    rintro e w6 ⟨rfl, hb6⟩
    have hlf := length_foldL a
    go_wp2_with fail
    refine (compare_any b a _ (by omega) (by omega)).mono ?_
    rw [cmp_anti (foldL b) (foldL a)]
    rintro e w7 ⟨rfl, hb7⟩
    have hz := cmp_zero (foldL a) (foldL b)
    have ht := cmp_trans (foldL a) (foldL b) (foldL c)
    have hX1 : -1 ≤ Lib.compareBytes (foldL a) (foldL b) := by have := cmp_range (foldL a) (foldL b); omega
    have hX2 : Lib.compareBytes (foldL a) (foldL b) ≤ 1 := by have := cmp_range (foldL a) (foldL b); omega
    generalize Lib.compareBytes (foldL a) (foldL b) = X at *
    generalize Lib.compareBytes (foldL b) (foldL c) = Y at *
    generalize Lib.compareBytes (foldL a) (foldL c) = Z at *
    have ht' : Hid (0 < X ∨ 0 < Y ∨ Z ≤ 0) := by
      by_cases h1 : 0 < X
      · exact .inl h1
      · by_cases h2 : 0 < Y
        · exact .inr (.inl h2)
        · exact .inr (.inr (ht (by omega) (by omega)))
    clear ht
    obtain ⟨q1, q2, hq⟩ : ∃ q1 q2 : Bool, Hid ((X == 0) = q1 ∧ (foldL a == foldL b) = q2 ∧ q1 = q2) := by
      refine ⟨_, _, rfl, rfl, ?_⟩
      rw [Bool.eq_iff_iff, beq_iff_eq, beq_iff_eq]; exact hz
    clear hz
    obtain ⟨e1, e2, rfl⟩ := hq.out
    clear hq
    have fin : ∀ (q : Bool), e1 = e1 → True := fun _ _ => trivial
    clear fin
    cases q1
    all_goals
      go_wp2_with fail
      refine (same_any a b _ (by omega) (by omega)).mono ?_
      rw [e2]
      rintro e w8 ⟨rfl, hb8⟩
      go_wp2_with fail
      refine (fold_any b _ (by omega)).mono ?_
      rintro e w9 ⟨rfl, hb9⟩
      by_cases p1 : 0 < X
      · go_wp2_with fail
        refine (compare_aB _).mono ?_
        rintro e w10 ⟨rfl, hb10⟩
        go_wp2_with fail
        go_ret
        exact ⟨rfl, bch hb1 hb2 hb3 hb4 hb5 hb6 hb7 hb8 hb9 hb10⟩
      · by_cases p2 : 0 < Y
        · go_wp2_with fail
          refine (compare_aB _).mono ?_
          rintro e w10 ⟨rfl, hb10⟩
          go_wp2_with fail
          go_ret
          exact ⟨rfl, bch hb1 hb2 hb3 hb4 hb5 hb6 hb7 hb8 hb9 hb10⟩
        · have p3 : Z ≤ 0 := by have := ht'.out; omega
          go_wp2_with fail
          refine (compare_aB _).mono ?_
          rintro e w10 ⟨rfl, hb10⟩
          go_wp2_with fail
          go_ret
          exact ⟨rfl, bch hb1 hb2 hb3 hb4 hb5 hb6 hb7 hb8 hb9 hb10⟩
  · by_cases h1 : a.length ≤ 400
    · by_cases h2 : b.length ≤ 400
      · have h3 : 400 < c.length := by omega
        clear h
        go_enter Try.func3, Try.ntmps3
        go_wp2_with fail
        go_ret
        exact ⟨rfl, Below.refl _ _⟩
      · clear h
        go_enter Try.func3, Try.ntmps3
        go_wp2_with fail
        go_ret
        exact ⟨rfl, Below.refl _ _⟩
    · clear h
      go_enter Try.func3, Try.ntmps3
      go_wp2_with fail
      go_ret
      exact ⟨rfl, Below.refl _ _⟩
theorem labelOrder_frame (a : List UInt8) (_ : a.length ≤ reachBytes) (b : List UInt8) (_ : b.length ≤ reachBytes) (c : List UInt8) (_ : c.length ≤ reachBytes) (w : World) :
    Calls Try.prog 3 #[.string (mk a), .string (mk b), .string (mk c)] w fun e w' => e = .returned (.bool true) ∧ Below w.heap.size w w' := labelOrder_walk a b c w
end Go.Proofs.Ytffdcfannnmjnaa
