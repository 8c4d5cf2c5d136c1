/- Layer 3: the names above, the star, a place that a number picks. -/
import Derived.Test.YtffdcfannnmjnaaNameD
import Derived.Test.YtffdcfannnmjnaaNameOrderW
namespace Go.Proofs.Ytffdcfannnmjnaa
open Go.RowKit
theorem sizeL_append (a b : Nm) : sizeL (a ++ b) + 1 = sizeL a + sizeL b := by
  simp only [sizeL, List.map_append, List.sum_append]; omega
theorem checkL_ok {l : Nm} (h1 : ∀ s ∈ l, okLab s) (h2 : sizeL l ≤ 255) : checkL l = 0 := by
  unfold checkL; rw [if_pos h1, if_neg (by omega)]
theorem checkL_append {a b : Nm} (h : checkL (a ++ b) = 0) : checkL a = 0 ∧ checkL b = 0 := by
  obtain ⟨h1, h2⟩ := checkL_zero h
  have h3 := sizeL_append a b
  have h4 := sizeL_ge a
  have h5 := sizeL_ge b
  exact ⟨checkL_ok (fun s hs => h1 s (List.mem_append_left _ hs)) (by omega), checkL_ok (fun s hs => h1 s (List.mem_append_right _ hs)) (by omega)⟩
theorem under_drop (l : Nm) (k : Nat) (hk : k ≤ l.length) : underL l (l.drop k) = true := by
  have h := comL_eq l (l.drop k) (l.length - k) ?_ (by omega) (by simp) (.inr (.inl (by simp)))
  · unfold underL; rw [h]; simp
  · unfold rv
    rw [List.map_drop, List.take_of_length_le (l := ((l.map foldL).drop k).reverse) (by simp)]
    rw [List.take_reverse, List.length_map]
    congr 2; omega
theorem mem_drop {l : Nm} {k : Nat} {s : List UInt8} (h : s ∈ l.drop k) : s ∈ l := List.mem_of_mem_drop h
set_option maxHeartbeats 2000000 in
set_option maxRecDepth 100000 in
theorem above_any {M : Nat} (hM : 63 ≤ M) {w : World} {a : Option Addr} {n c : Nat} {l : Nm} (h : Rd strE w a n c l) (hn : n ≤ 8796093022208) (d : Int) :
    Calls Try.prog 75 #[.slice a n c, .int .i64 d] w fun e w' => (∃ v, e = .returned (.tuple #[v, .int .i64 (aboveL l d).2]) ∧ OwnT M w' w.heap.size v (aboveL l d).1) ∧ Below w.heap.size w w' := by
  have hL := Lib.hid h.len
  have hH := Lib.hid h
  clear h
  by_cases c1 : checkL l = 0
  · by_cases c2 : d < 0 ∨ (n : Int) < d
    · have hJ : aboveL l d = ([], 2) := by unfold aboveL; rw [if_neg (by simp [c1]), hL.out, if_pos c2]
      rcases c2 with c2 | c2
      · go_enter Try.func75, Try.ntmps75
        go_wp2_with fail
        refine (check_any hH.out hn).mono ?_
        rw [c1]
        rintro e w1 ⟨rfl, rfl⟩
        go_wp2_with fail
        go_ret2
        rw [hJ]
        exact ⟨⟨_, rfl, OwnT.nil _ _ _⟩, Below.refl _ _⟩
      · have c3 : ¬ d < 0 := by omega
        go_enter Try.func75, Try.ntmps75
        go_wp2_with fail
        refine (check_any hH.out hn).mono ?_
        rw [c1]
        rintro e w1 ⟨rfl, rfl⟩
        go_wp2_with fail
        go_ret2
        rw [hJ]
        exact ⟨⟨_, rfl, OwnT.nil _ _ _⟩, Below.refl _ _⟩
    · have hJ : aboveL l d = (l.drop (n - d.toNat), 0) := by unfold aboveL; rw [if_neg (by simp [c1]), hL.out, if_neg c2]
      obtain ⟨k, rfl⟩ : ∃ k : Nat, d = k := ⟨d.toNat, by omega⟩
      rw [Int.toNat_natCast] at hJ
      have hkn : k ≤ n := by omega
      obtain ⟨a1, hs, hr⟩ := cut_l (P := Try.prog) hH.out 49 Try.underlying49 hsz9 .i64 ((n : Int) - (k : Int)) (n - k) (by omega) (by omega)
      have hr' := Lib.hid hr
      clear hr c2
      go_enter Try.func75, Try.ntmps75
      go_wp2_with fail
      refine (check_any hH.out hn).mono ?_
      rw [c1]
      rintro e w1 ⟨rfl, rfl⟩
      go_wp2_with fail
      refine (copy_name (M := M) hr'.out (by omega) (fun s hs => Nat.le_trans (checkL_63 c1 s (mem_drop hs)) hM)).mono ?_
      rintro e w1 ⟨⟨v, rfl, ho⟩, hb⟩
      go_wp2_with fail
      go_ret2
      rw [hJ]
      exact ⟨⟨_, rfl, ho⟩, hb⟩
  · have hJ : aboveL l d = ([], checkL l) := by unfold aboveL; rw [if_pos c1]
    have c1' : ¬ ((checkL l : Int) = 0) := by omega
    go_enter Try.func75, Try.ntmps75
    go_wp2_with fail
    refine (check_any hH.out hn).mono ?_
    rintro e w1 ⟨rfl, rfl⟩
    go_wp2_with fail
    go_ret2
    rw [hJ]
    exact ⟨⟨_, rfl, OwnT.nil _ _ _⟩, Below.refl _ _⟩
set_option maxHeartbeats 2000000 in
set_option maxRecDepth 100000 in
theorem parent_any {M : Nat} (hM : 63 ≤ M) {w : World} {a : Option Addr} {n c : Nat} {l : Nm} (h : Rd strE w a n c l) (hn : n ≤ 8796093022208) :
    Calls Try.prog 79 #[.slice a n c] w fun e w' => (∃ v, e = .returned (.tuple #[v, .int .i64 (parentL l).2]) ∧ OwnT M w' w.heap.size v (parentL l).1) ∧ Below w.heap.size w w' := by
  have hL := Lib.hid h.len
  have hH := Lib.hid h
  clear h
  by_cases c1 : checkL l = 0
  · by_cases c2 : n = 0
    · have hJ : parentL l = ([], 9) := by unfold parentL; rw [if_neg (by simp [c1]), hL.out, if_pos c2]
      subst c2
      go_enter Try.func79, Try.ntmps79
      go_wp2_with fail
      refine (check_any hH.out hn).mono ?_
      rw [c1]
      rintro e w1 ⟨rfl, rfl⟩
      go_wp2_with fail
      go_ret2
      rw [hJ]
      exact ⟨⟨_, rfl, OwnT.nil _ _ _⟩, Below.refl _ _⟩
    · have hJ : parentL l = (l.drop 1, 0) := by unfold parentL; rw [if_neg (by simp [c1]), hL.out, if_neg c2]
      have c3 : ((n : Int) == 0) = false := by rw [beq_eq_false_iff_ne]; omega
      obtain ⟨a1, hs, hr⟩ := cut_l (P := Try.prog) hH.out 49 Try.underlying49 hsz9 .i64 1 1 rfl (by omega)
      have hr' := Lib.hid hr
      clear hr
      go_enter Try.func79, Try.ntmps79
      go_wp2_with fail
      refine (check_any hH.out hn).mono ?_
      rw [c1]
      rintro e w1 ⟨rfl, rfl⟩
      go_wp2_with fail
      refine (copy_name (M := M) hr'.out (by omega) (fun s hs => Nat.le_trans (checkL_63 c1 s (mem_drop hs)) hM)).mono ?_
      rintro e w1 ⟨⟨v, rfl, ho⟩, hb⟩
      go_wp2_with fail
      go_ret2
      rw [hJ]
      exact ⟨⟨_, rfl, ho⟩, hb⟩
  · have hJ : parentL l = ([], checkL l) := by unfold parentL; rw [if_pos c1]
    have c1' : ¬ ((checkL l : Int) = 0) := by omega
    go_enter Try.func79, Try.ntmps79
    go_wp2_with fail
    refine (check_any hH.out hn).mono ?_
    rintro e w1 ⟨rfl, rfl⟩
    go_wp2_with fail
    go_ret2
    rw [hJ]
    exact ⟨⟨_, rfl, OwnT.nil _ _ _⟩, Below.refl _ _⟩
set_option maxHeartbeats 2000000 in
set_option maxRecDepth 100000 in
theorem wild_any {M : Nat} (hM : 63 ≤ M) {w : World} {a : Option Addr} {n c : Nat} {l : Nm} (h : Rd strE w a n c l) (hn : n ≤ 8796093022208) :
    Calls Try.prog 78 #[.slice a n c] w fun e w' => (∃ v, e = .returned (.tuple #[v, .int .i64 (wildL l).2]) ∧ OwnT M w' w.heap.size v (wildL l).1) ∧ Below w.heap.size w w' := by
  have hL := Lib.hid h.len
  have hH := Lib.hid h
  clear h
  by_cases c1 : checkL l = 0
  · have hJ : wildL l = joinL [[42]] l := by unfold wildL; rw [if_neg (by simp [c1])]
    have hlit := (lit_nmd w [42] (by decide)).rd
    have hbw := (Below.refl w.heap.size w).alloc (Nat.le_refl _) (.cells #[.string { data := #[42] }] 9)
    have hr := Lib.hid (hH.out.ext hbw)
    have hlit' := Lib.hid hlit
    clear hlit
    go_enter Try.func78, Try.ntmps78
    go_wp2_with fail
    refine (check_any hH.out hn).mono ?_
    rw [c1]
    rintro e w1 ⟨rfl, rfl⟩
    go_wp2_with fail
    refine (join_any hM hlit'.out hr.out (by decide) hn).mono ?_
    rintro e w1 ⟨⟨v, rfl, ho⟩, hb⟩
    go_wp2_with fail
    go_ret2
    rw [hJ]
    exact ⟨⟨_, rfl, ho.mono (by simp)⟩, hbw.trans (hb.mono (by simp))⟩
  · have hJ : wildL l = ([], checkL l) := by unfold wildL; rw [if_pos c1]
    have c1' : ¬ ((checkL l : Int) = 0) := by omega
    go_enter Try.func78, Try.ntmps78
    go_wp2_with fail
    refine (check_any hH.out hn).mono ?_
    rintro e w1 ⟨rfl, rfl⟩
    go_wp2_with fail
    go_ret2
    rw [hJ]
    exact ⟨⟨_, rfl, OwnT.nil _ _ _⟩, Below.refl _ _⟩
set_option maxHeartbeats 1000000 in
theorem pick_any (x n : Int) (w : World) (hn : 1 ≤ n) (hn2 : n ≤ 1152921504606846976) :
    Calls Try.prog 74 #[.int .i64 x, .int .i64 n] w fun e w' => e = .returned (.int .i64 (x % n)) ∧ w = w' := by
  have hm : -n < x.tmod n ∧ x.tmod n < n := by
    have a := Int.tmod_lt_of_pos x (b := n) (by omega)
    have b := Int.lt_tmod_of_pos x (b := n) (by omega)
    exact ⟨b, a⟩
  have hw : IntKind.i64.wrap (x.tmod n) = x.tmod n := by rw [IntKind.wrap_i64]; omega
  have hn0 : ¬ n = 0 := by omega
  by_cases c : x.tmod n < 0
  · have hr : x % n = x.tmod n + n := by
      have := Int.tmod_eq_emod (a := x) (b := n)
      have e0 := Int.emod_nonneg x hn0
      have e1 := Int.emod_lt_of_pos x (b := n) (by omega)
      split at this <;> omega
    go_enter Try.func74, Try.ntmps74
    go_wp2_with fail
    go_ret
    exact ⟨by rw [hr]; rfl, rfl⟩
  · have hr : x % n = x.tmod n := by
      have := Int.tmod_eq_emod (a := x) (b := n)
      have e0 := Int.emod_nonneg x hn0
      have e1 := Int.emod_lt_of_pos x (b := n) (by omega)
      split at this <;> omega
    go_enter Try.func74, Try.ntmps74
    go_wp2_with fail
    go_ret
    exact ⟨rfl, rfl⟩
end Go.Proofs.Ytffdcfannnmjnaa
