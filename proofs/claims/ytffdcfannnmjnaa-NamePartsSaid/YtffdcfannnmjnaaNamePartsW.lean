/- NameParts returns true for any name and any number. The walk. -/
import Derived.Test.YtffdcfannnmjnaaNameE
namespace Go.Proofs.Ytffdcfannnmjnaa
open Go.RowKit
theorem above_ok {l : Nm} (k : Nat) (hk : k ≤ l.length) (hc : checkL l = 0) : aboveL l ((l.length : Int) - (k : Int)) = (l.drop k, 0) := by
  unfold aboveL
  rw [if_neg (by simp [hc]), if_neg (by omega)]
  congr 2; omega
theorem join_parts {l : Nm} (k : Nat) (hc : checkL l = 0) : joinL (l.take k) (l.drop k) = (l, 0) := by
  have h : checkL (l.take k ++ l.drop k) = 0 := by rw [List.take_append_drop]; exact hc
  obtain ⟨h1, h2⟩ := checkL_append h
  unfold joinL
  rw [if_neg (by simp [h1]), if_neg (by simp [h2]), if_neg (fun e => e h), List.take_append_drop]
theorem check_star : checkL [[42]] = 0 := by decide
theorem wild_ok {l : Nm} (hc : checkL l = 0) (hs : sizeL l ≤ 253) : wildL l = ([42] :: l, 0) := by
  have h : checkL ([[42]] ++ l) = 0 := by
    obtain ⟨h1, h2⟩ := checkL_zero hc
    refine checkL_ok (fun s hs => ?_) ?_
    · rcases List.mem_append.1 hs with h | h
      · simp at h; subst h; decide
      · exact h1 s h
    · have := sizeL_append [[42]] l
      have e : sizeL [[42]] = 3 := rfl
      omega
  unfold wildL
  rw [if_neg (by simp [hc])]
  unfold joinL
  rw [if_neg (by simp [check_star]), if_neg (by simp [hc]), if_neg (fun e => e h)]; rfl
theorem wild_no {l : Nm} (hc : checkL l = 0) (hs : 253 < sizeL l) : wildL l = ([], 5) := by
  have h : checkL ([[42]] ++ l) ≠ 0 := fun h => by
    have h2 := (checkL_zero h).2
    have := sizeL_append [[42]] l
    have e : sizeL [[42]] = 3 := rfl
    omega
  unfold wildL
  rw [if_neg (by simp [hc])]
  unfold joinL
  rw [if_neg (by simp [check_star]), if_neg (by simp [hc]), if_pos h]
theorem parent_star {l : Nm} (hc : checkL l = 0) (hs : sizeL l ≤ 253) : parentL ([42] :: l) = (l, 0) := by
  have h : checkL ([42] :: l) = 0 := by
    obtain ⟨h1, h2⟩ := checkL_zero hc
    refine checkL_ok (fun s hs => ?_) ?_
    · rcases List.mem_cons.1 hs with h | h
      · subst h; decide
      · exact h1 s h
    · have := sizeL_append [[42]] l
      have e : sizeL [[42]] = 3 := rfl
      have e2 : [[42]] ++ l = [42] :: l := rfl
      rw [e2] at this
      omega
  unfold parentL
  rw [if_neg (fun e => e h), if_neg (by simp)]; rfl
set_option maxHeartbeats 8000000 in
set_option maxRecDepth 100000 in
theorem nameParts_walk {W : World} {a : Option Addr} {n c : Nat} {l : Nm} (h : RT W a n c l) (x : Int) :
    Calls Try.prog 13 #[.slice a n c, .int .i64 x] W fun e w' => e = .returned (.bool true) ∧ Below W.heap.size W w' := by
  have hl := Lib.hid h.rd.len
  have hn : n ≤ 8796093022208 := by
    have := h.rd.cap
    have := h.most
    simp only [reachBytes] at this
    omega
  have hR := Lib.hid h.rd
  clear h
  by_cases c1 : checkL l = 0
  · have b1 : n ≤ 254 := by have := checkL_len c1; have := hl.out; omega
    have hN := Lib.hid (checkL_nmd hR.out c1)
    have hk0 := Int.emod_nonneg x (b := (n : Int) + 1) (by omega)
    have hk1 := Int.emod_lt_of_pos x (b := (n : Int) + 1) (by omega)
    go_enter Try.func13, Try.ntmps13
    go_wp2_with fail
    refine (check_any hR.out hn).mono ?_
    rw [c1]
    rintro e w1 ⟨rfl, rfl⟩
    go_wp2_with fail
    refine (pick_any x ((n : Int) + 1) _ (by omega) (by omega)).mono ?_
    rintro e w1 ⟨rfl, rfl⟩
    obtain ⟨k, hk⟩ : ∃ k : Nat, x % ((n : Int) + 1) = k := ⟨(x % ((n : Int) + 1)).toNat, by omega⟩
    rw [hk] at hk0 hk1 ⊢
    have hkn : k ≤ n := by omega
    clear hk hk0 hk1
    have hA := above_ok (l := l) k (by have := hl.out; omega) c1
    rw [hl.out] at hA
    go_wp2_with fail
    refine (above_any (M := 63) (by omega) hR.out hn ((n : Int) - (k : Int))).mono ?_
    rw [hA]
    rintro e w1 ⟨⟨v1, rfl, ho1⟩, hb1⟩
    have hlen : (l.drop k).length = n - k := by simp; have := hl.out; omega
    obtain ⟨a1, d1, hv1, hr1⟩ := ho1.rd
    rw [hlen] at hv1 hr1
    subst hv1
    have hr1' := Lib.hid hr1
    clear ho1 hr1 hA
    obtain ⟨a2, hs2, hr2⟩ := cut_h (P := Try.prog) hR.out 49 Try.underlying49 hsz9 .i64 k k rfl hkn
    have hr2' := Lib.hid (hr2.ext hb1)
    clear hr2
    go_wp2_with fail
    refine (copyName_any (M := 63) hr2'.out (by omega) (fun s hs => checkL_63 c1 s (List.mem_of_mem_take hs))).mono ?_
    rintro e w2 ⟨⟨v2, rfl, ho2⟩, hb2⟩
    have hlen2 : (l.take k).length = k := by simp; have := hl.out; omega
    obtain ⟨a3, d3, hv3, hr3⟩ := ho2.rd
    rw [hlen2] at hv3 hr3
    subst hv3
    have hr3' := Lib.hid hr3
    have hr1b := Lib.hid (hr1'.out.ext hb2)
    have hb2' : Below W.heap.size W w2 := hb1.trans (hb2.mono hb1.size)
    clear ho2 hr3 hlen2 hs2
    go_wp2_with fail
    refine (join_any (M := 63) (by omega) hr3'.out hr1b.out (by omega) (by omega)).mono ?_
    rw [join_parts k c1]
    rintro e w3 ⟨⟨v3, rfl, ho3⟩, hb3⟩
    obtain ⟨a4, d4, hv4, hr4⟩ := ho3.rd
    rw [hl.out] at hv4 hr4
    subst hv4
    have hr4' := Lib.hid hr4
    have hb3' : Below W.heap.size W w3 := hb2'.trans (hb3.mono hb2'.size)
    have hR3 := Lib.hid (hR.out.ext hb3')
    have hr1c := Lib.hid (hr1b.out.ext hb3)
    clear ho3 hr4
    go_wp2_with fail
    refine (same_name hr4'.out hR3.out).mono ?_
    rw [beq_self_eq_true l]
    rintro e w4 ⟨rfl, hb4⟩
    have hb4' : Below W.heap.size W w4 := hb3'.trans (hb4.mono hb3'.size)
    have hN4 := Lib.hid (hN.out.ext hb4')
    have hT4 : Hid (Nmd w4 a1 (n - k) d1 (l.drop k)) := Lib.hid ⟨hr1c.out.ext hb4, by omega, fun s hs => Nat.le_trans (checkL_63 c1 s (mem_drop hs)) (by omega)⟩
    go_wp2_with fail
    refine (nm_under hN4.out hT4.out).mono ?_
    rw [under_drop l k (by have := hl.out; omega)]
    rintro e w5 ⟨rfl, hb5⟩
    have hb5' : Below W.heap.size W w5 := hb4'.trans (hb5.mono hb4'.size)
    have hR5 := Lib.hid (hR.out.ext hb5')
    by_cases h253 : sizeL l ≤ 253
    · go_wp2_with fail
      refine (wild_any (M := 63) (by omega) hR5.out hn).mono ?_
      rw [wild_ok c1 h253]
      rintro e w6 ⟨⟨v6, rfl, ho6⟩, hb6⟩
      obtain ⟨a6, d6, hv6, hr6⟩ := ho6.rd
      have hlen6 : ([42] :: l).length = n + 1 := by rw [List.length_cons, hl.out]
      rw [hlen6] at hv6 hr6
      subst hv6
      have hr6' := Lib.hid hr6
      have hb6' : Below W.heap.size W w6 := hb5'.trans (hb6.mono hb5'.size)
      clear ho6 hr6 hlen6
      go_wp2_with fail
      refine (parent_any (M := 63) (by omega) hr6'.out (by omega)).mono ?_
      rw [parent_star c1 h253]
      rintro e w7 ⟨⟨v7, rfl, ho7⟩, hb7⟩
      obtain ⟨a7, d7, hv7, hr7⟩ := ho7.rd
      rw [hl.out] at hv7 hr7
      subst hv7
      have hr7' := Lib.hid hr7
      have hb7' : Below W.heap.size W w7 := hb6'.trans (hb7.mono hb6'.size)
      have hR7 := Lib.hid (hR.out.ext hb7')
      clear ho7 hr7
      go_wp2_with fail
      refine (same_name hr7'.out hR7.out).mono ?_
      rw [beq_self_eq_true l]
      rintro e w8 ⟨rfl, hb8⟩
      have hb8' : Below W.heap.size W w8 := hb7'.trans (hb8.mono hb7'.size)
      go_wp2_with fail
      go_ret
      exact ⟨rfl, hb8'⟩
    · have h253' : (253 : Int) < sizeL l := by omega
      have hs1 : sizeL l ≤ 1152921504606846976 := by have := (checkL_zero c1).2; omega
      go_wp2_with fail
      refine (wild_any (M := 63) (by omega) hR5.out hn).mono ?_
      rw [wild_no c1 (by omega)]
      rintro e w6 ⟨⟨v6, rfl, ho6⟩, hb6⟩
      have hb6' : Below W.heap.size W w6 := hb5'.trans (hb6.mono hb5'.size)
      have hR6 := Lib.hid (hR.out.ext hb6')
      go_wp2_with fail
      refine (size_any hR6.out hs1).mono ?_
      rintro e w7 ⟨rfl, rfl⟩
      go_wp2_with fail
      go_ret
      exact ⟨rfl, hb6'⟩
  · have c1' : ¬ ((checkL l : Int) = 0) := by omega
    go_enter Try.func13, Try.ntmps13
    go_wp2_with fail
    refine (check_any hR.out hn).mono ?_
    rintro e w1 ⟨rfl, rfl⟩
    go_wp2_with fail
    refine (check_any (Rd.nil strE _) (by omega)).mono ?_
    rintro e w1 ⟨rfl, rfl⟩
    go_wp2_with fail
    refine (size_any (Rd.nil strE _) (by decide)).mono ?_
    rintro e w1 ⟨rfl, rfl⟩
    go_wp2_with fail
    go_ret
    exact ⟨rfl, Below.refl _ _⟩
theorem nameParts_law {W : World} (a : Option Addr) (n c : Nat) (l : Nm) (h : RT W a n c l) (x : Int) (_ : (Lit.int .i64 x).wf = true) (_ : World) :
    Calls Try.prog 13 #[.slice a n c, .int .i64 x] W fun e w' => e = .returned (.bool true) ∧ Below W.heap.size W w' := nameParts_walk h x
end Go.Proofs.Ytffdcfannnmjnaa
