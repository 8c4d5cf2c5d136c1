/- LabelBack returns true for any two texts of at most 2^20 bytes. -/
import Derived.Test.YtffdcfannnmjnaaText
import Derived.Test.YtffdcfannnmjnaaParse2
namespace Go.Proofs.Ytffdcfannnmjnaa
open Go.RowKit

theorem dec3_fact (c : UInt8) : digB (UInt8.ofNat (48 + c.toNat / 100)) = true ∧ digB (UInt8.ofNat (48 + c.toNat / 10 % 10)) = true ∧ digB (UInt8.ofNat (48 + c.toNat % 10)) = true ∧
    ¬ ((UInt8.ofNat (48 + c.toNat / 100)).toNat < 33 ∨ 126 < (UInt8.ofNat (48 + c.toNat / 100)).toNat) ∧
    100 * ((UInt8.ofNat (48 + c.toNat / 100)).toNat - 48) + 10 * ((UInt8.ofNat (48 + c.toNat / 10 % 10)).toNat - 48) + ((UInt8.ofNat (48 + c.toNat % 10)).toNat - 48) = c.toNat := by
  have k : ∀ n : Fin 256, digB (UInt8.ofNat (48 + n.val / 100)) = true ∧ digB (UInt8.ofNat (48 + n.val / 10 % 10)) = true ∧ digB (UInt8.ofNat (48 + n.val % 10)) = true ∧
    ¬ ((UInt8.ofNat (48 + n.val / 100)).toNat < 33 ∨ 126 < (UInt8.ofNat (48 + n.val / 100)).toNat) ∧
    100 * ((UInt8.ofNat (48 + n.val / 100)).toNat - 48) + 10 * ((UInt8.ofNat (48 + n.val / 10 % 10)).toNat - 48) + ((UInt8.ofNat (48 + n.val % 10)).toNat - 48) = n.val := by decide +kernel
  exact k ⟨c.toNat, c.toNat_lt⟩
theorem spec_nodig (c : UInt8) (h : specB c = true) : digB c = false := by
  have k : ∀ n : Fin 256, specB (UInt8.ofNat n.val) = true → digB (UInt8.ofNat n.val) = false := by decide +kernel
  have := k ⟨c.toNat, c.toNat_lt⟩
  simp at this; exact this h
theorem spec_92 : specB 92 = true := by decide

theorem nextL_esc (c : UInt8) (r : List UInt8) : nextL (escL c ++ r) = some (c, (escL c).length) ∧ ∃ d t, escL c ++ r = d :: t ∧ d ≠ 46 := by
  unfold escL
  by_cases h : c.toNat < 33 ∨ 126 < c.toNat
  · rw [if_pos h]
    obtain ⟨h1, h2, h3, h4, h5⟩ := dec3_fact c
    refine ⟨?_, 92, _, rfl, by decide⟩
    have hc : c.toNat < 256 := c.toNat_lt
    unfold dec3 nextL
    simp only [List.cons_append, List.nil_append]
    rw [if_neg (by decide), if_neg (by decide)]
    simp only [if_neg h4, h1, h2, h3, h5]
    simp; omega
  · rw [if_neg h]
    cases hs : specB c with
    | true =>
      refine ⟨?_, 92, _, rfl, by decide⟩
      simp only [if_true, List.cons_append, List.nil_append]
      simp [nextL, h, spec_nodig c hs]
    | false =>
      have hne : c ≠ 92 := fun e => by subst e; rw [spec_92] at hs; cases hs
      have hn46 : c ≠ 46 := fun e => by subst e; revert hs; decide
      refine ⟨?_, c, r, rfl, hn46⟩
      simp [nextL, h, hne]
theorem parse_text : ∀ (l r : List UInt8), (r = [] ∨ ∃ t, r = 46 :: t) → parseL (textL l ++ r) = some (l, (textL l).length)
  | [], r, h => by
    rcases h with rfl | ⟨t, rfl⟩
    · rfl
    · rfl
  | c :: l, r, h => by
    have e : textL (c :: l) ++ r = escL c ++ (textL l ++ r) := by simp [textL]
    obtain ⟨h1, d, t, h2, h3⟩ := nextL_esc c (textL l ++ r)
    rw [e]
    have h1' := h1
    rw [h2] at h1 ⊢
    rw [parse_some h3 h1, ← h2, List.drop_left, parse_text l r h]
    simp [textL]

theorem parseV_text (l r : List UInt8) (h : r = [] ∨ ∃ t, r = 46 :: t) (h1 : 1 ≤ l.length) (h2 : l.length ≤ 63) : parseV (textL l ++ r) = .tuple #[.string (mk l), .int .i64 (textL l).length, .int .i64 0] := by
  unfold parseV; rw [parse_text l r h]; simp [h1, h2]
theorem textL_pos (l : List UInt8) (h : 1 ≤ l.length) : 0 < (textL l).length := by
  match l, h with
  | c :: r, _ => have := escL_len c; simp [textL]; omega
theorem parseV_a : parseV [97, 92] = .tuple #[.string (mk []), .int .i64 0, .int .i64 120] := rfl

set_option maxHeartbeats 4000000 in
set_option maxRecDepth 100000 in
theorem labelBack_walk (s behind : List UInt8) (hs : s.length ≤ 1048576) (hb : behind.length ≤ 1048576) (w : World) :
    Calls Try.prog 12 #[.string (mk s), .string (mk behind)] w fun e w' => e = .returned (.bool true) ∧ Below w.heap.size w w' := by
  have htl := textL_len s
  by_cases h : 1 ≤ s.length ∧ s.length ≤ 63
  · obtain ⟨h1, h2⟩ := h
    have hp := textL_pos s h1
    go_enter Try.func12, Try.ntmps12
    go_wp2_with fail
    refine (text_any s _ (by omega)).mono ?_
    have hv1 := Lib.hid (parseV_text s [] (.inl rfl) h1 h2)
    have hv2 := Lib.hid (parseV_text s ([46] ++ behind) (.inr ⟨_, rfl⟩) h1 h2)
    rintro e w1 ⟨rfl, hb1⟩
    go_wp2_with fail
    refine (check_yes s _ ⟨h1, h2⟩).mono ?_
    rintro e w2 ⟨rfl, rfl⟩
    go_wp2_with fail
    refine (labelParse_any (textL s) _ (by omega)).mono ?_
    rw [List.append_nil] at hv1
    rw [hv1.out]
    rintro e w2 ⟨rfl, hb2⟩
    go_wp2_with fail
    rw [show (mk (textL s) ++ { data := #[46] } ++ mk behind : ByteArray) = mk (textL s ++ ([46] ++ behind)) from by
      rw [show ({ data := #[46] } : ByteArray) = mk [46] from rfl, mk_append, mk_append, List.append_assoc]]
    refine (labelParse_any (textL s ++ ([46] ++ behind)) _ (by simp; omega)).mono ?_
    rw [hv2.out]
    rintro e w3 ⟨rfl, hb3⟩
    have hp' : (0 : Int) < ((textL s).length : Int) := by omega
    go_wp2_with fail
    go_ret
    exact ⟨rfl, nx (nx hb1 hb2 (Nat.le_refl _)) hb3 (Nat.le_refl _)⟩
  · have h' : decide ((s.length : Int) < 1) = true ∨ decide ((s.length : Int) < 1) = false ∧ decide ((63 : Int) < (s.length : Int)) = true := by simp; omega
    go_enter Try.func12, Try.ntmps12
    go_wp2_with fail
    refine (text_any s _ (by omega)).mono ?_
    rintro e w1 ⟨rfl, hb1⟩
    go_wp2_with fail
    refine (check_no s _ (by omega)).mono ?_
    rintro e w2 ⟨rfl, rfl⟩
    go_wp2_with fail
    refine (labelParse_any [97, 92] _ (by decide)).mono ?_
    rw [parseV_a]
    rintro e w2 ⟨rfl, hb2⟩
    clear h
    rcases h' with h' | ⟨h', h''⟩
    · go_wp2_with fail
      go_ret
      exact ⟨rfl, nx hb1 hb2 (Nat.le_refl _)⟩
    · go_wp2_with fail
      go_ret
      exact ⟨rfl, nx hb1 hb2 (Nat.le_refl _)⟩
theorem labelBack_frame (s : List UInt8) (hs : s.length ≤ 1048576) (b : List UInt8) (hb : b.length ≤ 1048576) (w : World) :
    Calls Try.prog 12 #[.string (mk s), .string (mk b)] w fun e w' => e = .returned (.bool true) ∧ Below w.heap.size w w' := labelBack_walk s b hs hb w
end Go.Proofs.Ytffdcfannnmjnaa
