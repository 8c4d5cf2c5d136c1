/- The law SqueezeSound, walked. -/
import Derived.Test.YtndpebhhgicooaaAwkE
import Derived.Test.YtndpebhhgicooaaSqueezeReadsW
namespace Go.Proofs.Ytndpebhhgicooaa
open Go Go.RowKit
/-- what two readings of the same place answer -/
theorem res_cases (l more : List UInt8) (p : Int) {L M : Nm} {q r k j : Int} (hr : resL l true p = (L, q, k)) (hs : resL l false p = (M, r, j)) :
    (k ≠ 0 ∧ j ≠ 0 ∧ L = [] ∧ q = 0) ∨ (k = 0 ∧ 0 ≤ p ∧ checkL L = 0 ∧ p < q ∧ q ≤ l.length ∧ resL (l ++ more) true p = (L, q, 0) ∧ (j ≠ 0 ∨ (j = 0 ∧ M = L ∧ r = q ∧ q - p = sizeL L))) := by
  unfold resL at hr hs ⊢
  by_cases hp : p < 0 ∨ (l.length : Int) < p
  · rw [if_pos hp] at hr hs
    cases hr
    cases hs
    exact .inl ⟨by decide, by decide, rfl, rfl⟩
  · rw [if_neg hp] at hr hs
    cases hx : rdF l true p.toNat p.toNat (-1) [] with
    | none =>
      cases hy : rdF l false p.toNat p.toNat (-1) [] with
      | none =>
        rw [hx] at hr
        rw [hy] at hs
        cases hr
        cases hs
        exact .inl ⟨by decide, by decide, rfl, rfl⟩
      | some y =>
        have := (rd_plain (back := true) hy).1
        rw [hx] at this
        cases this
    | some x =>
      obtain ⟨L', q'⟩ := x
      rw [hx] at hr
      cases hr
      have h1 := rd_name hx (fun t ht => by cases ht) (by decide)
      have h2 := (rd_next hx).2 (by decide)
      have h3 := rd_more (m := more) hx
      have hc : checkL L = 0 := by unfold checkL; rw [if_pos h1.1, if_neg (by have h12 : sizeL L ≤ 255 := h1.2; omega)]
      have hm : (if p < 0 ∨ ((l ++ more).length : Int) < p then (([], 0, 2) : Nm × Int × Int) else match rdF (l ++ more) true p.toNat p.toNat (-1) [] with
        | none => ([], 0, 8)
        | some (n, q) => (n, q, 0)) = (L, q, 0) := by
        rw [if_neg (by simp; omega), h3]
      refine .inr ⟨rfl, by omega, hc, by have := h2.1; dsimp only at this; omega, by have := h2.2; exact this, hm, ?_⟩
      cases hy : rdF l false p.toNat p.toNat (-1) [] with
      | none =>
        rw [hy] at hs
        cases hs
        exact .inl (by decide)
      | some y =>
        obtain ⟨M', r'⟩ := y
        rw [hy] at hs
        cases hs
        have h4 := rd_plain (back := true) hy
        rw [hx] at h4
        obtain ⟨h5, h6⟩ := h4
        cases h5
        refine .inr ⟨rfl, rfl, rfl, ?_⟩
        dsimp only at h6
        have : sizeL [] = 1 := rfl
        omega
set_option maxHeartbeats 8000000 in
set_option maxRecDepth 100000 in
theorem squeezeSound_walk {W : World} {a : Option Addr} {n c : Nat} {l : List UInt8} (h : Rd byteE W a n c l) (p : Int) {a' : Option Addr} {n' c' : Nat} {l' : List UInt8} (h' : Rd byteE W a' n' c' l') :
    Calls Try.prog 5 #[.slice a n c, .int .i64 p, .slice a' n' c'] W fun e w' => e = .returned (.bool true) ∧ Below W.heap.size W w' := by
  obtain ⟨i0, hi, hz0, hz1, hz2⟩ := info_parts Try.info5
  have hl := h.len
  have hl' := h'.len
  have hH := Lib.hid h
  have hH' := Lib.hid h'
  clear h h'
  by_cases h20 : n ≤ 20000 ∧ n' ≤ 1000
  · have h20I : ¬ (20000 : Int) < n := by omega
    have h21I : ¬ (1000 : Int) < n' := by omega
    obtain ⟨L, q, k, hr⟩ : ∃ L q k, resL l true p = (L, q, k) := ⟨_, _, _, rfl⟩
    obtain ⟨M, r, j, hs⟩ : ∃ L q k, resL l false p = (L, q, k) := ⟨_, _, _, rfl⟩
    have hcs := res_cases l l' p hr hs
    have hr' := Lib.hid hr
    have hs' := Lib.hid hs
    clear hr hs
    have hcs' := Lib.hid hcs
    clear hcs
    subst hl
    go_enter Try.func5, Try.ntmps5
    go_wp2_with fail
    refine (awake_any W).mono ?_
    rintro e w1 ⟨rfl, hb1⟩
    have hH1 := Lib.hid (hH.out.ext hb1)
    have hb1' := Lib.hid hb1
    clear hb1
    go_wp2_with fail
    refine (prog_all hH1.out (by omega) p true hr'.out).mono ?_
    rintro e w2 ⟨⟨v1, rfl, ho1⟩, hb2⟩
    have hH2 := Lib.hid (hH1.out.ext hb2)
    have hb2' := Lib.hid (hb1'.out.trans (hb2.mono hb1'.out.size))
    have ho1' := Lib.hid ho1
    clear hb2 ho1 hb1' hH1
    go_wp2_with fail
    refine (prog_all hH2.out (by omega) p false hs'.out).mono ?_
    rintro e w3 ⟨⟨v2, rfl, ho2⟩, hb3⟩
    obtain ⟨a1, c1, rfl, hR1⟩ := (ho1'.out.own.ext hb3).rd
    obtain ⟨a2, c2, rfl, hR2⟩ := ho2.own.rd
    have hH3 := Lib.hid (hH2.out.ext hb3)
    have hb3' := Lib.hid (hb2'.out.trans (hb3.mono hb2'.out.size))
    have hR1' := Lib.hid hR1
    have hR2' := Lib.hid hR2
    clear hb3 ho1' ho2 hb2' hH2 hR1 hR2
    rcases hcs'.out with ⟨hk, hj, rfl, rfl⟩ | ⟨rfl, hp0, hck, hpq, hql, hmore, hcase⟩
    · clear hcs'
      have hj1 : (j != 0) = true := by simpa using hj
      go_wp2_with fail
      go_ret
      exact ⟨rfl, hb3'.out⟩
    · clear hcs'
      have hpqI : ¬ q ≤ p := by omega
      have hqlI : ¬ (l.length : Int) < q := by omega
      have hmo := Lib.hid hmore
      have hlL := checkL_len hck
      have hszL : sizeL L ≤ 1152921504606846976 := by have := (checkL_zero hck).2; omega
      have hck0 := Lib.hid hck
      clear hmore hck
      rcases hcase with hj | ⟨rfl, rfl, rfl, hsz⟩
      · have hj1 : (j == 0) = false := by simpa using hj
        have hj2 : (j != 0) = true := by simpa using hj
        clear hj
        go_wp2_with fail
        refine (check_any hR1'.out (by omega)).mono ?_
        rw [hck0.out]
        rintro e w4 ⟨rfl, rfl⟩
        go_wp2_with fail
        refine (copy_bytes hH3.out (by omega)).mono ?_
        rintro e w5 ⟨⟨v5, rfl, ho5⟩, hb5⟩
        obtain ⟨a5, c5, rfl⟩ := ho5.shape
        have hb5' := Lib.hid (hb3'.out.trans (hb5.mono hb3'.out.size))
        have ho5' := Lib.hid ho5
        have hz5 : Hid (w3.heap.size ≤ w5.heap.size) := Lib.hid hb5.size
        have hsrc := Lib.hid ((hH'.out.ext hb5'.out).src (P := Try.prog) Try.underlying22)
        have hb55 := Lib.hid hb5
        clear ho5 hb5
        go_wp2_with (at_builtin; refine app_own (E := byteE) rfl (.tmp 96) (.tmp 97) 22 22 rfl Try.underlying22 hi hz0 hz1 hz2 rfl rfl ho5'.out rfl hsrc.out ?c1 ?c2 hz5.out ?_)
        case c1 => first | omega | (simp [maxLen]; omega)
        case c2 => first | omega | (simp; omega)
        intro v6 w6 ho6 hg6 _
        have hb6' := Lib.hid (own_below hb5'.out hg6 ho5'.out hb5'.out.size hb3'.out.size)
        have hb56 := own_below (Below.refl w3.heap.size w5) hg6 ho5'.out hz5.out (Nat.le_refl _)
        obtain ⟨a6, c6, hv6, hR6⟩ := ho6.rd
        have hlen : (l ++ l').length = l.length + n' := by simp [hl']
        rw [hlen] at hv6 hR6
        subst hv6
        clear hlen
        have hR6' := Lib.hid hR6
        clear ho6 hg6 hR6 hsrc
        go_wp2_with fail
        refine (prog_all hR6'.out (by omega) p true hmo.out).mono ?_
        rintro e w7 ⟨⟨v7, rfl, ho7⟩, hb7⟩
        obtain ⟨a7, c7, rfl, hR7⟩ := ho7.own.rd
        have hb57 := hb55.out.trans hb56
        have hR17 := Lib.hid (hR1'.out.ext (hb57.trans (hb7.mono hb57.size)))
        have hR7' := Lib.hid hR7
        have hb7' := Lib.hid (hb6'.out.trans (hb7.mono hb6'.out.size))
        clear ho7 hb7 hb56 hb57 hR7
        go_wp2_with fail
        refine (same_name hR7'.out hR17.out).mono ?_
        rw [beq_self_eq_true]
        rintro e w8 ⟨rfl, hb8⟩
        have hb8' := Lib.hid (hb7'.out.trans (hb8.mono hb7'.out.size))
        clear hb8
        go_wp2_with fail
        go_ret
        exact ⟨rfl, hb8'.out⟩
      · have hszI : (r - p != (sizeL M : Int)) = false := by simpa using hsz
        clear hsz
        go_wp2_with fail
        refine (check_any hR1'.out (by omega)).mono ?_
        rw [hck0.out]
        rintro e w4 ⟨rfl, rfl⟩
        go_wp2_with fail
        refine (same_name hR2'.out hR1'.out).mono ?_
        rw [beq_self_eq_true]
        rintro e w4 ⟨rfl, hb4⟩
        have hR1'' := Lib.hid (hR1'.out.ext hb4)
        have hH3'' := Lib.hid (hH3.out.ext hb4)
        have hb4' := Lib.hid (hb3'.out.trans (hb4.mono hb3'.out.size))
        clear hR1' hH3 hb3' hb4 hR2'
        go_wp2_with fail
        refine (size_any hR1''.out hszL).mono ?_
        rintro e w5 ⟨rfl, rfl⟩
        go_wp2_with fail
        refine (copy_bytes hH3''.out (by omega)).mono ?_
        rintro e w5 ⟨⟨v5, rfl, ho5⟩, hb5⟩
        obtain ⟨a5, c5, rfl⟩ := ho5.shape
        have hb5' := Lib.hid (hb4'.out.trans (hb5.mono hb4'.out.size))
        have ho5' := Lib.hid ho5
        have hz5 : Hid (w4.heap.size ≤ w5.heap.size) := Lib.hid hb5.size
        have hsrc := Lib.hid ((hH'.out.ext hb5'.out).src (P := Try.prog) Try.underlying22)
        have hb55 := Lib.hid hb5
        clear ho5 hb5
        go_wp2_with (at_builtin; refine app_own (E := byteE) rfl (.tmp 96) (.tmp 97) 22 22 rfl Try.underlying22 hi hz0 hz1 hz2 rfl rfl ho5'.out rfl hsrc.out ?c1 ?c2 hz5.out ?_)
        case c1 => first | omega | (simp [maxLen]; omega)
        case c2 => first | omega | (simp; omega)
        intro v6 w6 ho6 hg6 _
        have hb6' := Lib.hid (own_below hb5'.out hg6 ho5'.out hb5'.out.size hb4'.out.size)
        have hb56 := own_below (Below.refl w4.heap.size w5) hg6 ho5'.out hz5.out (Nat.le_refl _)
        obtain ⟨a6, c6, hv6, hR6⟩ := ho6.rd
        have hlen : (l ++ l').length = l.length + n' := by simp [hl']
        rw [hlen] at hv6 hR6
        subst hv6
        clear hlen
        have hR6' := Lib.hid hR6
        clear ho6 hg6 hR6 hsrc
        go_wp2_with fail
        refine (prog_all hR6'.out (by omega) p true hmo.out).mono ?_
        rintro e w7 ⟨⟨v7, rfl, ho7⟩, hb7⟩
        obtain ⟨a7, c7, rfl, hR7⟩ := ho7.own.rd
        have hb57 := hb55.out.trans hb56
        have hR17 := Lib.hid (hR1''.out.ext (hb57.trans (hb7.mono hb57.size)))
        have hR7' := Lib.hid hR7
        have hb7' := Lib.hid (hb6'.out.trans (hb7.mono hb6'.out.size))
        clear ho7 hb7 hb56 hb57 hR7
        go_wp2_with fail
        refine (same_name hR7'.out hR17.out).mono ?_
        rw [beq_self_eq_true]
        rintro e w8 ⟨rfl, hb8⟩
        have hb8' := Lib.hid (hb7'.out.trans (hb8.mono hb7'.out.size))
        clear hb8
        go_wp2_with fail
        go_ret
        exact ⟨rfl, hb8'.out⟩
  · go_enter Try.func5, Try.ntmps5
    go_wp2_with fail
    refine (awake_any W).mono ?_
    rintro e w1 ⟨rfl, hb1⟩
    have hb1' := Lib.hid hb1
    clear hb1
    have h20B : (decide ((20000 : Int) < n) || decide ((1000 : Int) < n')) = true := by simp; omega
    go_wp2_with fail
    all_goals
      go_ret
      exact ⟨rfl, hb1'.out⟩
theorem squeezeSound_law {W : World} (a : Option Addr) (n c : Nat) (l : List UInt8) (hb : RB W a n c l) (x : Int) (_ : (Lit.int .i64 x).wf = true) (a' : Option Addr) (n' c' : Nat) (l' : List UInt8) (hb' : RB W a' n' c' l') (_ : World) :
    Calls Try.prog 5 #[.slice a n c, .int .i64 x, .slice a' n' c'] W fun e w' => e = .returned (.bool true) ∧ Below W.heap.size W w' := squeezeSound_walk hb.rd x hb'.rd
end Go.Proofs.Ytndpebhhgicooaa
