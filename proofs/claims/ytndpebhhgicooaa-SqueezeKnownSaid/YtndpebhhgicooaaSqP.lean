/- The program's Read 10. -/
import Derived.Test.YtndpebhhgicooaaSqR
import Derived.WalkMore
namespace Go.Proofs.Ytndpebhhgicooaa
open Go Go.RowKit
theorem or_i64 (a b : Nat) (ha : a < 65536) (hb : b < 65536) : bits .or .i64 (a : Int) (b : Int) = ((a ||| b : Nat) : Int) := (bits_nat .i64 16 (by decide) (fun n h0 h1 => by rw [IntKind.wrap_i64]; omega) a b ha hb).2
theorem or_low (a b : Nat) (hb : b < 256) : 256 * a ||| b = 256 * a + b := (Nat.two_pow_add_eq_or_of_lt (i := 8) hb a).symm
/-- alive: what is read from here is what is read; dead: too long, and nothing is read -/
def St (l : List UInt8) (back : Bool) (RES : Option (Nm × Int)) (p s : Nat) (x : Int) (L : Nm) : Prop := (255 < sizeL L → RES = none) ∧ (¬ 255 < sizeL L → rdF l back p s x L = RES)
theorem St.none {l : List UInt8} {back : Bool} {RES : Option (Nm × Int)} {p s : Nat} {x : Int} {L : Nm} (h : St l back RES p s x L) (hr : rdF l back p s x L = Option.none) : RES = Option.none := by
  by_cases hd : 255 < sizeL L
  · exact h.1 hd
  · exact (h.2 hd).symm.trans hr
theorem St.same {l : List UInt8} {back : Bool} {RES : Option (Nm × Int)} {p s p' s' : Nat} {x x' : Int} {L : Nm} (h : St l back RES p s x L) (hr : rdF l back p s x L = rdF l back p' s' x' L) : St l back RES p' s' x' L :=
  ⟨h.1, fun hd => hr.symm.trans (h.2 hd)⟩
theorem St.more {l : List UInt8} {back : Bool} {RES : Option (Nm × Int)} {p s : Nat} {x : Int} {L : Nm} (h : St l back RES p s x L) (hp : p < l.length) (h0 : cA l p ≠ 0) (hx : ¬ (63 < cA l p ∨ l.length < p + 1 + cA l p)) : St l back RES (p + 1 + cA l p) s x (L ++ [labA l p]) := by
  have hs := sizeL_app L (labA l p)
  refine ⟨fun hd => ?_, fun hd => ?_⟩
  · by_cases h1 : 255 < sizeL L
    · exact h.1 h1
    · exact (h.2 h1).symm.trans (rd_long hp h0 hx hd)
  · exact (rd_label hp h0 hx hd).symm.trans (h.2 (by omega))
theorem checkL_of {L : Nm} (h : ∀ t ∈ L, okLab t) : checkL L = if 255 < sizeL L then 5 else 0 := by unfold checkL; rw [if_pos h]
set_option maxHeartbeats 8000000 in
set_option maxRecDepth 100000 in
theorem prog_rd {w : World} {a : Option Addr} {n c : Nat} {l : List UInt8} (h : Rd byteE w a n c l) (hn : n ≤ 30000) (p0 : Nat) (hp0 : p0 ≤ n) (back : Bool) :
    Calls Try.prog 10 #[.slice a n c, .int .i64 p0, .bool back] w fun e w' => Out e w' w.heap.size (rdF l back p0 p0 (-1) []) ∧ Below w.heap.size w w' := by
  have hl := h.len
  have hH := Lib.hid h
  clear h
  obtain ⟨RES, hRES⟩ : ∃ R, rdF l back p0 p0 (-1) [] = R := ⟨_, rfl⟩
  rw [hRES]
  have hR0 : Hid (St l back RES p0 p0 (-1) []) := Lib.hid ⟨fun h => absurd h (by decide), fun _ => hRES⟩
  clear hRES
  have hg : ¬ (n : Int) < p0 := by omega
  go_enter Try.func10, Try.ntmps10
  go_wp2_with fail
  go_step3
  go_wp2_with fail
  go_step3
  go_wp2_with fail
  have hgd : decide (n < p0) = false := by simp; omega
  simp only [hgd, Bool.or_false]
  go_loopw [1, 9, 10, 11] (fun at_ nv nx st wr => ∃ (p s : Nat) (x : Int) (L : Nm), at_ = .int .i64 p ∧ st = .int .i64 s ∧ nx = .int .i64 x ∧ p ≤ n ∧ s ≤ n ∧ -1 ≤ x ∧ x ≤ n + 2 ∧ L.length ≤ 255 ∧ Hid (∀ t ∈ L, okLab t) ∧ OwnT 63 wr w.heap.size nv L ∧ Hid (St l back RES p s x L) ∧ Below w.heap.size w wr) (fun at_ _ _ st _ => (intOf st).toNat * (n + 1) + (n - (intOf at_).toNat))
  case atStart => exact ⟨p0, p0, -1, [], rfl, rfl, rfl, hp0, hp0, by omega, by omega, by decide, Lib.hid (fun t ht => by cases ht), OwnT.nil _ _ _, hR0, Below.refl _ _⟩
  case round =>
    obtain ⟨p, s, x, L, rfl, rfl, rfl, hp, hs, hx0, hx1, hLn, hok, ho, hR, hb⟩ := hrel
    have ho' := Lib.hid ho
    have hb' := Lib.hid hb
    clear ho hb hR0
    obtain ⟨av, cv, hav⟩ := ho'.out.shape
    subst hav
    have hLI : ¬ (255 : Int) < (L.length : Nat) := by omega
    by_cases hpn : p < n
    · obtain ⟨b, o, rfl, hcell⟩ := cellA (hH.out.ext hb'.out) hpn
      have hpI : (p : Int) < n := by omega
      have hpI2 : ¬ (n : Int) ≤ p := by omega
      have hcl := cA_lt l p
      by_cases h0 : cA l p = 0
      · have hst := rd_stop (back := back) (s := s) (nx := x) (n := L) (by omega : p < l.length) h0
        have hst' := Lib.hid hst
        clear hst
        rw [h0] at hcell
        obtain ⟨a4, c4, hv4, hrd4⟩ := ho'.out.rd
        simp only [Value.slice.injEq, true_and] at hv4
        obtain ⟨rfl, rfl⟩ := hv4
        have hrd4' := Lib.hid hrd4
        clear hrd4
        by_cases hd : 255 < sizeL L
        · have hck : checkL L = 5 := by rw [checkL_of hok.out, if_pos hd]
          have hRN := Lib.hid (hR.out.1 hd)
          go_wp2_with fail
          refine (check_any hrd4'.out (by omega)).mono ?_
          rw [hck]
          rintro e w4 ⟨rfl, rfl⟩
          go_wp2_with fail
          try rw [Exit.noGoto_ret]
          refine bodyPost_ret (results_tmp3 rfl _ _ _) rfl ?_
          have := hRN.out
          subst this
          exact ⟨Out.bad rfl, hb'.out⟩
        · have hck : checkL L = 0 := by rw [checkL_of hok.out, if_neg hd]
          have hRN := Lib.hid ((hR.out.2 hd).symm.trans hst'.out)
          by_cases hx : x < 0
          · go_wp2_with fail
            refine (check_any hrd4'.out (by omega)).mono ?_
            rw [hck]
            rintro e w4 ⟨rfl, rfl⟩
            go_wp2_with fail
            try rw [Exit.noGoto_ret]
            refine bodyPost_ret (results_tmp3 rfl _ _ _) rfl ?_
            have := hRN.out
            rw [if_pos hx] at this
            subst this
            exact ⟨Out.ok rfl ho'.out, hb'.out⟩
          · go_wp2_with fail
            refine (check_any hrd4'.out (by omega)).mono ?_
            rw [hck]
            rintro e w4 ⟨rfl, rfl⟩
            go_wp2_with fail
            try rw [Exit.noGoto_ret]
            refine bodyPost_ret (results_tmp3 rfl _ _ _) rfl ?_
            have := hRN.out
            rw [if_neg (by omega)] at this
            subst this
            exact ⟨Out.ok rfl ho'.out, hb'.out⟩
      · have h0I : ¬ ((cA l p : Nat) : Int) = 0 := by omega
        by_cases hc : 192 ≤ cA l p
        · have hcI : (192 : Int) ≤ (cA l p : Nat) := by omega
          have h63I : ¬ ((cA l p : Nat) : Int) ≤ 63 := by omega
          by_cases hbk : back = true
          · by_cases h1 : p + 1 < n
            · obtain ⟨b', o', e', hcell2⟩ := cellA (hH.out.ext hb'.out) h1
              simp only [Option.some.injEq, Addr.mk.injEq] at e'
              obtain ⟨rfl, rfl, _⟩ := e'
              have h1I : (p : Int) + 1 < n := by omega
              have hcl2 := cA_lt l (p + 1)
              have hor : bits .or .i64 (((cA l p : Nat) - 192 : Int) * 256) ((cA l (p + 1) : Nat) : Int) = ((toA l p : Nat) : Int) := by
                have e1 : (((cA l p : Nat) - 192 : Int) * 256) = ((256 * (cA l p - 192) : Nat) : Int) := by omega
                rw [e1, or_i64 _ _ (by omega) (by omega), or_low _ _ hcl2]
                rfl
              by_cases hst : toA l p < s
              · have hj := Lib.hid (hR.out.same (rd_jump (nx := x) (n := L) (by omega : p < l.length) hc hbk (by omega) hst))
                have hm := Lib.hid (jump_lt hst hpn)
                have hsI : ¬ (s : Int) ≤ (toA l p : Nat) := by omega
                have hst' := Lib.hid hst
                clear hst
                subst hbk
                by_cases hx : x < 0
                · go_wp2_with fail
                  go_roundw
                  case rel => exact ⟨toA l p, toA l p, (p : Int) + 2, L, rfl, rfl, rfl, by have := hst'.out; omega, by have := hst'.out; omega, by omega, by omega, hLn, hok, ho'.out, Lib.hid (by have := hj.out; rwa [if_pos hx] at this), hb'.out⟩
                  case measure => have := hm.out; simpa [intOf] using this
                · go_wp2_with fail
                  go_roundw
                  case rel => exact ⟨toA l p, toA l p, x, L, rfl, rfl, rfl, by have := hst'.out; omega, by have := hst'.out; omega, by omega, by omega, hLn, hok, ho'.out, Lib.hid (by have := hj.out; rwa [if_neg (by omega)] at this), hb'.out⟩
                  case measure => have := hm.out; simpa [intOf] using this
              · have hsI : (s : Int) ≤ (toA l p : Nat) := by omega
                have hst := Lib.hid (hR.out.none (rd_far (nx := x) (n := L) (by omega : p < l.length) hc hbk (by omega) (by omega)))
                subst hbk
                go_wp2_with fail
                try rw [Exit.noGoto_ret]
                refine bodyPost_ret (results_tmp3 rfl _ _ _) rfl ?_
                have := hst.out
                subst this
                exact ⟨Out.bad rfl, hb'.out⟩
            · have h1I : ¬ (p : Int) + 1 < n := by omega
              have hst := Lib.hid (hR.out.none (rd_bad (back := back) (s := s) (nx := x) (n := L) (by omega : p < l.length) h0 (fun h => by omega) (.inl (by omega))))
              subst hbk
              go_wp2_with fail
              try rw [Exit.noGoto_ret]
              refine bodyPost_ret (results_tmp3 rfl _ _ _) rfl ?_
              have := hst.out
              subst this
              exact ⟨Out.bad rfl, hb'.out⟩
          · have hbk' : back = false := by simpa using hbk
            have hst := Lib.hid (hR.out.none (rd_bad (back := back) (s := s) (nx := x) (n := L) (by omega : p < l.length) h0 (fun h => hbk h.2.1) (.inl (by omega))))
            clear hbk
            subst hbk'
            go_wp2_with fail
            try rw [Exit.noGoto_ret]
            refine bodyPost_ret (results_tmp3 rfl _ _ _) rfl ?_
            have := hst.out
            subst this
            exact ⟨Out.bad rfl, hb'.out⟩
        · have hcI : ¬ (192 : Int) ≤ (cA l p : Nat) := by omega
          by_cases h63 : 63 < cA l p
          · have h63I : ¬ ((cA l p : Nat) : Int) ≤ 63 := by omega
            have hst := Lib.hid (hR.out.none (rd_bad (back := back) (s := s) (nx := x) (n := L) (by omega : p < l.length) h0 (fun h => hc h.1) (.inl h63)))
            go_wp2_with fail
            try rw [Exit.noGoto_ret]
            refine bodyPost_ret (results_tmp3 rfl _ _ _) rfl ?_
            have := hst.out
            subst this
            exact ⟨Out.bad rfl, hb'.out⟩
          · have h63I : ((cA l p : Nat) : Int) ≤ 63 := by omega
            by_cases hlen : p + 1 + cA l p ≤ n
            · have hlI : ¬ (n : Int) < (p : Int) + 1 + (cA l p : Nat) := by omega
              obtain ⟨a2, hrun, hr2⟩ := cut_lh (P := Try.prog) (hH.out.ext hb'.out) 22 Try.underlying22 (by kernel_rfl) .i64 .i64 ((p : Int) + 1) ((p : Int) + 1 + (cA l p : Nat)) (p + 1) (p + 1 + cA l p) (by omega) (by omega) (by omega) hlen
              have hcut : (l.take (p + 1 + cA l p)).drop (p + 1) = labA l p := rfl
              rw [hcut] at hr2
              have hdm : p + 1 + cA l p - (p + 1) = cA l p := by omega
              rw [hdm] at hrun hr2
              clear hdm
              have hstr := rd_toStr (P := Try.prog) hr2 22 9 Try.underlying22 Try.underlying5 Try.underlying9
              have hXl := labA_len (b := l) (p := p) (by omega)
              have ho2 := Lib.hid (ho'.out.ext ((Below.refl _ _).alloc (Nat.le_refl _) (.cells #[.string (mk (labA l p))] 9)))
              have hlit := Lib.hid (lit_rd wr (labA l p))
              have hb4 : Below w.heap.size w (wr.alloc (.cells #[.string (mk (labA l p))] 9)) := hb'.out.alloc hb'.out.size _
              have hb4' := Lib.hid hb4
              have hmo := Lib.hid (hR.out.more (by omega) h0 (by omega))
              have hX' := Lib.hid hXl
              clear hr2 hcut hb4 hXl
              generalize hXX : labA l p = X at *
              clear hXX
              go_wp2_with (at_builtin; refine app_ownT rfl (.tmp 47) (.tmp 57) 25 25 rfl Try.underlying25 Try.underlying25 rfl ho2.out rfl hlit.out ?c1 ?c2 hb4'.out.size ?_)
              case c1 => have := hX'.out; omega
              case c2 => first | omega | (simp; omega)
              intro v3 w3 h3 hg3 _
              have hb5 := Lib.hid (own_below hb4'.out hg3 ho2.out.own hb4'.out.size (Nat.le_refl _))
              obtain ⟨a3, cap3, hv3⟩ := h3.shape
              have hl3 : (L ++ [X]).length = L.length + 1 := by simp
              rw [hl3] at hv3
              subst hv3
              have h3' := Lib.hid h3
              have hok' : Hid (∀ t ∈ L ++ [X], okLab t) := Lib.hid (fun t ht => by
                rcases List.mem_append.1 ht with ht | ht
                · exact hok.out t ht
                · have : t = X := by simpa using ht
                  subst this
                  unfold okLab
                  have := hX'.out
                  omega)
              have hge := sizeL_ge (L ++ [X])
              rw [hl3] at hge
              have hge' := Lib.hid hge
              clear hge h3 hg3 hb4' hlit ho2 hrun hstr
              by_cases hbig : 255 < L.length + 1
              · have hbI : (255 : Int) < (L.length : Int) + 1 := by omega
                have hst := Lib.hid (hmo.out.1 (by have := hge'.out; omega))
                go_wp2_with fail
                try rw [Exit.noGoto_ret]
                refine bodyPost_ret (results_tmp3 rfl _ _ _) rfl ?_
                have := hst.out
                subst this
                exact ⟨Out.bad rfl, hb5.out⟩
              · have hbI : ¬ (255 : Int) < (L.length : Int) + 1 := by omega
                go_wp2_with fail
                go_roundw
                case rel => exact ⟨p + 1 + cA l p, s, x, L ++ [X], by go_num, rfl, rfl, by omega, by omega, by omega, by omega, by rw [hl3]; omega, hok', by simpa using h3'.out, hmo, hb5.out⟩
                case measure => simp [intOf]; omega
            · have hlI : (n : Int) < (p : Int) + 1 + (cA l p : Nat) := by omega
              have hst := Lib.hid (hR.out.none (rd_bad (back := back) (s := s) (nx := x) (n := L) (by omega : p < l.length) h0 (fun h => hc h.1) (.inr (by omega))))
              go_wp2_with fail
              try rw [Exit.noGoto_ret]
              refine bodyPost_ret (results_tmp3 rfl _ _ _) rfl ?_
              have := hst.out
              subst this
              exact ⟨Out.bad rfl, hb'.out⟩
    · have hpI : (n : Int) ≤ p := by omega
      have hst := Lib.hid (hR.out.none (rd_out (back := back) (s := s) (nx := x) (n := L) (by omega : l.length ≤ p)))
      go_wp2_with fail
      try rw [Exit.noGoto_ret]
      refine bodyPost_ret (results_tmp3 rfl _ _ _) rfl ?_
      have := hst.out
      subst this
      exact ⟨Out.bad rfl, hb'.out⟩
end Go.Proofs.Ytndpebhhgicooaa
