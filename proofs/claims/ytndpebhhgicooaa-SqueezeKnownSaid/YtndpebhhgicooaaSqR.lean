/- The document's Read 11. -/
import Derived.Test.YtndpebhhgicooaaSqL
namespace Go.Proofs.Ytndpebhhgicooaa
open Go Go.RowKit
theorem cellA {w : World} {a : Option Addr} {n c : Nat} {l : List UInt8} (h : Rd byteE w a n c l) {p : Nat} (hp : p < n) : ∃ b o, a = some ⟨b, o, none⟩ ∧ w.cell? ⟨b, o + p, none⟩ = some (.int .u8 (cA l p)) := by
  obtain ⟨b, o, h1, h2⟩ := rd_byte h (by omega)
  have hl := h.len
  refine ⟨b, o, h1, ?_⟩
  rw [h2 p (by omega), cA_get (by omega)]
set_option maxHeartbeats 8000000 in
set_option maxRecDepth 100000 in
theorem ref_rd {w : World} {a : Option Addr} {n c : Nat} {l : List UInt8} (h : Rd byteE w a n c l) (hn : n ≤ 30000) (p0 : Nat) (hp0 : p0 ≤ n) (back : Bool) :
    Calls Try.prog 11 #[.slice a n c, .int .i64 p0, .bool back] w fun e w' => Out e w' w.heap.size (rdF l back p0 p0 (-1) []) ∧ Below w.heap.size w w' := by
  have hl := h.len
  have hH := Lib.hid h
  clear h
  obtain ⟨RES, hRES⟩ : ∃ R, rdF l back p0 p0 (-1) [] = R := ⟨_, rfl⟩
  rw [hRES]
  have hR0 := Lib.hid hRES
  clear hRES
  have hg : ¬ (n : Int) < p0 := by omega
  go_enter Try.func11, Try.ntmps11
  go_wp2_with fail
  go_loopw [1, 9, 10, 11] (fun at_ nv st nx wr => ∃ (p s : Nat) (x : Int) (L : Nm), at_ = .int .i64 p ∧ st = .int .i64 s ∧ nx = .int .i64 x ∧ p ≤ n ∧ s ≤ n ∧ -1 ≤ x ∧ x ≤ n + 2 ∧ sizeL L ≤ 255 ∧ OwnT 63 wr w.heap.size nv L ∧ Hid (rdF l back p s x L = RES) ∧ Below w.heap.size w wr) (fun at_ _ st _ _ => (intOf st).toNat * (n + 1) + (n - (intOf at_).toNat))
  case atStart => exact ⟨p0, p0, -1, [], rfl, rfl, rfl, hp0, hp0, by omega, by omega, by decide, OwnT.nil _ _ _, hR0, Below.refl _ _⟩
  case round =>
    obtain ⟨p, s, x, L, rfl, rfl, rfl, hp, hs, hx0, hx1, hz, ho, hR, hb⟩ := hrel
    have ho' := Lib.hid ho
    have hb' := Lib.hid hb
    clear ho hb hR0
    by_cases hpn : p < n
    · obtain ⟨b, o, rfl, hcell⟩ := cellA (hH.out.ext hb'.out) hpn
      have hpI : (p : Int) < n := by omega
      have hpI2 : ¬ (n : Int) ≤ p := by omega
      have hcl := cA_lt l p
      by_cases h0 : cA l p = 0
      · have hst := rd_stop (back := back) (s := s) (nx := x) (n := L) (by omega : p < l.length) h0
        have hst' := Lib.hid (hst.symm.trans hR.out)
        clear hst
        rw [h0] at hcell
        obtain ⟨av, cv, rfl⟩ := ho'.out.shape
        by_cases hx : x < 0
        · go_wp2_with fail
          refine bodyPost_ret (results_tmp3 rfl _ _ _) rfl ?_
          have := hst'.out
          rw [if_pos hx] at this
          subst this
          exact ⟨Out.ok rfl ho'.out, hb'.out⟩
        · go_wp2_with fail
          refine bodyPost_ret (results_tmp3 rfl _ _ _) rfl ?_
          have := hst'.out
          rw [if_neg (by omega)] at this
          subst this
          exact ⟨Out.ok rfl ho'.out, hb'.out⟩
      · have h0I : ¬ ((cA l p : Nat) : Int) = 0 := by omega
        by_cases hc : 192 ≤ cA l p
        · have hcI : (192 : Int) ≤ (cA l p : Nat) := by omega
          by_cases hbk : back = true
          · by_cases h1 : p + 1 < n
            · obtain ⟨b', o', e', hcell2⟩ := cellA (hH.out.ext hb'.out) h1
              simp only [Option.some.injEq, Addr.mk.injEq] at e'
              obtain ⟨rfl, rfl, _⟩ := e'
              have h1I : (p : Int) + 1 < n := by omega
              have hcl2 := cA_lt l (p + 1)
              have hto : ((toA l p : Nat) : Int) = 256 * ((cA l p : Int) - 192) + (cA l (p + 1) : Int) := by unfold toA; omega
              by_cases hst : toA l p < s
              · have hj := Lib.hid ((rd_jump (nx := x) (n := L) (by omega : p < l.length) hc hbk (by omega) hst).symm.trans hR.out)
                have hm := Lib.hid (jump_lt hst hpn)
                have hsI : ¬ (s : Int) ≤ 256 * ((cA l p : Int) - 192) + (cA l (p + 1) : Int) := by omega
                have hto' := Lib.hid hto
                have hst' := Lib.hid hst
                clear hto hst
                by_cases hx : x < 0
                · go_wp2_with fail
                  go_roundw
                  case rel => exact ⟨toA l p, toA l p, (p : Int) + 2, L, by rw [hto'.out], by rw [hto'.out], rfl, by have := hst'.out; omega, by have := hst'.out; omega, by omega, by omega, hz, ho'.out, Lib.hid (by have := hj.out; rwa [if_pos hx] at this), hb'.out⟩
                  case measure => have := hm.out; rw [← hto'.out]; simpa [intOf] using this
                · go_wp2_with fail
                  go_roundw
                  case rel => exact ⟨toA l p, toA l p, x, L, by rw [hto'.out], by rw [hto'.out], rfl, by have := hst'.out; omega, by have := hst'.out; omega, by omega, by omega, hz, ho'.out, Lib.hid (by have := hj.out; rwa [if_neg (by omega)] at this), hb'.out⟩
                  case measure => have := hm.out; rw [← hto'.out]; simpa [intOf] using this
              · have hsI : (s : Int) ≤ 256 * ((cA l p : Int) - 192) + (cA l (p + 1) : Int) := by omega
                have hst := Lib.hid ((rd_far (nx := x) (n := L) (by omega : p < l.length) hc hbk (by omega) (by omega)).symm.trans hR.out)
                go_wp2_with fail
                refine bodyPost_ret (results_tmp3 rfl _ _ _) rfl ?_
                have := hst.out
                subst this
                exact ⟨Out.bad rfl, hb'.out⟩
            · have h1I : ¬ (p : Int) + 1 < n := by omega
              have h63I : (63 : Int) < (cA l p : Nat) := by omega
              have hst := Lib.hid ((rd_bad (back := back) (s := s) (nx := x) (n := L) (by omega : p < l.length) h0 (fun h => by omega) (.inl (by omega))).symm.trans hR.out)
              subst hbk
              go_wp2_with fail
              refine bodyPost_ret (results_tmp3 rfl _ _ _) rfl ?_
              have := hst.out
              subst this
              exact ⟨Out.bad rfl, hb'.out⟩
          · have hbk' : back = false := by simpa using hbk
            have h63I : (63 : Int) < (cA l p : Nat) := by omega
            have hst := Lib.hid ((rd_bad (back := back) (s := s) (nx := x) (n := L) (by omega : p < l.length) h0 (fun h => hbk h.2.1) (.inl (by omega))).symm.trans hR.out)
            clear hbk
            subst hbk'
            go_wp2_with fail
            refine bodyPost_ret (results_tmp3 rfl _ _ _) rfl ?_
            have := hst.out
            subst this
            exact ⟨Out.bad rfl, hb'.out⟩
        · have hcI : ¬ (192 : Int) ≤ (cA l p : Nat) := by omega
          by_cases h63 : 63 < cA l p
          · have h63I : (63 : Int) < (cA l p : Nat) := by omega
            have hst := Lib.hid ((rd_bad (back := back) (s := s) (nx := x) (n := L) (by omega : p < l.length) h0 (fun h => hc h.1) (.inl h63)).symm.trans hR.out)
            go_wp2_with fail
            refine bodyPost_ret (results_tmp3 rfl _ _ _) rfl ?_
            have := hst.out
            subst this
            exact ⟨Out.bad rfl, hb'.out⟩
          · have h63I : ¬ (63 : Int) < (cA l p : Nat) := by omega
            by_cases hlen : p + 1 + cA l p ≤ n
            · have hlI : ¬ (n : Int) < (p : Int) + 1 + (cA l p : Nat) := by omega
              obtain ⟨a2, hrun, hr2⟩ := cut_lh (P := Try.prog) (hH.out.ext hb'.out) 22 Try.underlying22 (by kernel_rfl) .i64 .i64 ((p : Int) + 1) ((p : Int) + 1 + (cA l p : Nat)) (p + 1) (p + 1 + cA l p) (by omega) (by omega) (by omega) hlen
              have hcut : (l.take (p + 1 + cA l p)).drop (p + 1) = labA l p := rfl
              rw [hcut] at hr2
              have hdm : p + 1 + cA l p - (p + 1) = cA l p := by omega
              rw [hdm] at hrun hr2
              clear hdm
              have hstr := rd_toStr (P := Try.prog) hr2 22 9 Try.underlying22 Try.underlying5 Try.underlying9
              have hXl := labA_len (b := l) (p := p) (by omega)
              have hge := sizeL_ge L
              have ho2 := Lib.hid (ho'.out.ext ((Below.refl _ _).alloc (Nat.le_refl _) (.cells #[.string (mk (labA l p))] 9)))
              have hlit := Lib.hid (lit_rd wr (labA l p))
              have hb4 : Below w.heap.size w (wr.alloc (.cells #[.string (mk (labA l p))] 9)) := hb'.out.alloc hb'.out.size _
              have hb4' := Lib.hid hb4
              have hsl := sizeL_app L (labA l p)
              have hlab := fun hl2 => rd_label (back := back) (s := s) (nx := x) (n := L) (by omega : p < l.length) h0 (by omega) hl2
              have hlong := fun hl2 => rd_long (back := back) (s := s) (nx := x) (n := L) (by omega : p < l.length) h0 (by omega) hl2
              have hlab' := Lib.hid hlab
              have hlong' := Lib.hid hlong
              have hX' := Lib.hid hXl
              have hsl' := Lib.hid hsl
              clear hlab hlong hr2 hcut hb4 hXl hsl
              generalize hXX : labA l p = X at *
              clear hXX
              go_wp2_with (at_builtin; refine app_ownT rfl (.tmp 76) (.tmp 86) 25 25 rfl Try.underlying25 Try.underlying25 rfl ho2.out rfl hlit.out ?c1 ?c2 hb4'.out.size ?_)
              case c1 => have := hX'.out; omega
              case c2 => first | omega | (simp; omega)
              intro v3 w3 h3 hg3 _
              have hb5 := Lib.hid (own_below hb4'.out hg3 ho2.out.own hb4'.out.size (Nat.le_refl _))
              obtain ⟨a3, cap3, hv3, hrd3⟩ := h3.rd
              have hl3 : (L ++ [X]).length = L.length + 1 := by simp
              rw [hl3] at hv3 hrd3
              subst hv3
              have h3' := Lib.hid h3
              have hrd3' := Lib.hid hrd3
              clear hl3 h3 hg3 hrd3 hb4' hlit ho2 hrun hstr
              go_wp2_with fail
              refine (rsize_any hrd3'.out (by have := hsl'.out; have := hX'.out; omega)).mono ?_
              rintro e w4 ⟨rfl, rfl⟩
              by_cases hbig : 255 < sizeL (L ++ [X])
              · have hbI : (255 : Int) < (sizeL (L ++ [X]) : Nat) := by omega
                have hst := Lib.hid ((hlong'.out hbig).symm.trans hR.out)
                go_wp2_with fail
                refine bodyPost_ret (results_tmp3 rfl _ _ _) rfl ?_
                have := hst.out
                subst this
                exact ⟨Out.bad rfl, hb5.out⟩
              · have hbI : ¬ (255 : Int) < (sizeL (L ++ [X]) : Nat) := by omega
                have hst := Lib.hid ((hlab'.out hbig).symm.trans hR.out)
                go_wp2_with fail
                go_roundw
                case rel => exact ⟨p + 1 + cA l p, s, x, L ++ [X], by go_num, rfl, rfl, by omega, by omega, by omega, by omega, by omega, by simpa using h3'.out, hst, hb5.out⟩
                case measure => simp [intOf]; omega
            · have hlI : (n : Int) < (p : Int) + 1 + (cA l p : Nat) := by omega
              have hst := Lib.hid ((rd_bad (back := back) (s := s) (nx := x) (n := L) (by omega : p < l.length) h0 (fun h => hc h.1) (.inr (by omega))).symm.trans hR.out)
              go_wp2_with fail
              refine bodyPost_ret (results_tmp3 rfl _ _ _) rfl ?_
              have := hst.out
              subst this
              exact ⟨Out.bad rfl, hb'.out⟩
    · have hpI : (n : Int) ≤ p := by omega
      have hst := Lib.hid ((rd_out (back := back) (s := s) (nx := x) (n := L) (by omega : l.length ≤ p)).symm.trans hR.out)
      go_wp2_with fail
      refine bodyPost_ret (results_tmp3 rfl _ _ _) rfl ?_
      have := hst.out
      subst this
      exact ⟨Out.bad rfl, hb'.out⟩
end Go.Proofs.Ytndpebhhgicooaa
