/- Lists of entries beside one another: words 24, Same 9; Copy 6. -/
import Derived.Test.YtojdjhicjhhblaaDoorJnB
namespace Go.Proofs.YtojdjhicjhhblaaDoor
open Go Go.RowKit
def sameE : List Ent → List Ent → Bool
  | [], [] => true
  | a :: r, b :: s => a.line == b.line && a.blank == b.blank && a.words == b.words && sameE r s
  | _, _ => false
theorem sameE_len {A B : List Ent} (h : A.length ≠ B.length) : sameE A B = false := by
  induction A generalizing B with
  | nil => cases B with | nil => exact absurd rfl h | cons => rfl
  | cons a r ih =>
    cases B with
    | nil => rfl
    | cons b s => simp only [sameE]; rw [ih (by simpa using h), Bool.and_false]
theorem sameE_iff (A B : List Ent) : sameE A B = true ↔ A = B := by
  induction A generalizing B with
  | nil => cases B with | nil => simp [sameE] | cons => simp [sameE]
  | cons a r ih =>
    cases B with
    | nil => simp [sameE]
    | cons b s =>
      simp only [sameE, Bool.and_eq_true, beq_iff_eq, ih, List.cons.injEq]
      constructor
      · rintro ⟨⟨⟨h1, h2⟩, h3⟩, h4⟩
        refine ⟨?_, h4⟩
        cases a; cases b
        simp_all
      · rintro ⟨rfl, h⟩
        exact ⟨⟨⟨rfl, rfl⟩, rfl⟩, h⟩
theorem sameE_refl (A : List Ent) : sameE A A = true := (sameE_iff A A).2 rfl
theorem RdEn.drewN {w : World} {a : Option Addr} {n c : Nat} {L : List Ent} (h : RdEn w a n c L) (q : Nat) : RdEn (w.drewN q) a n c L := h.ext ⟨rfl, rfl, rfl, Nat.le_refl _, fun _ _ => rfl⟩
theorem drewN_drewN (w : World) (a b : Nat) : (w.drewN a).drewN b = w.drewN (a + b) := World.drewN_drewN ..
set_option maxHeartbeats 8000000 in
set_option maxRecDepth 100000 in
theorem words_any {w : World} {a a' : Option Addr} {n c n' c' : Nat} {l l' : List Trm} (h : Rd trE w a n c l) (h' : Rd trE w a' n' c' l') :
    Calls Tryd.prog 11 #[.slice a n c, .slice a' n' c'] w fun e w' => e = .returned (.bool (l == l')) ∧ ∃ q, w' = w.drewN q := by
  have hl := h.len
  have hl' := h'.len
  have hm := h.most
  have hc := h.cap
  have hm' := h'.most
  have hc' := h'.cap
  have hH := Lib.hid h
  have hH' := Lib.hid h'
  have hL := Lib.hid (And.intro hl hl')
  clear h h' hl hl'
  simp only [maxLen] at hm hm'
  by_cases e : n = n'
  · subst e
    go_enter Tryd.func11, Tryd.ntmps11
    go_wp2_with fail
    go_loopw [5] (fun i wr => ∃ k : Nat, k ≤ n ∧ i = .int .i64 k ∧ Hid (l.take k = l'.take k) ∧ Hid (∃ q, wr = w.drewN q)) (fun i _ => n - (intOf i).toNat)
    case atStart => exact ⟨0, Nat.zero_le _, rfl, Lib.hid rfl, Lib.hid ⟨0, rfl⟩⟩
    case round =>
      obtain ⟨k, hk, rfl, hp, hq⟩ := hrel
      obtain ⟨q, hq0⟩ := hq.out
      have hlen := hL.out
      by_cases hlt : k < n
      · have hltI : (k : Int) < n := by omega
        obtain ⟨x, hx⟩ : ∃ x, l[k]? = some x := ⟨_, List.getElem?_eq_getElem (by omega)⟩
        obtain ⟨y, hy⟩ : ∃ y, l'[k]? = some y := ⟨_, List.getElem?_eq_getElem (by omega)⟩
        obtain ⟨b, o, rfl, -, x0, x1⟩ := rd_tr (hH.out.drewN q) hlt x hx
        obtain ⟨b', o', rfl, -, y0, y1⟩ := rd_tr (hH'.out.drewN q) hlt y hy
        rw [← hq0] at x0 x1 y0 y1
        have e1 := Lib.hid (at_take hx)
        have e2 := Lib.hid (at_take hy)
        obtain ⟨xt, xq⟩ := x
        obtain ⟨yt, yq⟩ := y
        dsimp only at x0 x1 y0 y1
        have hxy := Lib.hid (And.intro hx hy)
        have hq1 := Lib.hid hq0
        clear hlen hx hy hq0
        have fin : ∀ nq, ∃ q, wr.drewN nq = w.drewN q := fun nq => ⟨q + nq, by rw [hq1.out, drewN_drewN]⟩
        have hne : (xt, xq) ≠ (yt, yq) → Hid ((l == l') = false) := fun h => Lib.hid (by
          rw [beq_eq_false_iff_ne]
          intro e
          subst e
          have h2 := hxy.out.1.symm.trans hxy.out.2
          exact h (Option.some.inj h2))
        have f2 := Lib.hid fin
        have n2 := Lib.hid hne
        clear fin hne
        by_cases h1 : xt = yt
        · by_cases h2 : xq = yq
          · subst h1 h2
            go_wp2_with fail
            go_quiet (fail)
            go_wp2_with fail
            refine ⟨⟨k + 1, by omega, by push_cast; rfl, Lib.hid (by rw [e1.out, e2.out, hp.out]), Lib.hid (f2.out _)⟩, by simp only [intOf]; omega⟩
          · have hb : (xq == yq) = false := by rw [beq_eq_false_iff_ne]; exact h2
            have hres := n2.out (fun e => h2 (congrArg Prod.snd e))
            subst h1
            clear h2 n2
            go_wp2_with fail
            go_quiet (fail)
            go_wp2_with fail
            go_ret
            exact ⟨by rw [hres.out]; rfl, f2.out _⟩
        · have hb : (xt == yt) = false := by rw [beq_eq_false_iff_ne]; exact h1
          have hres := n2.out (fun e => h1 (congrArg Prod.fst e))
          clear h1 n2
          go_wp2_with fail
          go_quiet (fail)
          go_wp2_with fail
          go_ret
          exact ⟨by rw [hres.out]; rfl, f2.out _⟩
      · have hk' : k = n := by omega
        subst hk'
        have hres : Hid ((l == l') = true) := Lib.hid (by
          have := hp.out
          rw [List.take_of_length_le (by omega), List.take_of_length_le (by omega)] at this
          rw [this]; exact beq_self_eq_true _)
        clear hlen hq0 hlt
        go_wp2_with fail
        go_ret
        exact ⟨by rw [hres.out]; rfl, hq.out⟩
  · have e2 : ¬ ((n : Int) = (n' : Int)) := by omega
    have hres : Hid ((l == l') = false) := Lib.hid (by
      have := hL.out
      rw [beq_eq_false_iff_ne]; intro e; subst e; omega)
    go_enter Tryd.func11, Tryd.ntmps11
    go_wp2_with fail
    go_ret
    exact ⟨by rw [hres.out]; rfl, 0, rfl⟩
set_option maxHeartbeats 8000000 in
set_option maxRecDepth 100000 in
theorem same_any {w : World} {a a' : Option Addr} {n c n' c' : Nat} {A B : List Ent} (h : RdEn w a n c A) (h' : RdEn w a' n' c' B) :
    Calls Tryd.prog 23 #[.slice a n c, .slice a' n' c'] w fun e w' => e = .returned (.bool (sameE A B)) ∧ Below w.heap.size w w' := by
  have hl := h.len
  have hl' := h'.len
  obtain ⟨hc, hm⟩ := h.cap
  obtain ⟨hc', hm'⟩ := h'.cap
  have hH := Lib.hid h
  have hH' := Lib.hid h'
  have hL := Lib.hid (And.intro hl hl')
  clear h h' hl hl'
  simp only [maxLen] at hm hm'
  by_cases e : n = n'
  rotate_left
  · have e2 : ¬ ((n : Int) = (n' : Int)) := by omega
    have hres : Hid (sameE A B = false) := Lib.hid (sameE_len (by have := hL.out; omega))
    go_enter Tryd.func23, Tryd.ntmps23
    go_wp2_with fail
    go_ret
    exact ⟨by rw [hres.out]; rfl, Below.refl _ _⟩
  subst e
  go_enter Tryd.func23, Tryd.ntmps23
  go_wp2_with fail
  go_loopw [5] (fun i wr => ∃ k : Nat, k ≤ n ∧ i = .int .i64 k ∧ Hid (sameE A B = sameE (A.drop k) (B.drop k)) ∧ Hid (∃ q, wr = w.drewN q)) (fun i _ => n - (intOf i).toNat)
  case atStart => exact ⟨0, Nat.zero_le _, rfl, Lib.hid rfl, Lib.hid ⟨0, rfl⟩⟩
  case round =>
    obtain ⟨k, hk, rfl, hp, hq⟩ := hrel
    obtain ⟨q, hq0⟩ := hq.out
    have hlen := hL.out
    by_cases hlt : k < n
    · have hltI : (k : Int) < n := by omega
      obtain ⟨x, hx⟩ : ∃ x, A[k]? = some x := ⟨_, List.getElem?_eq_getElem (by omega)⟩
      obtain ⟨y, hy⟩ : ∃ y, B[k]? = some y := ⟨_, List.getElem?_eq_getElem (by omega)⟩
      obtain ⟨b, o, xa, xn, xc, rfl, -, x0, x1, x2, xw⟩ := (hH.out.drewN q).at_ hlt x hx
      obtain ⟨b', o', ya, yn, yc, rfl, -, y0, y1, y2, yw⟩ := (hH'.out.drewN q).at_ hlt y hy
      have hd : Hid (sameE A B = (x.line == y.line && x.blank == y.blank && x.words == y.words && sameE (A.drop (k + 1)) (B.drop (k + 1)))) := Lib.hid (by rw [hp.out, at_drop hx, at_drop hy]; rfl)
      rw [← hq0] at x0 x1 x2 y0 y1 y2 xw yw
      have hcall : ∀ m, Hid (Calls Tryd.prog 11 #[.slice xa xn xc, .slice ya yn yc] (wr.drewN m) fun e w'' => e = .returned (.bool (x.words == y.words)) ∧ ∃ m', w'' = wr.drewN m') := fun m => Lib.hid (Calls.quiet_of (words_any (xw.drewN m) (yw.drewN m)))
      have fin : ∀ nq, ∃ q, wr.drewN nq = w.drewN q := fun nq => ⟨q + nq, by rw [hq0, drewN_drewN]⟩
      have f2 := Lib.hid fin
      have hbel : ∀ nq, Below w.heap.size w (wr.drewN nq) := fun nq => by obtain ⟨z, hz⟩ := fin nq; rw [hz]; exact bel_drewN (Below.refl _ _) z
      have b2 := Lib.hid hbel
      obtain ⟨xl, xb, xs⟩ := x
      obtain ⟨yl, yb, ys⟩ := y
      dsimp only at x0 x1 y0 y1 hd hcall
      clear hlen hx hy hq0 xw yw fin hbel hp
      by_cases h1 : xl = yl
      rotate_left
      · have hb1 : (xl == yl) = false := by rw [beq_eq_false_iff_ne]; exact h1
        have hb2 : (xl != yl) = true := by rw [bne_iff_ne]; exact h1
        rw [hb1] at hd
        clear h1 hcall
        go_wp2_with fail
        go_quiet (fail)
        go_wp2_with fail
        go_ret
        exact ⟨by rw [hd.out]; rfl, b2.out _⟩
      subst h1
      by_cases h2 : xb = yb
      rotate_left
      · have hb1 : (xb == yb) = false := by rw [beq_eq_false_iff_ne]; exact h2
        have hb2 : (xb != yb) = true := by rw [bne_iff_ne]; exact h2
        rw [hb1, Bool.and_false] at hd
        clear h2 hcall
        go_wp2_with fail
        go_quiet (fail)
        go_wp2_with fail
        go_ret
        exact ⟨by rw [hd.out]; rfl, b2.out _⟩
      subst h2
      rw [beq_self_eq_true, beq_self_eq_true, Bool.true_and, Bool.true_and] at hd
      obtain ⟨sw, hsw⟩ : ∃ sw, (xs == ys) = sw := ⟨_, rfl⟩
      rw [hsw] at hd
      simp only [hsw] at hcall
      clear hsw
      cases sw with
      | false =>
        go_wp2_with fail
        go_quiet ((go_at_call 11; exact (hcall _).out))
        go_wp2_with fail
        go_ret
        exact ⟨by rw [hd.out]; rfl, b2.out _⟩
      | true =>
        rw [Bool.true_and] at hd
        go_wp2_with fail
        go_quiet ((go_at_call 11; exact (hcall _).out))
        go_wp2_with fail
        refine ⟨⟨k + 1, by omega, by push_cast; rfl, hd, Lib.hid (f2.out _)⟩, by simp only [intOf]; omega⟩
    · have hk' : k = n := by omega
      subst hk'
      have hres : Hid (sameE A B = true) := Lib.hid (by rw [hp.out, List.drop_eq_nil_of_le (by omega), List.drop_eq_nil_of_le (by omega)]; rfl)
      have hbw : Hid (Below w.heap.size w wr) := Lib.hid (by rw [hq0]; exact bel_drewN (Below.refl _ _) q)
      clear hlen hq0 hlt
      go_wp2_with fail
      go_ret
      exact ⟨by rw [hres.out]; rfl, hbw.out⟩
/-- entries of the call's own -/
structure OwnEn (w : World) (b : Nat) (oa : Option Addr) (on oc : Nat) (L : List Ent) : Prop where
  ex : ∃ eds m, Own enE w b (.slice oa on oc) eds ∧ eds.length = on ∧ Ents w b m eds L ∧ b ≤ m ∧ m ≤ w.heap.size
theorem OwnEn.rd {w : World} {b : Nat} {oa : Option Addr} {on oc : Nat} {L : List Ent} (h : OwnEn w b oa on oc L) : RdEn w oa on oc L := by
  obtain ⟨eds, m, h1, h2, h3, _⟩ := h.ex
  exact ents_rd h1 h3
theorem OwnEn.ext {w w' : World} {b : Nat} {oa : Option Addr} {on oc : Nat} {L : List Ent} (h : OwnEn w b oa on oc L) (hb : Below w.heap.size w w') : OwnEn w' b oa on oc L := by
  obtain ⟨eds, m, h1, h2, h3, h4, h5⟩ := h.ex
  exact ⟨eds, m, h1.ext hb, h2, h3.keep fun k _ _ hC => hb.block k hC.lt, h4, Nat.le_trans h5 hb.size⟩
end Go.Proofs.YtojdjhicjhhblaaDoor
