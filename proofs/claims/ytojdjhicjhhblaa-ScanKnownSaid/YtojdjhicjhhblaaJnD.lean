/- Lists of entries beside one another: words 24, Same 9; Copy 6. -/
import Derived.Test.YtojdjhicjhhblaaJnB
namespace Go.Proofs.Ytojdjhicjhhblaa
open Go Go.RowKit
def sameE : List Ent → List Ent → Bool
  | [], [] => true
  | a :: r, b :: s => a.line == b.line && a.blank == b.blank && a.words == b.words && sameE r s
  | _, _ => false
theorem sameE_len {A B : List Ent} (h : A.length ≠ B.length) : sameE A B = false := by
  induction A generalizing B with
  | nil => cases B with | nil => exact absurd rfl h | cons => rfl
  | cons a r ih =>
    cases B with
    | nil => rfl
    | cons b s => simp only [sameE]; rw [ih (by simpa using h), Bool.and_false]
theorem sameE_iff (A B : List Ent) : sameE A B = true ↔ A = B := by
  induction A generalizing B with
  | nil => cases B with | nil => simp [sameE] | cons => simp [sameE]
  | cons a r ih =>
    cases B with
    | nil => simp [sameE]
    | cons b s =>
      simp only [sameE, Bool.and_eq_true, beq_iff_eq, ih, List.cons.injEq]
      constructor
      · rintro ⟨⟨⟨h1, h2⟩, h3⟩, h4⟩
        refine ⟨?_, h4⟩
        cases a; cases b
        simp_all
      · rintro ⟨rfl, h⟩
        exact ⟨⟨⟨rfl, rfl⟩, rfl⟩, h⟩
theorem sameE_refl (A : List Ent) : sameE A A = true := (sameE_iff A A).2 rfl
theorem RdEn.drewN {w : World} {a : Option Addr} {n c : Nat} {L : List Ent} (h : RdEn w a n c L) (q : Nat) : RdEn (w.drewN q) a n c L := h.ext ⟨rfl, rfl, rfl, Nat.le_refl _, fun _ _ => rfl⟩
theorem drewN_drewN (w : World) (a b : Nat) : (w.drewN a).drewN b = w.drewN (a + b) := World.drewN_drewN ..
set_option maxHeartbeats 8000000 in
set_option maxRecDepth 100000 in
theorem words_any {w : World} {a a' : Option Addr} {n c n' c' : Nat} {l l' : List Trm} (h : Rd trE w a n c l) (h' : Rd trE w a' n' c' l') :
    Calls Try.prog 24 #[.slice a n c, .slice a' n' c'] w fun e w' => e = .returned (.bool (l == l')) ∧ ∃ q, w' = w.drewN q := by
  have hl := h.len
  have hl' := h'.len
  have hm := h.most
  have hc := h.cap
  have hm' := h'.most
  have hc' := h'.cap
  have hH := Lib.hid h
  have hH' := Lib.hid h'
  have hL := Lib.hid (And.intro hl hl')
  clear h h' hl hl'
  simp only [maxLen] at hm hm'
  by_cases e : n = n'
  · subst e
    go_enter Try.func24, Try.ntmps24
    go_wp2_with fail
    go_loopw [5] (fun i wr => ∃ k : Nat, k ≤ n ∧ i = .int .i64 k ∧ Hid (l.take k = l'.take k) ∧ Hid (∃ q, wr = w.drewN q)) (fun i _ => n - (intOf i).toNat)
    case atStart => exact ⟨0, Nat.zero_le _, rfl, Lib.hid rfl, Lib.hid ⟨0, rfl⟩⟩
    case round =>
      obtain ⟨k, hk, rfl, hp, hq⟩ := hrel
      obtain ⟨q, hq0⟩ := hq.out
      have hlen := hL.out
      by_cases hlt : k < n
      · have hltI : (k : Int) < n := by omega
        obtain ⟨x, hx⟩ : ∃ x, l[k]? = some x := ⟨_, List.getElem?_eq_getElem (by omega)⟩
        obtain ⟨y, hy⟩ : ∃ y, l'[k]? = some y := ⟨_, List.getElem?_eq_getElem (by omega)⟩
        obtain ⟨b, o, rfl, -, x0, x1⟩ := rd_tr (hH.out.drewN q) hlt x hx
        obtain ⟨b', o', rfl, -, y0, y1⟩ := rd_tr (hH'.out.drewN q) hlt y hy
        rw [← hq0] at x0 x1 y0 y1
        have e1 := Lib.hid (at_take hx)
        have e2 := Lib.hid (at_take hy)
        obtain ⟨xt, xq⟩ := x
        obtain ⟨yt, yq⟩ := y
        dsimp only at x0 x1 y0 y1
        have hxy := Lib.hid (And.intro hx hy)
        have hq1 := Lib.hid hq0
        clear hlen hx hy hq0
        have fin : ∀ nq, ∃ q, wr.drewN nq = w.drewN q := fun nq => ⟨q + nq, by rw [hq1.out, drewN_drewN]⟩
        have hne : (xt, xq) ≠ (yt, yq) → Hid ((l == l') = false) := fun h => Lib.hid (by
          rw [beq_eq_false_iff_ne]
          intro e
          subst e
          have h2 := hxy.out.1.symm.trans hxy.out.2
          exact h (Option.some.inj h2))
        have f2 := Lib.hid fin
        have n2 := Lib.hid hne
        clear fin hne
        by_cases h1 : xt = yt
        · by_cases h2 : xq = yq
          · subst h1 h2
            go_wp2_with fail
            go_quiet (fail)
            go_wp2_with fail
            refine ⟨⟨k + 1, by omega, by push_cast; rfl, Lib.hid (by rw [e1.out, e2.out, hp.out]), Lib.hid (f2.out _)⟩, by simp only [intOf]; omega⟩
          · have hb : (xq == yq) = false := by rw [beq_eq_false_iff_ne]; exact h2
            have hres := n2.out (fun e => h2 (congrArg Prod.snd e))
            subst h1
            clear h2 n2
            go_wp2_with fail
            go_quiet (fail)
            go_wp2_with fail
            go_ret
            exact ⟨by rw [hres.out]; rfl, f2.out _⟩
        · have hb : (xt == yt) = false := by rw [beq_eq_false_iff_ne]; exact h1
          have hres := n2.out (fun e => h1 (congrArg Prod.fst e))
          clear h1 n2
          go_wp2_with fail
          go_quiet (fail)
          go_wp2_with fail
          go_ret
          exact ⟨by rw [hres.out]; rfl, f2.out _⟩
      · have hk' : k = n := by omega
        subst hk'
        have hres : Hid ((l == l') = true) := Lib.hid (by
          have := hp.out
          rw [List.take_of_length_le (by omega), List.take_of_length_le (by omega)] at this
          rw [this]; exact beq_self_eq_true _)
        clear hlen hq0 hlt
        go_wp2_with fail
        go_ret
        exact ⟨by rw [hres.out]; rfl, hq.out⟩
  · have e2 : ¬ ((n : Int) = (n' : Int)) := by omega
    have hres : Hid ((l == l') = false) := Lib.hid (by
      have := hL.out
      rw [beq_eq_false_iff_ne]; intro e; subst e; omega)
    go_enter Try.func24, Try.ntmps24
    go_wp2_with fail
    go_ret
    exact ⟨by rw [hres.out]; rfl, 0, rfl⟩
set_option maxHeartbeats 8000000 in
set_option maxRecDepth 100000 in
theorem same_any {w : World} {a a' : Option Addr} {n c n' c' : Nat} {A B : List Ent} (h : RdEn w a n c A) (h' : RdEn w a' n' c' B) :
    Calls Try.prog 9 #[.slice a n c, .slice a' n' c'] w fun e w' => e = .returned (.bool (sameE A B)) ∧ Below w.heap.size w w' := by
  have hl := h.len
  have hl' := h'.len
  obtain ⟨hc, hm⟩ := h.cap
  obtain ⟨hc', hm'⟩ := h'.cap
  have hH := Lib.hid h
  have hH' := Lib.hid h'
  have hL := Lib.hid (And.intro hl hl')
  clear h h' hl hl'
  simp only [maxLen] at hm hm'
  by_cases e : n = n'
  rotate_left
  · have e2 : ¬ ((n : Int) = (n' : Int)) := by omega
    have hres : Hid (sameE A B = false) := Lib.hid (sameE_len (by have := hL.out; omega))
    go_enter Try.func9, Try.ntmps9
    go_wp2_with fail
    go_ret
    exact ⟨by rw [hres.out]; rfl, Below.refl _ _⟩
  subst e
  go_enter Try.func9, Try.ntmps9
  go_wp2_with fail
  go_loopw [5] (fun i wr => ∃ k : Nat, k ≤ n ∧ i = .int .i64 k ∧ Hid (sameE A B = sameE (A.drop k) (B.drop k)) ∧ Hid (∃ q, wr = w.drewN q)) (fun i _ => n - (intOf i).toNat)
  case atStart => exact ⟨0, Nat.zero_le _, rfl, Lib.hid rfl, Lib.hid ⟨0, rfl⟩⟩
  case round =>
    obtain ⟨k, hk, rfl, hp, hq⟩ := hrel
    obtain ⟨q, hq0⟩ := hq.out
    have hlen := hL.out
    by_cases hlt : k < n
    · have hltI : (k : Int) < n := by omega
      obtain ⟨x, hx⟩ : ∃ x, A[k]? = some x := ⟨_, List.getElem?_eq_getElem (by omega)⟩
      obtain ⟨y, hy⟩ : ∃ y, B[k]? = some y := ⟨_, List.getElem?_eq_getElem (by omega)⟩
      obtain ⟨b, o, xa, xn, xc, rfl, -, x0, x1, x2, xw⟩ := (hH.out.drewN q).at_ hlt x hx
      obtain ⟨b', o', ya, yn, yc, rfl, -, y0, y1, y2, yw⟩ := (hH'.out.drewN q).at_ hlt y hy
      have hd : Hid (sameE A B = (x.line == y.line && x.blank == y.blank && x.words == y.words && sameE (A.drop (k + 1)) (B.drop (k + 1)))) := Lib.hid (by rw [hp.out, at_drop hx, at_drop hy]; rfl)
      rw [← hq0] at x0 x1 x2 y0 y1 y2 xw yw
      have hcall : ∀ m, Hid (Calls Try.prog 24 #[.slice xa xn xc, .slice ya yn yc] (wr.drewN m) fun e w'' => e = .returned (.bool (x.words == y.words)) ∧ ∃ m', w'' = wr.drewN m') := fun m => Lib.hid (Calls.quiet_of (words_any (xw.drewN m) (yw.drewN m)))
      have fin : ∀ nq, ∃ q, wr.drewN nq = w.drewN q := fun nq => ⟨q + nq, by rw [hq0, drewN_drewN]⟩
      have f2 := Lib.hid fin
      have hbel : ∀ nq, Below w.heap.size w (wr.drewN nq) := fun nq => by obtain ⟨z, hz⟩ := fin nq; rw [hz]; exact bel_drewN (Below.refl _ _) z
      have b2 := Lib.hid hbel
      obtain ⟨xl, xb, xs⟩ := x
      obtain ⟨yl, yb, ys⟩ := y
      dsimp only at x0 x1 y0 y1 hd hcall
      clear hlen hx hy hq0 xw yw fin hbel hp
      by_cases h1 : xl = yl
      rotate_left
      · have hb1 : (xl == yl) = false := by rw [beq_eq_false_iff_ne]; exact h1
        have hb2 : (xl != yl) = true := by rw [bne_iff_ne]; exact h1
        rw [hb1] at hd
        clear h1 hcall
        go_wp2_with fail
        go_quiet (fail)
        go_wp2_with fail
        go_ret
        exact ⟨by rw [hd.out]; rfl, b2.out _⟩
      subst h1
      by_cases h2 : xb = yb
      rotate_left
      · have hb1 : (xb == yb) = false := by rw [beq_eq_false_iff_ne]; exact h2
        have hb2 : (xb != yb) = true := by rw [bne_iff_ne]; exact h2
        rw [hb1, Bool.and_false] at hd
        clear h2 hcall
        go_wp2_with fail
        go_quiet (fail)
        go_wp2_with fail
        go_ret
        exact ⟨by rw [hd.out]; rfl, b2.out _⟩
      subst h2
      rw [beq_self_eq_true, beq_self_eq_true, Bool.true_and, Bool.true_and] at hd
      obtain ⟨sw, hsw⟩ : ∃ sw, (xs == ys) = sw := ⟨_, rfl⟩
      rw [hsw] at hd
      simp only [hsw] at hcall
      clear hsw
      cases sw with
      | false =>
        go_wp2_with fail
        go_quiet ((go_at_call 24; exact (hcall _).out))
        go_wp2_with fail
        go_ret
        exact ⟨by rw [hd.out]; rfl, b2.out _⟩
      | true =>
        rw [Bool.true_and] at hd
        go_wp2_with fail
        go_quiet ((go_at_call 24; exact (hcall _).out))
        go_wp2_with fail
        refine ⟨⟨k + 1, by omega, by push_cast; rfl, hd, Lib.hid (f2.out _)⟩, by simp only [intOf]; omega⟩
    · have hk' : k = n := by omega
      subst hk'
      have hres : Hid (sameE A B = true) := Lib.hid (by rw [hp.out, List.drop_eq_nil_of_le (by omega), List.drop_eq_nil_of_le (by omega)]; rfl)
      have hbw : Hid (Below w.heap.size w wr) := Lib.hid (by rw [hq0]; exact bel_drewN (Below.refl _ _) q)
      clear hlen hq0 hlt
      go_wp2_with fail
      go_ret
      exact ⟨by rw [hres.out]; rfl, hbw.out⟩
/-- entries of the call's own -/
structure OwnEn (w : World) (b : Nat) (oa : Option Addr) (on oc : Nat) (L : List Ent) : Prop where
  ex : ∃ eds m, Own enE w b (.slice oa on oc) eds ∧ eds.length = on ∧ Ents w b m eds L ∧ b ≤ m ∧ m ≤ w.heap.size
theorem OwnEn.rd {w : World} {b : Nat} {oa : Option Addr} {on oc : Nat} {L : List Ent} (h : OwnEn w b oa on oc L) : RdEn w oa on oc L := by
  obtain ⟨eds, m, h1, h2, h3, _⟩ := h.ex
  exact ents_rd h1 h3
theorem OwnEn.ext {w w' : World} {b : Nat} {oa : Option Addr} {on oc : Nat} {L : List Ent} (h : OwnEn w b oa on oc L) (hb : Below w.heap.size w w') : OwnEn w' b oa on oc L := by
  obtain ⟨eds, m, h1, h2, h3, h4, h5⟩ := h.ex
  exact ⟨eds, m, h1.ext hb, h2, h3.keep fun k _ _ hC => hb.block k hC.lt, h4, Nat.le_trans h5 hb.size⟩
set_option maxHeartbeats 8000000 in
set_option maxRecDepth 100000 in
theorem copy_any {w : World} {a : Option Addr} {n c : Nat} {L : List Ent} (h : RdEn w a n c L) (hn : n ≤ 3000) (hws : ∀ e ∈ L, e.words.length ≤ 3000) :
    Calls Try.prog 6 #[.slice a n c] w fun e w' => Below w.heap.size w w' ∧ ∃ oa on oc, e = .returned (.slice oa on oc) ∧ OwnEn w' w.heap.size oa on oc L := by
  have hl := h.len
  have hnI : (n : Int) ≤ 3000 := by omega
  have hH := Lib.hid h
  have hL1 := Lib.hid hl
  have hW1 := Lib.hid hws
  clear h hl hws
  obtain ⟨i25, h25, z25, s25, y25⟩ := info_parts Try.info25
  obtain ⟨i27, h27, z27, s27, y27⟩ := info_parts Try.info27
  go_enter Try.func6, Try.ntmps6
  go_wp2_with fail
  go_loopw [3, 4] (fun ov iv wr => ∃ (i : Nat) (oa : Option Addr) (oc : Nat), ov = .slice oa i oc ∧ iv = .int .i64 i ∧ i ≤ n ∧ Hid (OwnEn wr w.heap.size oa i oc (L.take i)) ∧ Hid (Below w.heap.size w wr)) (fun _ iv _ => n - (intOf iv).toNat)
  case atStart => exact ⟨0, none, 0, rfl, rfl, Nat.zero_le _, Lib.hid ⟨[], w.heap.size, Own.nil _ _ _, rfl, Ents.nil _ _ _, Nat.le_refl _, Nat.le_refl _⟩, Lib.hid (Below.refl _ _)⟩
  case round =>
    obtain ⟨i, oa, oc, rfl, rfl, hin, hO, hb⟩ := hrel
    by_cases hlt : i < n
    · have hltI : (i : Int) < n := by omega
      obtain ⟨en, hen, hmem⟩ := at_ex (L := L) (k := i) (by have := hL1.out; omega)
      have hT := Lib.hid (at_take hen)
      have hwl3 : en.words.length ≤ 3000 := hW1.out en hmem
      obtain ⟨ab, ao, wa, wn, wc, rfl, -, a0, a1, a2, hwd⟩ := (hH.out.ext hb.out).at_ hlt en hen
      have hwl := hwd.len
      obtain rfl : wn = en.words.length := hwl.symm
      obtain ⟨We, hWe⟩ : ∃ W, wr.alloc (.cells #[.int .i64 en.line, .bool en.blank, .slice wa en.words.length wc] 25) = W := ⟨_, rfl⟩
      have kE : Below wr.heap.size wr We := by rw [← hWe]; exact alloc_bel _ _
      have bE : Hid (Blk We wr.heap.size 25 (0, 0) [.int .i64 en.line, .bool en.blank, .slice wa en.words.length wc]) := Lib.hid (by rw [← hWe]; exact Blk.new wr 25 (0, 0) #[.int .i64 en.line, .bool en.blank, .slice wa en.words.length wc])
      have a2' : We.cell? ⟨ab, ao + i * 3 + 2, none⟩ = some (.slice wa en.words.length wc) := cell_old a2 kE
      have hwE := hwd.ext kE
      obtain ⟨eds, m, ho, hol, hen2, hmlo, hmhi⟩ := hO.out.ex
      have OE := Lib.hid (ho.ext kE)
      have EE := Lib.hid (hen2.keep fun k _ _ hC => kE.block k hC.lt)
      have hol1 := Lib.hid hol
      have hm1 := Lib.hid (And.intro hmlo hmhi)
      have kb := Lib.hid (hb.out.trans (kE.mono hb.out.size))
      have hge : Hid (w.heap.size ≤ wr.heap.size) := Lib.hid hb.out.size
      have hlt2 : Hid (wr.heap.size < We.heap.size) := Lib.hid bE.out.lt
      have hOb : Hid (∀ k, (Value.slice oa i oc).ownBlock = some k → k < wr.heap.size) := Lib.hid (fun k hk => (ho.lt k hk).2)
      clear hen hmem hwl hwd kE hO hb ho hol hen2 hmlo hmhi
      obtain ⟨ge, hgE⟩ : ∃ ge, wr.heap.size = ge := ⟨_, rfl⟩
      obtain ⟨WL, hWL⟩ : ∃ W, We.alloc (.cells #[] 27) = W := ⟨_, rfl⟩
      have kL : Below We.heap.size We WL := by rw [← hWL]; exact alloc_bel _ _
      have oL : Hid (Own trE WL We.heap.size (.slice (some ⟨We.heap.size, 0, none⟩) 0 0) []) := Lib.hid (by rw [← hWL]; exact Own.made trE We #[] [] 0 rfl rfl (Nat.zero_le _))
      have sL : Hid (Src Try.prog 2 23 (.slice wa en.words.length wc) en.words.length (rowOf trE en.words) WL) := Lib.hid ((hwE.ext kL).src (P := Try.prog) (tx := 23) Try.underlying23)
      have bL := Lib.hid (bE.out.below kL bE.out.lt)
      have a2L : WL.cell? ⟨ab, ao + i * 3 + 2, none⟩ = some (.slice wa en.words.length wc) := cell_old a2' kL
      have OL := Lib.hid (OE.out.ext kL)
      have EL := Lib.hid (EE.out.keep fun k _ _ hC => kL.block k hC.lt)
      have kbL := Lib.hid (kb.out.trans (kL.mono kb.out.size))
      have hs2 : Hid (We.heap.size ≤ WL.heap.size) := Lib.hid kL.size
      clear kL hwE OE EE bE kb a2'
      replace hgE := Lib.hid hgE
      go_upto_region 6 with (fail)
      clear hWe a0 a1 a2
      rw [hgE.out] at bL hge hlt2 hOb hm1 ⊢
      go_wp2_with (refine app_own rfl (.tmp 16) (.tmp 21) 23 23 rfl Try.underlying23 h27 z27 s27 y27 rfl rfl oL.out rfl sL.out (by simp only [List.length_nil, maxLen]; omega) (by simp only [List.length_nil]; omega) hs2.out ?_)
      intro v1 V1 ho1 hg1 hx1
      obtain ⟨wa1, wc1, rfl⟩ := ho1.shape
      have bV := Lib.hid (blk_own bL.out oL.out (by decide) hg1)
      have OV := Lib.hid (own_grown OL.out oL.out (by decide) hg1)
      have EV := Lib.hid (EL.out.keep fun k C hk hC => hg1.block k hC.lt (fun e => by have h1 := (oL.out.lt k e.symm).1; have h2 := hm1.out.2; have h3 := hlt2.out; omega))
      have kV := Lib.hid (own_below kbL.out hg1 oL.out (Nat.le_trans hge.out (Nat.le_trans (Nat.le_of_lt hlt2.out) hs2.out)) (Nat.le_trans hge.out (Nat.le_of_lt hlt2.out)))
      have oV := Lib.hid ho1
      have sV : Hid (We.heap.size ≤ V1.heap.size) := Lib.hid (Nat.le_trans hs2.out hg1.size)
      have d2 : V1.cell? ⟨ge, 2, none⟩ = some (.slice wa en.words.length wc) := (bV.out.cell 2).trans rfl
      have z2 : V1.frozen? ⟨ge, 2, none⟩ = false := by rw [bV.out.frozen]; rfl
      clear hWL hx1 ho1 hg1 oL sL bL OL EL kbL hs2 a2L
      go_upto_region 7 with (fail)
      obtain ⟨V2, hV2⟩ : ∃ V, V1.setCell ⟨ge, 2, none⟩ (.slice wa1 en.words.length wc1) = V := ⟨_, rfl⟩
      rw [hV2]
      have g2 : V1.grownBy V2 (some ge) := by rw [← hV2]; exact grown_set _ _ _ _
      have b2 : Hid (Blk V2 ge 25 (0, 0) [.int .i64 en.line, .bool en.blank, .slice wa1 en.words.length wc1]) := Lib.hid (by rw [← hV2]; exact bV.out.set 2 _)
      have O2 := Lib.hid (OV.out.keep fun k hk => g2.block k (OV.out.lt k hk).2 (fun e => by have h1 := hOb.out k hk; have h2 := Option.some.inj e; omega))
      have W2 := Lib.hid (own_store oV.out bV.out (by decide) g2)
      have E2 := Lib.hid (EV.out.keep fun k C hk hC => g2.block k hC.lt (fun e => by have h2 := Option.some.inj e; subst h2; exact absurd (blk_type hC bV.out) (by decide)))
      have k2 := Lib.hid (kV.out.grown g2 (Nat.le_trans hge.out (Nat.le_trans (Nat.le_of_lt hlt2.out) sV.out)) (fun k hk => by cases hk; exact hge.out))
      have s2 : Hid (We.heap.size ≤ V2.heap.size) := Lib.hid (Nat.le_trans sV.out g2.size)
      clear hV2 g2 bV OV EV kV oV sV d2 z2
      have d0 : V2.cell? ⟨ge, 0, none⟩ = some (.int .i64 en.line) := (b2.out.cell 0).trans rfl
      have d1 : V2.cell? ⟨ge, 1, none⟩ = some (.bool en.blank) := (b2.out.cell 1).trans rfl
      have d2 : V2.cell? ⟨ge, 2, none⟩ = some (.slice wa1 en.words.length wc1) := (b2.out.cell 2).trans rfl
      obtain ⟨V3, hV3⟩ : ∃ V, V2.alloc (.cells #[.int .i64 en.line, .bool en.blank, .slice wa1 en.words.length wc1] 25) = V := ⟨_, rfl⟩
      have k3 : Below V2.heap.size V2 V3 := by rw [← hV3]; exact alloc_bel _ _
      have s3 : Hid (Src Try.prog 3 22 (.slice (some ⟨V2.heap.size, 0, none⟩) 1 1) 1 (rowOf enE [(⟨en.line, en.blank, wa1, en.words.length, wc1⟩ : ED)]) V3) := Lib.hid (by rw [← hV3]; exact src_lit (E := enE) (P := Try.prog) (tx := 22) Try.underlying22 #[.int .i64 en.line, .bool en.blank, .slice wa1 en.words.length wc1] [(⟨en.line, en.blank, wa1, en.words.length, wc1⟩ : ED)] 1 rfl rfl)
      have O3 := Lib.hid (O2.out.ext k3)
      have W3 := Lib.hid (W2.out.ext k3)
      have E3 := Lib.hid (E2.out.keep fun k _ _ hC => k3.block k hC.lt)
      have kb3 := Lib.hid (k2.out.trans (k3.mono k2.out.size))
      have z3 : Hid (V2.heap.size ≤ V3.heap.size) := Lib.hid k3.size
      clear k3 O2 W2 E2 b2
      go_wp2_with (refine app_own (E := enE) (l := eds) (news := [(⟨en.line, en.blank, wa1, en.words.length, wc1⟩ : ED)]) rfl (.tmp 24) (.tmp 26) 22 22 rfl Try.underlying22 h25 z25 s25 y25 rfl rfl O3.out rfl s3.out (by rw [hol1.out]; simp only [List.length_singleton, maxLen]; omega) (by rw [hol1.out]; simp only [List.length_singleton]; omega) kb3.out.size ?_)
      intro v4 V4 ho4 hg4 hx4
      obtain ⟨a4, c4, rfl⟩ := ho4.shape
      have hl4 : (eds ++ [(⟨en.line, en.blank, wa1, en.words.length, wc1⟩ : ED)]).length = i + 1 := by rw [List.length_append, hol1.out]; rfl
      rw [hl4] at ho4 ⊢
      have kb4 := Lib.hid (own_below kb3.out hg4 O3.out kb3.out.size (Nat.le_refl _))
      have own4 : Hid (OwnEn V4 w.heap.size a4 (i + 1) c4 (L.take (i + 1))) := Lib.hid ⟨_, V3.heap.size, ho4, hl4, by
        rw [hT.out]
        refine ((E3.out.mono (Nat.le_trans hm1.out.2 (Nat.le_trans (Nat.le_of_lt hlt2.out) (Nat.le_trans s2.out z3.out)))).keep fun k C _ hC => keep_o O3.out hg4 (t := 27) (by decide) hC).app ⟨rfl, rfl, ?_, ?_⟩
        · refine (W3.out.mono (Nat.le_trans hge.out (Nat.le_of_lt hlt2.out))).keep fun k hk => ?_
          obtain ⟨C, hC⟩ := own_blkE W3.out k hk
          exact keep_o O3.out hg4 (t := 27) (by decide) hC
        · exact fun k hk => (W3.out.lt k hk).2, kb3.out.size, hg4.size⟩
      clear hV3 ho4 hg4 hx4 hl4 s3 O3 W3 E3 kb3 d0 d1 d2
      go_wp2_with fail
      exact ⟨⟨i + 1, a4, c4, by rfl, by push_cast; rfl, by omega, own4, kb4⟩, by simp only [intOf]; omega⟩
    · obtain rfl : i = n := by omega
      have hO2 : Hid (OwnEn wr w.heap.size oa i oc L) := Lib.hid (by have h := hO.out; rw [List.take_of_length_le (by have := hL1.out; omega)] at h; exact h)
      clear hlt hO
      go_wp2_with fail
      go_ret
      exact ⟨hb.out, oa, i, oc, rfl, hO2.out⟩
end Go.Proofs.Ytojdjhicjhhblaa
