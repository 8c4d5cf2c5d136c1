/- Entries as they read; shown 17, literal 23, alone 31. -/
import Derived.Test.YtojdjhicjhhblaaRsG
import Derived.Test.YtojdjhicjhhblaaScV
namespace Go.Proofs.Ytojdjhicjhhblaa
open Go Go.RowKit
/-- the slice (a, n, c) reads as these entries -/
def RdEn (w : World) (a : Option Addr) (n c : Nat) (L : List Ent) : Prop :=
  ∃ eds : List ED, Rd enE w a n c eds ∧ eds.length = L.length ∧ ∀ (j : Nat) (d : ED) (e : Ent), eds[j]? = some d → L[j]? = some e → d.line = e.line ∧ d.blank = e.blank ∧ Rd trE w d.wa d.wn d.wc e.words
theorem RdEn.ext {w w' : World} {a : Option Addr} {n c : Nat} {L : List Ent} (h : RdEn w a n c L) (hb : Below w.heap.size w w') : RdEn w' a n c L := by
  obtain ⟨eds, h1, h2, h3⟩ := h
  exact ⟨eds, h1.ext hb, h2, fun j d e hd he => ⟨(h3 j d e hd he).1, (h3 j d e hd he).2.1, (h3 j d e hd he).2.2.ext hb⟩⟩
theorem RdEn.len {w : World} {a : Option Addr} {n c : Nat} {L : List Ent} (h : RdEn w a n c L) : L.length = n := by
  obtain ⟨eds, h1, h2, h3⟩ := h
  have := h1.len
  omega
theorem RdEn.cap {w : World} {a : Option Addr} {n c : Nat} {L : List Ent} (h : RdEn w a n c L) : n ≤ c ∧ c ≤ maxLen := by
  obtain ⟨eds, h1, h2, h3⟩ := h
  exact ⟨h1.cap, h1.most⟩
theorem RdEn.at_ {w : World} {a : Option Addr} {n c : Nat} {L : List Ent} (h : RdEn w a n c L) {k : Nat} (hk : k < n) (e : Ent) (he : L[k]? = some e) :
    ∃ (b o : Nat) (wa : Option Addr) (wn wc : Nat), a = some ⟨b, o, none⟩ ∧ b < w.heap.size ∧ w.cell? ⟨b, o + k * 3, none⟩ = some (.int .i64 e.line) ∧ w.cell? ⟨b, o + k * 3 + 1, none⟩ = some (.bool e.blank) ∧ w.cell? ⟨b, o + k * 3 + 2, none⟩ = some (.slice wa wn wc) ∧ Rd trE w wa wn wc e.words := by
  obtain ⟨eds, h1, h2, h3⟩ := h
  have hl := h1.len
  obtain ⟨b, o, e1, hlt, hc⟩ := h1.addr (by omega)
  have hkl : k < eds.length := by omega
  obtain ⟨e2, e3, e4⟩ := h3 k eds[k] e (List.getElem?_eq_getElem hkl) he
  exact ⟨b, o, eds[k].wa, eds[k].wn, eds[k].wc, e1, hlt, by rw [← e2]; exact hc k hkl 0 (by decide), by rw [← e3]; exact hc k hkl 1 (by decide), hc k hkl 2 (by decide), e4⟩
/-- a word -/
theorem rd_tr {w : World} {a : Option Addr} {n c : Nat} {l : List Trm} (h : Rd trE w a n c l) {k : Nat} (hk : k < n) (x : Trm) (hx : l[k]? = some x) :
    ∃ b o : Nat, a = some ⟨b, o, none⟩ ∧ b < w.heap.size ∧ w.cell? ⟨b, o + k * 2, none⟩ = some (.string (mk x.1)) ∧ w.cell? ⟨b, o + k * 2 + 1, none⟩ = some (.bool x.2) := by
  have hl := h.len
  obtain ⟨b, o, e1, hlt, hc⟩ := h.addr (by omega)
  have hkl : k < l.length := by omega
  rw [List.getElem?_eq_getElem hkl] at hx
  have hx2 := Option.some.inj hx
  exact ⟨b, o, e1, hlt, by rw [← hx2]; exact hc k hkl 0 (by decide), by rw [← hx2]; exact hc k hkl 1 (by decide)⟩
/-- what Entries told, as it reads -/
theorem ents_rd {w : World} {b m : Nat} {oa : Option Addr} {on oc : Nat} {eds : List ED} {L : List Ent} (ho : Own enE w b (.slice oa on oc) eds) (he : Ents w b m eds L) : RdEn w oa on oc L := by
  refine ⟨eds, (own_rd_at ho).1, he.1, fun j d e hd hl => ?_⟩
  obtain ⟨h1, h2, h3, _⟩ := he.2 j d e hd hl
  exact ⟨h1, h2, (own_rd_at h3).1⟩
set_option maxHeartbeats 8000000 in
set_option maxRecDepth 100000 in
theorem shown_any (w : World) (t : List UInt8) (qd : Bool) (ht : t.length ≤ 70000) : Calls Try.prog 17 #[.agg #[.string (mk t), .bool qd]] w fun e w' => e = .returned (.string (mk (shownL (t, qd)))) ∧ Below w.heap.size w w' := by
  have htI : (t.length : Int) ≤ 70000 := by omega
  cases qd with
  | true =>
    have hE : Hid (mk (shownL (t, true)) = mk ([34] ++ t ++ [34])) := Lib.hid (by show mk (34 :: (t ++ [34])) = _; simp)
    go_enter Try.func17, Try.ntmps17
    go_wp2_with fail
    go_ret
    exact ⟨by rw [hE.out]; rfl, alloc_bel _ _⟩
  | false =>
    have hE : Hid (mk (shownL (t, false)) = mk t) := Lib.hid rfl
    go_enter Try.func17, Try.ntmps17
    go_wp2_with fail
    go_ret
    exact ⟨by rw [hE.out]; rfl, alloc_bel _ _⟩
set_option maxHeartbeats 8000000 in
set_option maxRecDepth 100000 in
theorem literal_any (w : World) (t : List UInt8) (qd : Bool) (ht : t.length ≤ 70000) : Calls Try.prog 23 #[.agg #[.string (mk t), .bool qd]] w fun e w' => e = .returned (.string (mk (shownL (t, qd)))) ∧ Below w.heap.size w w' := by
  have htI : (t.length : Int) ≤ 70000 := by omega
  cases qd with
  | true =>
    have hE : Hid (mk (shownL (t, true)) = mk ([34] ++ t ++ [34])) := Lib.hid (by show mk (34 :: (t ++ [34])) = _; simp)
    go_enter Try.func23, Try.ntmps23
    go_wp2_with fail
    go_ret
    exact ⟨by rw [hE.out]; rfl, alloc_bel _ _⟩
  | false =>
    have hE : Hid (mk (shownL (t, false)) = mk t) := Lib.hid rfl
    go_enter Try.func23, Try.ntmps23
    go_wp2_with fail
    go_ret
    exact ⟨by rw [hE.out]; rfl, alloc_bel _ _⟩
set_option maxHeartbeats 8000000 in
set_option maxRecDepth 100000 in
theorem alone_any (w : World) (t : List UInt8) (qd : Bool) (ht : t.length ≤ 65000) : Calls Try.prog 31 #[.agg #[.string (mk t), .bool qd]] w fun e w' => e = .returned (.bool (okw (t, qd))) ∧ Below w.heap.size w w' := by
  have hsl : (shownL (t, qd)).length ≤ 65002 := by cases qd <;> simp [shownL] <;> omega
  have hlit := fun W => Lib.hid (literal_any W t qd (by omega))
  have hent := fun W => Lib.hid (rentries_any W (shownL (t, qd)) (by omega))
  obtain ⟨R, hR⟩ : ∃ R, pEnt (shownL (t, qd)) = R := ⟨_, rfl⟩
  have hgood : Hid (okw (t, qd) = true → R = ([⟨1, false, [(t, qd)]⟩], (0, 0))) := Lib.hid (fun h => by rw [← hR]; exact alone_ok h (by omega))
  have hbad : Hid (okw (t, qd) = false → ∀ l b, ¬ R = ([⟨l, b, [(t, qd)]⟩], (0, 0))) := Lib.hid (fun h l b => by rw [← hR]; exact alone_bad h (by omega) l b)
  simp only [hR] at hent
  have htold : Hid (R.2.1 = 0 → R.2 = (0, 0)) := Lib.hid (fun h => by
    have ht2 := pEnt_told (shownL (t, qd)) (by omega)
    rw [hR] at ht2
    rcases ht2 with ⟨h2, _⟩ | ⟨_, h2, _⟩
    · exact h2
    · omega)
  obtain ⟨S, hS⟩ : ∃ S, shownL (t, qd) = S := ⟨_, rfl⟩
  rw [hS] at hsl hlit hent
  obtain ⟨ok, hok⟩ : ∃ ok, okw (t, qd) = ok := ⟨_, rfl⟩
  rw [hok] at hgood hbad ⊢
  clear hR hS hok
  obtain ⟨W1, hW1⟩ : ∃ W, w.alloc (.cells #[.string (mk t), .bool qd] 27) = W := ⟨_, rfl⟩
  have B1 : Hid (Blk W1 w.heap.size 27 (0, 0) [.string (mk t), .bool qd]) := Lib.hid (by rw [← hW1]; exact Blk.new w 27 (0, 0) #[.string (mk t), .bool qd])
  have k1 : Hid (Below w.heap.size w W1) := Lib.hid (by rw [← hW1]; exact alloc_bel _ _)
  have c0 : W1.cell? ⟨w.heap.size, 0, none⟩ = some (.string (mk t)) := (B1.out.cell 0).trans rfl
  have c1 : W1.cell? ⟨w.heap.size, 1, none⟩ = some (.bool qd) := (B1.out.cell 1).trans rfl
  go_enter Try.func31, Try.ntmps31
  go_wp2_with fail
  clear hW1 c0 c1
  refine (hlit W1).out.mono ?_
  rintro e W2 ⟨rfl, k2⟩
  have B2 := Lib.hid (B1.out.below k2 B1.out.lt)
  replace k2 := Lib.hid (k1.out.trans (k2.mono k1.out.size))
  clear hlit B1 k1
  go_wp2_with fail
  refine (hent W2).out.mono ?_
  rintro e W3 ⟨k3, oa, on, oc, eds, m, rfl, ho, hol, hen, hm⟩
  have hrd := ents_rd ho hen
  have B3 := Lib.hid (B2.out.below k3 B2.out.lt)
  replace k3 := Lib.hid (k2.out.trans (k3.mono k2.out.size))
  clear hent B2 k2 ho hol hen hm
  obtain ⟨W4, hW4⟩ : ∃ W, W3.alloc (.cells #[.int .i64 R.2.1, .int .i64 R.2.2] 36) = W := ⟨_, rfl⟩
  have k4 : Below W3.heap.size W3 W4 := by rw [← hW4]; exact alloc_bel _ _
  have B4 : Hid (Blk W4 W3.heap.size 36 (0, 0) [.int .i64 R.2.1, .int .i64 R.2.2]) := Lib.hid (by rw [← hW4]; exact Blk.new W3 36 (0, 0) #[.int .i64 R.2.1, .int .i64 R.2.2])
  have B5 := Lib.hid (B3.out.below k4 B3.out.lt)
  have hrd4 := Lib.hid (hrd.ext k4)
  replace k4 := Lib.hid (k3.out.trans (k4.mono k3.out.size))
  clear hrd k3 B3
  obtain ⟨R1, f1, f2⟩ := R
  go_upto_region 2 with (fail)
  clear hW4
  have d0 : W4.cell? ⟨W3.heap.size, 0, none⟩ = some (.int .i64 f1) := (B4.out.cell 0).trans rfl
  have b0 : W4.cell? ⟨w.heap.size, 0, none⟩ = some (.string (mk t)) := (B5.out.cell 0).trans rfl
  have b1 : W4.cell? ⟨w.heap.size, 1, none⟩ = some (.bool qd) := (B5.out.cell 1).trans rfl
  have hlen := hrd4.out.len
  have fin : ∀ W n, W = W4.drewN n → Below w.heap.size w W := fun W n h => by rw [h]; exact bel_drewN k4.out n
  by_cases hf : f1 = 0
  rotate_left
  · have e0 : (f1 == 0) = false := by rw [beq_eq_false_iff_ne]; exact hf
    have hk : ok = false := by
      cases ok with
      | false => rfl
      | true => exact absurd (congrArg (fun z => z.2.1) (hgood.out rfl)) hf
    subst hk
    clear hf hlen hgood hbad htold B4 B5
    go_quiet (fail)
    go_wp2_with fail
    go_ret
    exact ⟨rfl, fin _ _ rfl⟩
  have hff := htold.out hf
  obtain rfl : f2 = 0 := congrArg Prod.snd hff
  subst hf
  clear hff htold
  by_cases hon : on = 1
  rotate_left
  · have e1 : ((on : Int) == 1) = false := by rw [beq_eq_false_iff_ne]; omega
    have hk : ok = false := by
      cases ok with
      | false => rfl
      | true => have h3 := congrArg (fun z => z.1.length) (hgood.out rfl); simp at h3; omega
    subst hk
    clear hon hlen hgood hbad B4 B5
    go_quiet (fail)
    go_wp2_with fail
    go_ret
    exact ⟨rfl, fin _ _ rfl⟩
  subst hon
  obtain ⟨en, rfl⟩ : ∃ en, R1 = [en] := List.length_eq_one_iff.1 hlen
  obtain ⟨ab, ao, wa, wn, wc, rfl, -, a0, a1, a2, hwd⟩ := hrd4.out.at_ (k := 0) (by omega) en rfl
  simp only [Nat.zero_mul, Nat.add_zero] at a0 a1 a2
  have hwl := hwd.len
  replace hwd := Lib.hid hwd
  clear hrd4 hlen
  obtain ⟨el, eb, ws⟩ := en
  dsimp only at a0 a1 hwd hwl
  by_cases hwn : wn = 1
  rotate_left
  · have e1 : ((wn : Int) == 1) = false := by rw [beq_eq_false_iff_ne]; omega
    have hk : ok = false := by
      cases ok with
      | false => rfl
      | true => have h3 := congrArg (fun z => (z.1.map fun e => e.words.length)) (hgood.out rfl); simp at h3; omega
    subst hk
    clear hwn hwl hgood hbad B4 B5
    go_quiet (fail)
    go_wp2_with fail
    go_ret
    exact ⟨rfl, fin _ _ rfl⟩
  subst hwn
  obtain ⟨x, rfl⟩ : ∃ x, ws = [x] := List.length_eq_one_iff.1 hwl
  obtain ⟨wb, wo, rfl, -, x0, x1⟩ := rd_tr hwd.out (k := 0) (by omega) x rfl
  simp only [Nat.zero_mul, Nat.add_zero] at x0 x1
  obtain ⟨xt, xq⟩ := x
  dsimp only at x0 x1
  clear hwl hwd
  by_cases hx : (xt, xq) = (t, qd)
  · cases hx
    have hk : ok = true := by
      cases ok with
      | true => rfl
      | false => exact absurd rfl (hbad.out rfl el eb)
    subst hk
    clear hgood hbad B4 B5
    go_quiet (fail)
    go_wp2_with fail
    go_ret
    exact ⟨rfl, fin _ _ rfl⟩
  · have hk : ok = false := by
      cases ok with
      | false => rfl
      | true =>
        have h3 := congrArg (fun z => (z.1.map fun e => e.words)) (hgood.out rfl)
        simp only [List.map_cons, List.map_nil] at h3
        exact absurd (by simpa using h3) hx
    subst hk
    clear hgood hbad B4 B5
    have hne : Hid (¬ (xt = t ∧ xq = qd)) := Lib.hid (fun h => hx (by rw [h.1, h.2]))
    clear hx
    by_cases hxt : xt = t
    · have hq : (xq == qd) = false := by rw [beq_eq_false_iff_ne]; exact fun h => hne.out ⟨hxt, h⟩
      subst hxt
      go_quiet (fail)
      go_wp2_with fail
      go_ret
      exact ⟨rfl, fin _ _ rfl⟩
    · have hq : (xt == t) = false := by rw [beq_eq_false_iff_ne]; exact hxt
      clear hxt
      go_quiet (fail)
      go_wp2_with fail
      go_ret
      exact ⟨rfl, fin _ _ rfl⟩
end Go.Proofs.Ytojdjhicjhhblaa
