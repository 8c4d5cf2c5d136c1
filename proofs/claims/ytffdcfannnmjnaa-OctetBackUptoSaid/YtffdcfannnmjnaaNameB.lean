/- Layer 3: Same, Under, Compare, and which names are gone through. Names of at most 2^40 labels. -/
import Derived.Test.YtffdcfannnmjnaaNameA
import Derived.Deep.RegionWith
import Derived.Deep.QuietTactic
import Derived.BigQuiet
import Derived.Deep.RegionHeld3
namespace Go.Proofs.Ytffdcfannnmjnaa
open Go.RowKit
/-- a name that lies in memory, within bounds -/
structure Nmd (w : World) (a : Option Addr) (n c : Nat) (l : Nm) : Prop where
  rd : Rd strE w a n c l
  few : n ≤ 1099511627776
  short : ∀ s ∈ l, s.length ≤ 140737488355328
theorem Nmd.ext {w w' : World} {a : Option Addr} {n c : Nat} {l : Nm} (h : Nmd w a n c l) (hb : Below w.heap.size w w') : Nmd w' a n c l := ⟨h.rd.ext hb, h.few, h.short⟩
theorem beq_cast (a b : Nat) : ((a : Int) == (b : Int)) = decide (a = b) := by
  rw [Bool.eq_iff_iff]; simp; omega
theorem nm_common {w : World} {a a' : Option Addr} {n c n' c' : Nat} {l l' : Nm} (h : Nmd w a n c l) (h' : Nmd w a' n' c' l') :
    Calls Try.prog 39 #[.slice a n c, .slice a' n' c'] w fun e w' => e = .returned (.int .i64 (comL l l')) ∧ Below w.heap.size w w' := common_any h.rd h'.rd h.few h'.few h.short h'.short
set_option maxHeartbeats 1000000 in
theorem nm_under {w : World} {a a' : Option Addr} {n c n' c' : Nat} {l l' : Nm} (h : Nmd w a n c l) (h' : Nmd w a' n' c' l') :
    Calls Try.prog 38 #[.slice a n c, .slice a' n' c'] w fun e w' => e = .returned (.bool (underL l l')) ∧ Below w.heap.size w w' := by
  have hl' := h'.rd.len
  subst hl'
  have hf := h'.few
  have hH := Lib.hid h
  have hH' := Lib.hid h'
  clear h h'
  go_enter Try.func38, Try.ntmps38
  go_wp2_with (go_at_call 39; refine (nm_common hH.out hH'.out).mono ?_; rintro e w1 ⟨rfl, hb⟩)
  go_ret
  exact ⟨by apply ret_bool; rw [beq_cast]; rfl, hb⟩
set_option maxRecDepth 100000 in
set_option maxHeartbeats 1000000 in
theorem nm_same {w : World} {a a' : Option Addr} {n c n' c' : Nat} {l l' : Nm} (h : Nmd w a n c l) (h' : Nmd w a' n' c' l') :
    Calls Try.prog 37 #[.slice a n c, .slice a' n' c'] w fun e w' => e = .returned (.bool (sameL l l')) ∧ Below w.heap.size w w' := by
  have hl := h.rd.len
  have hl' := h'.rd.len
  have hf := h.few
  have hf' := h'.few
  have hH := Lib.hid h
  have hH' := Lib.hid h'
  have hL := Lib.hid (And.intro hl hl')
  clear h h' hl hl'
  by_cases e : n = n'
  · subst e
    go_enter Try.func37, Try.ntmps37
    go_wp2_with (go_at_call 39; refine (nm_common hH.out hH'.out).mono ?_; rintro e w1 ⟨rfl, hb⟩)
    go_ret
    have := hL.out
    exact ⟨by apply ret_bool; rw [beq_cast, sameL, this.1, this.2]; simp, hb⟩
  · have e' : ((n : Int) == (n' : Int)) = false := by rw [beq_cast]; simp [e]
    have e2 : ¬ ((n : Int) = (n' : Int)) := by omega
    go_enter Try.func37, Try.ntmps37
    go_wp2_with fail
    go_ret
    have := hL.out
    exact ⟨by apply ret_bool; rw [sameL, this.1, this.2]; simp [e], Below.refl _ _⟩
def fewL (l : Nm) : Bool := l.all (fun s => decide (s.length ≤ 300)) && decide (l.length ≤ 300)
set_option maxRecDepth 100000 in
set_option maxHeartbeats 1000000 in
theorem few_any {w : World} {a : Option Addr} {n c : Nat} {l : Nm} (h : Rd strE w a n c l) (ht : ∀ s ∈ l, s.length ≤ maxLen) :
    Calls Try.prog 35 #[.slice a n c] w fun e w' => e = .returned (.bool (fewL l)) ∧ w = w' := by
  have hl := h.len
  subst hl
  have hm := h.most
  have hc := h.cap
  have hH := Lib.hid h
  clear h
  simp only [maxLen] at hm ht
  go_enter Try.func35, Try.ntmps35
  go_wp2_with fail
  go_loopw [3] (fun i wr => ∃ k : Nat, k ≤ l.length ∧ i = .int .i64 k ∧ (∀ j (hj : j < l.length), j < k → l[j].length ≤ 300) ∧ w = wr)
    (fun i _ => l.length - (intOf i).toNat)
  case atStart => exact ⟨0, Nat.zero_le _, rfl, fun j _ h => (by omega), rfl⟩
  case round =>
    obtain ⟨k, hk, rfl, hp, rfl⟩ := hrel
    have hp := Lib.hid hp
    by_cases hlt : k < l.length
    · obtain ⟨b, o, rfl, hcs⟩ := rd_str hH.out (by omega)
      have hck := hcs k hlt
      have hs := ht _ (List.getElem_mem hlt)
      clear hcs
      generalize hX : l[k] = X at *
      by_cases h3 : X.length ≤ 300
      · go_wp2_with fail
        go_roundw
        case rel => exact ⟨k + 1, by omega, by go_num, fun j hj h => (by
          by_cases e : j = k
          · subst e; rw [hX]; exact h3
          · exact hp.out j hj (by omega)), trivial⟩
        case measure => simp [intOf]; omega
      · go_wp2_with fail
        go_ret
        refine ⟨?_, rfl⟩
        have : fewL l = false := by
          unfold fewL
          have : l.all (fun s => decide (s.length ≤ 300)) = false := by
            rw [List.all_eq_false]; exact ⟨X, by rw [← hX]; exact List.getElem_mem hlt, by simp; omega⟩
          rw [this]; rfl
        rw [this]; rfl
    · have hk' : k = l.length := by omega
      subst hk'
      go_wp2_with fail
      go_ret
      refine ⟨?_, rfl⟩
      have : l.all (fun s => decide (s.length ≤ 300)) = true := by
        rw [List.all_eq_true]
        intro x hx
        obtain ⟨j, hj, rfl⟩ := List.getElem_of_mem hx
        exact decide_eq_true (hp.out j hj hj)
      have e3 : decide ((l.length : Int) ≤ 300) = decide (l.length ≤ 300) := by rw [Bool.eq_iff_iff]; simp; omega
      exact ret_bool (by rw [e3, fewL, this, Bool.true_and])
theorem rv_at (l : Nm) (k : Nat) (h : k < l.length) : ((rv l)[k]?).getD [] = foldL (l[l.length - 1 - k]'(by omega)) := by rw [rv_get _ _ h]; rfl
set_option maxRecDepth 100000 in
set_option maxHeartbeats 2000000 in
theorem nm_compare {w : World} {a a' : Option Addr} {n c n' c' : Nat} {l l' : Nm} (h : Nmd w a n c l) (h' : Nmd w a' n' c' l') :
    Calls Try.prog 36 #[.slice a n c, .slice a' n' c'] w fun e w' => e = .returned (.int .i64 (cmpL l l')) ∧ Below w.heap.size w w' := by
  have hl := h.rd.len
  have hl' := h'.rd.len
  have hf := h.few
  have hf' := h'.few
  have hH := Lib.hid h
  have hH' := Lib.hid h'
  have hL := Lib.hid (And.intro hl hl')
  have hle := comL_le l l'
  rw [hl, hl'] at hle
  have hE := cmpL_eq l l'
  rw [hl, hl'] at hE
  have hx : Hid (∀ k, k < n → k < n' → ((rv l)[k]?).getD [] = foldL (l.getD (n - 1 - k) []) ∧ ((rv l')[k]?).getD [] = foldL (l'.getD (n' - 1 - k) [])) := Lib.hid fun k h1 h2 => by
    rw [rv_at l k (by omega), rv_at l' k (by omega)]
    simp only [List.getD_eq_getElem?_getD]
    rw [List.getElem?_eq_getElem (by omega), List.getElem?_eq_getElem (by omega)]
    subst hl hl'; exact ⟨rfl, rfl⟩
  clear h h' hl hl'
  generalize hk : comL l l' = k at *
  go_enter Try.func36, Try.ntmps36
  go_wp2_with fail
  refine (nm_common hH.out hH'.out).mono ?_
  rw [hk]
  rintro e w1 ⟨rfl, hb⟩
  have hr1 := Lib.hid (hH.out.ext hb)
  have hr2 := Lib.hid (hH'.out.ext hb)
  obtain ⟨h1, h2⟩ := hle
  by_cases e1 : k = n
  · by_cases e2 : k = n'
    · have q1 : ((k : Int) == (n : Int)) = true := by rw [beq_cast]; simp [e1]
      have q2 : ((k : Int) == (n' : Int)) = true := by rw [beq_cast]; simp [e2]
      have hE' : cmpL l l' = 0 := by rw [hE, if_pos ⟨e1, e2⟩]
      clear hE e1 e2
      go_wp2_with fail
      go_ret
      exact ⟨ret_int hE'.symm, hb⟩
    · have q1 : ((k : Int) == (n : Int)) = true := by rw [beq_cast]; simp [e1]
      have q2 : ((k : Int) == (n' : Int)) = false := by rw [beq_cast]; simp [e2]
      have hE' : cmpL l l' = -1 := by rw [hE, if_neg (fun h => e2 h.2), if_pos e1]
      clear hE e1 e2
      go_wp2_with fail
      go_ret
      exact ⟨ret_int hE'.symm, hb⟩
  · by_cases e2 : k = n'
    · have q1 : ((k : Int) == (n : Int)) = false := by rw [beq_cast]; simp [e1]
      have q2 : ((k : Int) == (n' : Int)) = true := by rw [beq_cast]; simp [e2]
      have hE' : cmpL l l' = 1 := by rw [hE, if_neg (fun h => e1 h.1), if_neg e1, if_pos e2]
      clear hE e1 e2
      go_wp2_with fail
      go_ret
      exact ⟨ret_int hE'.symm, hb⟩
    · have q1 : ((k : Int) == (n : Int)) = false := by rw [beq_cast]; simp [e1]
      have q2 : ((k : Int) == (n' : Int)) = false := by rw [beq_cast]; simp [e2]
      have h3 : k < n := by omega
      have h4 : k < n' := by omega
      have hE' : cmpL l l' = Lib.compareBytes (foldL (l.getD (n - 1 - k) [])) (foldL (l'.getD (n' - 1 - k) [])) := by
        rw [hE, if_neg (fun h => e1 h.1), if_neg e1, if_neg e2, (hx.out k h3 h4).1, (hx.out k h3 h4).2]
      clear hE e1 e2
      obtain ⟨b, o, rfl, hcs⟩ := rd_str hr1.out.rd (by omega)
      obtain ⟨b', o', rfl, hcs'⟩ := rd_str hr2.out.rd (by omega)
      have c1 := hcs (n - 1 - k) (by have := hL.out.1; omega)
      have c2 := hcs' (n' - 1 - k) (by have := hL.out.2; omega)
      have s1 := hH.out.short _ (List.getElem_mem (n := n - 1 - k) (by have := hL.out.1; omega))
      have s2 := hH'.out.short _ (List.getElem_mem (n := n' - 1 - k) (by have := hL.out.2; omega))
      have g1 : l.getD (n - 1 - k) [] = l[n - 1 - k]'(by have := hL.out.1; omega) := by rw [List.getD_eq_getElem?_getD, List.getElem?_eq_getElem (by have := hL.out.1; omega)]; rfl
      have g2 : l'.getD (n' - 1 - k) [] = l'[n' - 1 - k]'(by have := hL.out.2; omega) := by rw [List.getD_eq_getElem?_getD, List.getElem?_eq_getElem (by have := hL.out.2; omega)]; rfl
      rw [← g1] at c1 s1
      rw [← g2] at c2 s2
      generalize l.getD (n - 1 - k) [] = X at *
      generalize l'.getD (n' - 1 - k) [] = Y at *
      obtain ⟨i1, hi1, j1, u1⟩ : ∃ i1 : Nat, n - 1 - k = i1 ∧ (n : Int) - 1 - (k : Int) = i1 ∧ (i1 : Int) < n := ⟨_, rfl, by omega, by omega⟩
      obtain ⟨i2, hi2, j2, u2⟩ : ∃ i2 : Nat, n' - 1 - k = i2 ∧ (n' : Int) - 1 - (k : Int) = i2 ∧ (i2 : Int) < n' := ⟨_, rfl, by omega, by omega⟩
      have v1 : IntKind.i64.wrap ((n : Int) - 1) = (n : Int) - 1 := by rw [IntKind.wrap_i64]; omega
      have v2 : IntKind.i64.wrap ((n' : Int) - 1) = (n' : Int) - 1 := by rw [IntKind.wrap_i64]; omega
      have v3 : IntKind.i64.wrap ((n : Int) - 1 - (k : Int)) = i1 := by rw [IntKind.wrap_i64]; omega
      have v4 : IntKind.i64.wrap ((n' : Int) - 1 - (k : Int)) = i2 := by rw [IntKind.wrap_i64]; omega
      rw [hi1] at c1
      rw [hi2] at c2
      clear hcs hcs' g1 g2 hx hi1 hi2 j1 j2
      go_wp2_with fail
      go_region_held3 (fun w' => Below w.heap.size w w' ∧ w'.cell? ⟨b, o + i1, none⟩ = some (.string (mk X)) ∧ w'.cell? ⟨b', o' + i2, none⟩ = some (.string (mk Y)))
        (first | exact ⟨hb.drew, c1, c2⟩ | exact ⟨hb5, hs2⟩)
        (first | (go_at_call 18; refine (compare_any X Y _ s1 s2).mono ?_; rintro e w2 ⟨rfl, hb2⟩; have hb5 := Below.trans hb.drew (hb2.mono hb.drew.size); have hs2 := And.intro ((hb2.cell (p := ⟨b, o + i1, none⟩) (World.block_lt_of_cell? w1 _ c1)).trans c1) ((hb2.cell (p := ⟨b', o' + i2, none⟩) (World.block_lt_of_cell? w1 _ c2)).trans c2)))
      go_wp2_with fail
      go_ret
      exact ⟨ret_int hE'.symm, hb5⟩
end Go.Proofs.Ytffdcfannnmjnaa
