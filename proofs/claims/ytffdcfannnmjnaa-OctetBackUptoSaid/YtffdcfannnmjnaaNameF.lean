/- Layer 3: the document's answers beside the program's: Check, Size, Common, Same, Compare, Under, Above, Parent, Join. -/
import Derived.Test.YtffdcfannnmjnaaNameE
import Derived.Test.YtffdcfannnmjnaaParse3
import Derived.Test.YtffdcfannnmjnaaRef02
namespace Go.Proofs.Ytffdcfannnmjnaa
open Go.RowKit
/-- a name of short labels that lies in memory -/
structure Nms (w : World) (a : Option Addr) (n c : Nat) (l : Nm) : Prop where
  nm : Nmd w a n c l
  sh : ∀ s ∈ l, s.length ≤ 1099511627776
theorem Nms.ext {w w' : World} {a : Option Addr} {n c : Nat} {l : Nm} (h : Nms w a n c l) (hb : Below w.heap.size w w') : Nms w' a n c l := ⟨h.nm.ext hb, h.sh⟩
set_option maxHeartbeats 1000000 in
set_option maxRecDepth 100000 in
theorem rsize_any {w : World} {a : Option Addr} {n c : Nat} {l : Nm} (h : Rd strE w a n c l) (hs : sizeL l ≤ 1152921504606846976) :
    Calls Try.prog 81 #[.slice a n c] w fun e w' => e = .returned (.int .i64 (sizeL l)) ∧ w = w' := by
  have hl := h.len
  subst hl
  have hm := h.most
  have hc := h.cap
  have hH := Lib.hid h
  clear h
  simp only [maxLen] at hm
  go_enter Try.func81, Try.ntmps81
  go_wp2_with fail
  go_loopw [3, 4] (fun s i wr => ∃ k : Nat, k ≤ l.length ∧ i = .int .i64 k ∧ s = .int .i64 (sizeL (l.take k)) ∧ w = wr)
    (fun _ i _ => l.length - (intOf i).toNat)
  case atStart => exact ⟨0, Nat.zero_le _, rfl, rfl, rfl⟩
  case round =>
    obtain ⟨k, hk, rfl, rfl, rfl⟩ := hrel
    by_cases hlt : k < l.length
    · obtain ⟨b, o, rfl, hcs⟩ := rd_str hH.out (by omega)
      have hck := hcs k hlt
      clear hcs
      have e1 := sizeL_take l k hlt
      have e2 := sizeL_le l (k + 1)
      generalize hX : l[k] = X at *
      generalize sizeL (l.take k) = S at *
      have hS : S + (X.length + 1) ≤ 1152921504606846976 := by omega
      have e1' := Lib.hid e1
      clear e1 e2
      go_wp2_with fail
      go_roundw
      case rel => exact ⟨k + 1, by omega, by go_num, by rw [e1'.out]; simp; omega, trivial⟩
      case measure => simp [intOf]; omega
    · have hk' : k = l.length := by omega
      subst hk'
      rw [List.take_length]
      go_wp2_with fail
      go_ret
      exact ⟨rfl, rfl⟩
set_option maxHeartbeats 1000000 in
set_option maxRecDepth 100000 in
theorem rcheck_any {w : World} {a : Option Addr} {n c : Nat} {l : Nm} (h : Rd strE w a n c l) (hn : n ≤ 8796093022208) :
    Calls Try.prog 80 #[.slice a n c] w fun e w' => e = .returned (.int .i64 (checkL l)) ∧ w = w' := by
  have hl := h.len
  subst hl
  have hm := h.most
  have hc := h.cap
  have hH := Lib.hid h
  clear h
  simp only [maxLen] at hm
  go_enter Try.func80, Try.ntmps80
  go_wp2_with fail
  go_loopw [3] (fun i wr => ∃ k : Nat, k ≤ l.length ∧ i = .int .i64 k ∧ (∀ j (hj : j < l.length), j < k → okLab l[j]) ∧ w = wr)
    (fun i _ => l.length - (intOf i).toNat)
  case atStart => exact ⟨0, Nat.zero_le _, rfl, fun j _ h => (by omega), rfl⟩
  case round =>
    obtain ⟨k, hk, rfl, hp0, rfl⟩ := hrel
    have hp := Lib.hid hp0
    clear hp0
    by_cases hlt : k < l.length
    · obtain ⟨b, o, rfl, hcs⟩ := rd_str hH.out (by omega)
      have hck := hcs k hlt
      clear hcs
      generalize hX : l[k] = X at *
      by_cases h3 : okLab X
      · go_wp2_with fail
        refine (rcheck_yes X _ h3).mono ?_
        rintro e w1 ⟨rfl, rfl⟩
        go_wp2_with fail
        go_roundw
        case rel => exact ⟨k + 1, by omega, by go_num, fun j hj h => (by
          by_cases e : j = k
          · subst e; rw [hX]; exact h3
          · exact hp.out j hj (by omega)), trivial⟩
        case measure => simp [intOf]; omega
      · go_wp2_with fail
        refine (rcheck_no X _ (by unfold okLab at h3; omega)).mono ?_
        rintro e w1 ⟨rfl, rfl⟩
        go_wp2_with fail
        go_ret
        refine ⟨?_, rfl⟩
        have : checkL l = 4 := by
          unfold checkL; rw [if_neg]; intro h; exact h3 (hX ▸ h _ (List.getElem_mem hlt))
        rw [this]; rfl
    · have hk' : k = l.length := by omega
      subst hk'
      have hall : ∀ s ∈ l, okLab s := fun s hs => by
        obtain ⟨j, hj, rfl⟩ := List.getElem_of_mem hs
        exact hp.out j hj hj
      have hC : checkL l = if 255 < sizeL l then 5 else 0 := by unfold checkL; rw [if_pos hall]
      have hsz : sizeL l ≤ 1152921504606846976 := by
        have := sizeL_bound 63 l fun s hs => (hall s hs).2
        omega
      have hC' := Lib.hid hC
      clear hC hall
      go_wp2_with fail
      refine (rsize_any hH.out hsz).mono ?_
      rintro e w1 ⟨rfl, rfl⟩
      by_cases h5 : 255 < sizeL l
      · go_wp2_with fail
        go_ret
        exact ⟨by rw [hC'.out, if_pos h5]; rfl, rfl⟩
      · go_wp2_with fail
        go_ret
        exact ⟨by rw [hC'.out, if_neg h5]; rfl, rfl⟩
set_option maxHeartbeats 4000000 in
set_option maxRecDepth 100000 in
theorem rcommon {w : World} {a a' : Option Addr} {n c n' c' : Nat} {l l' : Nm} (h : Nms w a n c l) (h' : Nms w a' n' c' l') :
    Calls Try.prog 85 #[.slice a n c, .slice a' n' c'] w fun e w' => e = .returned (.int .i64 (comL l l')) ∧ Below w.heap.size w w' := by
  have hl := h.nm.rd.len
  have hl' := h'.nm.rd.len
  have hf := h.nm.few
  have hf' := h'.nm.few
  have hH := Lib.hid h
  have hH' := Lib.hid h'
  have hL := Lib.hid (And.intro hl hl')
  clear h h' hl hl'
  go_enter Try.func85, Try.ntmps85
  go_wp2_with fail
  go_loopw [5] (fun i wr => ∃ k : Nat, k ≤ n ∧ k ≤ n' ∧ i = .int .i64 k ∧ (∀ p, p < k → samP l l' p) ∧ Below w.heap.size w wr)
    (fun i _ => n - (intOf i).toNat)
  case atStart => exact ⟨0, Nat.zero_le _, Nat.zero_le _, rfl, fun p h => (by omega), Below.refl _ _⟩
  case round =>
    obtain ⟨k, hk, hk', rfl, hp0, hb⟩ := hrel
    have hp := Lib.hid hp0
    clear hp0
    have ⟨hl, hl'⟩ := hL.out
    by_cases h1 : k < n
    · by_cases h2 : k < n'
      · have hr1 := hH.out.nm.rd.ext hb
        have hr2 := hH'.out.nm.rd.ext hb
        have hx1 : k < l.length := by omega
        have hx2 : k < l'.length := by omega
        have hyes := fun e => samP_yes (l := l) (l' := l') (p := k) hx1 hx2 e
        have hno := fun e => samP_no (l := l) (l' := l') (p := k) hx1 hx2 e
        have hstop := fun e => comL_stop (l := l) (l' := l') hp.out (by omega) (hno e)
        obtain ⟨b, o, rfl, hcs⟩ := rd_str hr1 (by omega)
        obtain ⟨b', o', rfl, hcs'⟩ := rd_str hr2 (by omega)
        have c1 := hcs (l.length - 1 - k) (by omega)
        have c2 := hcs' (l'.length - 1 - k) (by omega)
        have s1 := hH.out.sh _ (List.getElem_mem (n := l.length - 1 - k) (by omega))
        have s2 := hH'.out.sh _ (List.getElem_mem (n := l'.length - 1 - k) (by omega))
        clear hcs hcs' hr1 hr2 hno
        generalize hX : (l[l.length - 1 - k]'(by omega)) = X at *
        generalize hY : (l'[l'.length - 1 - k]'(by omega)) = Y at *
        obtain ⟨i1, hi1, u1⟩ : ∃ i1 : Nat, l.length - 1 - k = i1 ∧ (i1 : Int) < n := ⟨_, rfl, by omega⟩
        obtain ⟨i2, hi2, u2⟩ : ∃ i2 : Nat, l'.length - 1 - k = i2 ∧ (i2 : Int) < n' := ⟨_, rfl, by omega⟩
        have v1 : IntKind.i64.wrap ((n : Int) - 1) = (n : Int) - 1 := by rw [IntKind.wrap_i64]; omega
        have v2 : IntKind.i64.wrap ((n' : Int) - 1) = (n' : Int) - 1 := by rw [IntKind.wrap_i64]; omega
        have v3 : IntKind.i64.wrap ((n : Int) - 1 - (k : Int)) = i1 := by rw [IntKind.wrap_i64]; omega
        have v4 : IntKind.i64.wrap ((n' : Int) - 1 - (k : Int)) = i2 := by rw [IntKind.wrap_i64]; omega
        have w1 : (k : Int) < n := by omega
        have w2 : (k : Int) < n' := by omega
        rw [hi1] at c1
        rw [hi2] at c2
        clear hi1 hi2 hX hY hl hl' h1 h2 hx1 hx2
        have hz := cmp_zero (foldL X) (foldL Y)
        have hh := Lib.hid (And.intro hyes hstop)
        clear hyes hstop
        by_cases e : foldL X = foldL Y
        · have hq : Lib.compareBytes (foldL X) (foldL Y) = 0 := hz.2 e
          clear hz
          have hs := hh.out.1 e
          clear hh
          go_wp2_with fail
          go_region_held3 (fun w' => Below w.heap.size w w' ∧ w'.cell? ⟨b, o + i1, none⟩ = some (.string (mk X)) ∧ w'.cell? ⟨b', o' + i2, none⟩ = some (.string (mk Y)))
            (first | exact ⟨hb.drew, c1, c2⟩ | exact ⟨hb5, hs2⟩)
            (first | (go_at_call 68; refine (refCompare_any X Y _ s1 s2).mono ?_; rw [hq]; rintro e w2 ⟨rfl, hb2⟩; have hb5 := Below.trans hb.drew (hb2.mono hb.drew.size); have hs2 := And.intro ((hb2.cell (p := ⟨b, o + i1, none⟩) (World.block_lt_of_cell? wr _ c1)).trans c1) ((hb2.cell (p := ⟨b', o' + i2, none⟩) (World.block_lt_of_cell? wr _ c2)).trans c2)))
          go_wp2_with fail
          go_roundw
          case rel => exact ⟨k + 1, by omega, by omega, by go_num, fun p hp' => (by
            by_cases e : p = k
            · subst e; exact hs
            · exact hp.out p (by omega)), hb5⟩
          case measure => simp [intOf]; omega
        · have hq : (Lib.compareBytes (foldL X) (foldL Y) == 0) = false := by
            rw [beq_eq_false_iff_ne]; exact fun h => e (hz.1 h)
          clear hz
          have hs := hh.out.2 e
          clear hh
          go_wp2_with fail
          go_region_held3 (fun w' => Below w.heap.size w w' ∧ w'.cell? ⟨b, o + i1, none⟩ = some (.string (mk X)) ∧ w'.cell? ⟨b', o' + i2, none⟩ = some (.string (mk Y)))
            (first | exact ⟨hb.drew, c1, c2⟩ | exact ⟨hb5, hs2⟩)
            (first | (go_at_call 68; refine (refCompare_any X Y _ s1 s2).mono ?_; rintro e w2 ⟨rfl, hb2⟩; have hb5 := Below.trans hb.drew (hb2.mono hb.drew.size); have hs2 := And.intro ((hb2.cell (p := ⟨b, o + i1, none⟩) (World.block_lt_of_cell? wr _ c1)).trans c1) ((hb2.cell (p := ⟨b', o' + i2, none⟩) (World.block_lt_of_cell? wr _ c2)).trans c2)))
          go_wp2_with fail
          go_ret
          exact ⟨by rw [hs]; rfl, hb5⟩
      · have hs := comL_stop (l := l) (l' := l') hp.out (by omega) (samP_out (by omega) (by omega))
        have w1 : (k : Int) < n := by omega
        obtain rfl : n' = k := by omega
        clear hl hl' h2
        go_wp2_with fail
        go_region
        go_wp2_with fail
        go_ret
        exact ⟨by rw [hs]; rfl, hb.drew⟩
    · have hs : comL l l' = k := by
        have := comL_all (l := l) (l' := l') fun p hp' => hp.out p (by omega)
        omega
      obtain rfl : n = k := by omega
      clear hl hl' h1
      go_wp2_with fail
      go_region
      go_wp2_with fail
      go_ret
      exact ⟨by rw [hs]; rfl, hb.drew⟩
set_option maxHeartbeats 1000000 in
theorem runder {w : World} {a a' : Option Addr} {n c n' c' : Nat} {l l' : Nm} (h : Nms w a n c l) (h' : Nms w a' n' c' l') :
    Calls Try.prog 84 #[.slice a n c, .slice a' n' c'] w fun e w' => e = .returned (.bool (underL l l')) ∧ Below w.heap.size w w' := by
  have hl' := h'.nm.rd.len
  subst hl'
  have hf := h'.nm.few
  have hH := Lib.hid h
  have hH' := Lib.hid h'
  clear h h'
  go_enter Try.func84, Try.ntmps84
  go_wp2_with (go_at_call 85; refine (rcommon hH.out hH'.out).mono ?_; rintro e w1 ⟨rfl, hb⟩)
  go_ret
  exact ⟨by apply ret_bool; rw [beq_cast]; rfl, hb⟩
set_option maxRecDepth 100000 in
set_option maxHeartbeats 1000000 in
theorem rsame {w : World} {a a' : Option Addr} {n c n' c' : Nat} {l l' : Nm} (h : Nms w a n c l) (h' : Nms w a' n' c' l') :
    Calls Try.prog 82 #[.slice a n c, .slice a' n' c'] w fun e w' => e = .returned (.bool (sameL l l')) ∧ Below w.heap.size w w' := by
  have hl := h.nm.rd.len
  have hl' := h'.nm.rd.len
  have hf := h.nm.few
  have hf' := h'.nm.few
  have hH := Lib.hid h
  have hH' := Lib.hid h'
  have hL := Lib.hid (And.intro hl hl')
  clear h h' hl hl'
  by_cases e : n = n'
  · subst e
    go_enter Try.func82, Try.ntmps82
    go_wp2_with (go_at_call 85; refine (rcommon hH.out hH'.out).mono ?_; rintro e w1 ⟨rfl, hb⟩)
    go_ret
    have := hL.out
    exact ⟨by apply ret_bool; rw [beq_cast, sameL, this.1, this.2]; simp, hb⟩
  · have e' : ((n : Int) == (n' : Int)) = false := by rw [beq_cast]; simp [e]
    have e2 : ¬ ((n : Int) = (n' : Int)) := by omega
    go_enter Try.func82, Try.ntmps82
    go_wp2_with fail
    go_ret
    have := hL.out
    exact ⟨by apply ret_bool; rw [sameL, this.1, this.2]; simp [e], Below.refl _ _⟩
set_option maxRecDepth 100000 in
set_option maxHeartbeats 2000000 in
theorem rcompare {w : World} {a a' : Option Addr} {n c n' c' : Nat} {l l' : Nm} (h : Nms w a n c l) (h' : Nms w a' n' c' l') :
    Calls Try.prog 83 #[.slice a n c, .slice a' n' c'] w fun e w' => e = .returned (.int .i64 (cmpL l l')) ∧ Below w.heap.size w w' := by
  have hl := h.nm.rd.len
  have hl' := h'.nm.rd.len
  have hf := h.nm.few
  have hf' := h'.nm.few
  have hH := Lib.hid h
  have hH' := Lib.hid h'
  have hL := Lib.hid (And.intro hl hl')
  have hle := comL_le l l'
  rw [hl, hl'] at hle
  have hE := cmpL_eq l l'
  rw [hl, hl'] at hE
  have hx : Hid (∀ k, k < n → k < n' → ((rv l)[k]?).getD [] = foldL (l.getD (n - 1 - k) []) ∧ ((rv l')[k]?).getD [] = foldL (l'.getD (n' - 1 - k) [])) := Lib.hid fun k h1 h2 => by
    rw [rv_at l k (by omega), rv_at l' k (by omega)]
    simp only [List.getD_eq_getElem?_getD]
    rw [List.getElem?_eq_getElem (by omega), List.getElem?_eq_getElem (by omega)]
    subst hl hl'; exact ⟨rfl, rfl⟩
  clear h h' hl hl'
  generalize hk : comL l l' = k at *
  go_enter Try.func83, Try.ntmps83
  go_wp2_with fail
  refine (rcommon hH.out hH'.out).mono ?_
  rw [hk]
  rintro e w1 ⟨rfl, hb⟩
  have hr1 := Lib.hid (hH.out.ext hb)
  have hr2 := Lib.hid (hH'.out.ext hb)
  obtain ⟨h1, h2⟩ := hle
  by_cases e1 : k = n
  · by_cases e2 : k = n'
    · have q1 : ((k : Int) == (n : Int)) = true := by rw [beq_cast]; simp [e1]
      have q2 : ((k : Int) == (n' : Int)) = true := by rw [beq_cast]; simp [e2]
      have hE' : cmpL l l' = 0 := by rw [hE, if_pos ⟨e1, e2⟩]
      clear hE e1 e2
      go_wp2_with fail
      go_ret
      exact ⟨ret_int hE'.symm, hb⟩
    · have q1 : ((k : Int) == (n : Int)) = true := by rw [beq_cast]; simp [e1]
      have q2 : ((k : Int) == (n' : Int)) = false := by rw [beq_cast]; simp [e2]
      have hE' : cmpL l l' = -1 := by rw [hE, if_neg (fun h => e2 h.2), if_pos e1]
      clear hE e1 e2
      go_wp2_with fail
      go_ret
      exact ⟨ret_int hE'.symm, hb⟩
  · by_cases e2 : k = n'
    · have q1 : ((k : Int) == (n : Int)) = false := by rw [beq_cast]; simp [e1]
      have q2 : ((k : Int) == (n' : Int)) = true := by rw [beq_cast]; simp [e2]
      have hE' : cmpL l l' = 1 := by rw [hE, if_neg (fun h => e1 h.1), if_neg e1, if_pos e2]
      clear hE e1 e2
      go_wp2_with fail
      go_ret
      exact ⟨ret_int hE'.symm, hb⟩
    · have q1 : ((k : Int) == (n : Int)) = false := by rw [beq_cast]; simp [e1]
      have q2 : ((k : Int) == (n' : Int)) = false := by rw [beq_cast]; simp [e2]
      have h3 : k < n := by omega
      have h4 : k < n' := by omega
      have hE' : cmpL l l' = Lib.compareBytes (foldL (l.getD (n - 1 - k) [])) (foldL (l'.getD (n' - 1 - k) [])) := by
        rw [hE, if_neg (fun h => e1 h.1), if_neg e1, if_neg e2, (hx.out k h3 h4).1, (hx.out k h3 h4).2]
      clear hE e1 e2
      obtain ⟨b, o, rfl, hcs⟩ := rd_str hr1.out.nm.rd (by omega)
      obtain ⟨b', o', rfl, hcs'⟩ := rd_str hr2.out.nm.rd (by omega)
      have c1 := hcs (n - 1 - k) (by have := hL.out.1; omega)
      have c2 := hcs' (n' - 1 - k) (by have := hL.out.2; omega)
      have s1 := hH.out.sh _ (List.getElem_mem (n := n - 1 - k) (by have := hL.out.1; omega))
      have s2 := hH'.out.sh _ (List.getElem_mem (n := n' - 1 - k) (by have := hL.out.2; omega))
      have g1 : l.getD (n - 1 - k) [] = l[n - 1 - k]'(by have := hL.out.1; omega) := by rw [List.getD_eq_getElem?_getD, List.getElem?_eq_getElem (by have := hL.out.1; omega)]; rfl
      have g2 : l'.getD (n' - 1 - k) [] = l'[n' - 1 - k]'(by have := hL.out.2; omega) := by rw [List.getD_eq_getElem?_getD, List.getElem?_eq_getElem (by have := hL.out.2; omega)]; rfl
      rw [← g1] at c1 s1
      rw [← g2] at c2 s2
      generalize l.getD (n - 1 - k) [] = X at *
      generalize l'.getD (n' - 1 - k) [] = Y at *
      obtain ⟨i1, hi1, j1, u1⟩ : ∃ i1 : Nat, n - 1 - k = i1 ∧ (n : Int) - 1 - (k : Int) = i1 ∧ (i1 : Int) < n := ⟨_, rfl, by omega, by omega⟩
      obtain ⟨i2, hi2, j2, u2⟩ : ∃ i2 : Nat, n' - 1 - k = i2 ∧ (n' : Int) - 1 - (k : Int) = i2 ∧ (i2 : Int) < n' := ⟨_, rfl, by omega, by omega⟩
      have v1 : IntKind.i64.wrap ((n : Int) - 1) = (n : Int) - 1 := by rw [IntKind.wrap_i64]; omega
      have v2 : IntKind.i64.wrap ((n' : Int) - 1) = (n' : Int) - 1 := by rw [IntKind.wrap_i64]; omega
      have v3 : IntKind.i64.wrap ((n : Int) - 1 - (k : Int)) = i1 := by rw [IntKind.wrap_i64]; omega
      have v4 : IntKind.i64.wrap ((n' : Int) - 1 - (k : Int)) = i2 := by rw [IntKind.wrap_i64]; omega
      rw [hi1] at c1
      rw [hi2] at c2
      clear hcs hcs' g1 g2 hx hi1 hi2 j1 j2
      go_wp2_with fail
      go_region_held3 (fun w' => Below w.heap.size w w' ∧ w'.cell? ⟨b, o + i1, none⟩ = some (.string (mk X)) ∧ w'.cell? ⟨b', o' + i2, none⟩ = some (.string (mk Y)))
        (first | exact ⟨hb.drew, c1, c2⟩ | exact ⟨hb5, hs2⟩)
        (first | (go_at_call 68; refine (refCompare_any X Y _ s1 s2).mono ?_; rintro e w2 ⟨rfl, hb2⟩; have hb5 := Below.trans hb.drew (hb2.mono hb.drew.size); have hs2 := And.intro ((hb2.cell (p := ⟨b, o + i1, none⟩) (World.block_lt_of_cell? w1 _ c1)).trans c1) ((hb2.cell (p := ⟨b', o' + i2, none⟩) (World.block_lt_of_cell? w1 _ c2)).trans c2)))
      go_wp2_with fail
      go_ret
      exact ⟨ret_int hE'.symm, hb5⟩
set_option maxHeartbeats 1000000 in
theorem rcopy {M : Nat} {w : World} {a : Option Addr} {n c : Nat} {l : Nm} (h : Rd strE w a n c l) (hn : n ≤ 8796093022208) (hM : ∀ s ∈ l, s.length ≤ M) :
    Calls Try.prog 123 #[.slice a n c] w fun e w' => (∃ v, e = .returned v ∧ OwnT M w' w.heap.size v l) ∧ Below w.heap.size w w' := by
  have hl := h.len
  have hown := OwnT.made M w #[] [] 0 rfl rfl (by simp [maxLen]) (fun s hs => by cases hs)
  have hsrc := h.ext ((Below.refl _ w).alloc (Nat.le_refl _) (.cells #[] 9))
  have hH := Lib.hid h; clear h
  go_enter Try.func123, Try.ntmps123
  go_wp2_with (at_builtin; refine app_ownT rfl (.tmp 3) (.tmp 4) 49 49 rfl Try.underlying49 Try.underlying49 rfl hown rfl hsrc hM ?c2 ?c3 ?_)
  case c2 => simp; omega
  case c3 => simp
  intro v' w2 ho hg _
  obtain ⟨a', c', rfl⟩ := ho.shape
  go_wp2
  go_ret
  exact ⟨⟨_, rfl, by simpa using ho⟩, own_below ((Below.refl _ _).alloc (Nat.le_refl _) _) hg hown.own (by simp) (Nat.le_refl _)⟩
set_option maxHeartbeats 2000000 in
set_option maxRecDepth 100000 in
theorem rabove {M : Nat} (hM : 63 ≤ M) {w : World} {a : Option Addr} {n c : Nat} {l : Nm} (h : Rd strE w a n c l) (hn : n ≤ 8796093022208) (d : Int) :
    Calls Try.prog 87 #[.slice a n c, .int .i64 d] w fun e w' => (∃ v, e = .returned (.tuple #[v, .int .i64 (aboveL l d).2]) ∧ OwnT M w' w.heap.size v (aboveL l d).1) ∧ Below w.heap.size w w' := by
  have hL := Lib.hid h.len
  have hH := Lib.hid h
  clear h
  by_cases c1 : checkL l = 0
  · by_cases c2 : d < 0 ∨ (n : Int) < d
    · have hJ : aboveL l d = ([], 2) := by unfold aboveL; rw [if_neg (by simp [c1]), hL.out, if_pos c2]
      rcases c2 with c2 | c2
      · go_enter Try.func87, Try.ntmps87
        go_wp2_with fail
        refine (rcheck_any hH.out hn).mono ?_
        rw [c1]
        rintro e w1 ⟨rfl, rfl⟩
        go_wp2_with fail
        go_ret2
        rw [hJ]
        exact ⟨⟨_, rfl, OwnT.nil _ _ _⟩, Below.refl _ _⟩
      · have c3 : ¬ d < 0 := by omega
        go_enter Try.func87, Try.ntmps87
        go_wp2_with fail
        refine (rcheck_any hH.out hn).mono ?_
        rw [c1]
        rintro e w1 ⟨rfl, rfl⟩
        go_wp2_with fail
        go_ret2
        rw [hJ]
        exact ⟨⟨_, rfl, OwnT.nil _ _ _⟩, Below.refl _ _⟩
    · have hJ : aboveL l d = (l.drop (n - d.toNat), 0) := by unfold aboveL; rw [if_neg (by simp [c1]), hL.out, if_neg c2]
      obtain ⟨k, rfl⟩ : ∃ k : Nat, d = k := ⟨d.toNat, by omega⟩
      rw [Int.toNat_natCast] at hJ
      have hkn : k ≤ n := by omega
      obtain ⟨a1, hs, hr⟩ := cut_l (P := Try.prog) hH.out 49 Try.underlying49 hsz9 .i64 ((n : Int) - (k : Int)) (n - k) (by omega) (by omega)
      have hr' := Lib.hid hr
      clear hr c2
      go_enter Try.func87, Try.ntmps87
      go_wp2_with fail
      refine (rcheck_any hH.out hn).mono ?_
      rw [c1]
      rintro e w1 ⟨rfl, rfl⟩
      go_wp2_with fail
      refine (rcopy (M := M) hr'.out (by omega) (fun s hs => Nat.le_trans (checkL_63 c1 s (mem_drop hs)) hM)).mono ?_
      rintro e w1 ⟨⟨v, rfl, ho⟩, hb⟩
      go_wp2_with fail
      go_ret2
      rw [hJ]
      exact ⟨⟨_, rfl, ho⟩, hb⟩
  · have hJ : aboveL l d = ([], checkL l) := by unfold aboveL; rw [if_pos c1]
    have c1' : ¬ ((checkL l : Int) = 0) := by omega
    go_enter Try.func87, Try.ntmps87
    go_wp2_with fail
    refine (rcheck_any hH.out hn).mono ?_
    rintro e w1 ⟨rfl, rfl⟩
    go_wp2_with fail
    go_ret2
    rw [hJ]
    exact ⟨⟨_, rfl, OwnT.nil _ _ _⟩, Below.refl _ _⟩
set_option maxHeartbeats 2000000 in
set_option maxRecDepth 100000 in
theorem rparent {M : Nat} (hM : 63 ≤ M) {w : World} {a : Option Addr} {n c : Nat} {l : Nm} (h : Rd strE w a n c l) (hn : n ≤ 8796093022208) :
    Calls Try.prog 86 #[.slice a n c] w fun e w' => (∃ v, e = .returned (.tuple #[v, .int .i64 (parentL l).2]) ∧ OwnT M w' w.heap.size v (parentL l).1) ∧ Below w.heap.size w w' := by
  have hL := Lib.hid h.len
  have hH := Lib.hid h
  clear h
  by_cases c1 : checkL l = 0
  · by_cases c2 : n = 0
    · have hJ : parentL l = ([], 9) := by unfold parentL; rw [if_neg (by simp [c1]), hL.out, if_pos c2]
      subst c2
      go_enter Try.func86, Try.ntmps86
      go_wp2_with fail
      refine (rcheck_any hH.out hn).mono ?_
      rw [c1]
      rintro e w1 ⟨rfl, rfl⟩
      go_wp2_with fail
      go_ret2
      rw [hJ]
      exact ⟨⟨_, rfl, OwnT.nil _ _ _⟩, Below.refl _ _⟩
    · have hJ : parentL l = (l.drop 1, 0) := by unfold parentL; rw [if_neg (by simp [c1]), hL.out, if_neg c2]
      have c3 : ((n : Int) == 0) = false := by rw [beq_eq_false_iff_ne]; omega
      obtain ⟨a1, hs, hr⟩ := cut_l (P := Try.prog) hH.out 49 Try.underlying49 hsz9 .i64 1 1 rfl (by omega)
      have hr' := Lib.hid hr
      clear hr
      go_enter Try.func86, Try.ntmps86
      go_wp2_with fail
      refine (rcheck_any hH.out hn).mono ?_
      rw [c1]
      rintro e w1 ⟨rfl, rfl⟩
      go_wp2_with fail
      refine (rcopy (M := M) hr'.out (by omega) (fun s hs => Nat.le_trans (checkL_63 c1 s (mem_drop hs)) hM)).mono ?_
      rintro e w1 ⟨⟨v, rfl, ho⟩, hb⟩
      go_wp2_with fail
      go_ret2
      rw [hJ]
      exact ⟨⟨_, rfl, ho⟩, hb⟩
  · have hJ : parentL l = ([], checkL l) := by unfold parentL; rw [if_pos c1]
    have c1' : ¬ ((checkL l : Int) = 0) := by omega
    go_enter Try.func86, Try.ntmps86
    go_wp2_with fail
    refine (rcheck_any hH.out hn).mono ?_
    rintro e w1 ⟨rfl, rfl⟩
    go_wp2_with fail
    go_ret2
    rw [hJ]
    exact ⟨⟨_, rfl, OwnT.nil _ _ _⟩, Below.refl _ _⟩
set_option maxHeartbeats 2000000 in
set_option maxRecDepth 100000 in
theorem rjoin {M : Nat} (hM : 63 ≤ M) {w : World} {a a' : Option Addr} {n c n' c' : Nat} {l l' : Nm} (h : Rd strE w a n c l) (h' : Rd strE w a' n' c' l') (hn : n ≤ 8796093022208) (hn' : n' ≤ 8796093022208) :
    Calls Try.prog 88 #[.slice a n c, .slice a' n' c'] w fun e w' => (∃ v, e = .returned (.tuple #[v, .int .i64 (joinL l l').2]) ∧ OwnT M w' w.heap.size v (joinL l l').1) ∧ Below w.heap.size w w' := by
  have hL := Lib.hid (And.intro h.len h'.len)
  have hH := Lib.hid h
  have hH' := Lib.hid h'
  clear h h'
  by_cases c1 : checkL l = 0
  · by_cases c2 : checkL l' = 0
    · have b1 : n ≤ 254 := by have := checkL_len c1; have := hL.out.1; omega
      have b2 : n' ≤ 254 := by have := checkL_len c2; have := hL.out.2; omega
      go_enter Try.func88, Try.ntmps88
      go_wp2_with fail
      refine (rcheck_any hH.out hn).mono ?_
      rw [c1]
      rintro e w1 ⟨rfl, rfl⟩
      go_wp2_with fail
      refine (rcheck_any hH'.out hn').mono ?_
      rw [c2]
      rintro e w1 ⟨rfl, rfl⟩
      go_wp2_with fail
      refine (rcopy (M := M) hH.out hn (fun s hs => Nat.le_trans (checkL_63 c1 s hs) hM)).mono ?_
      rintro e w1 ⟨⟨v, rfl, ho⟩, hb⟩
      have ho1 := Lib.hid ho
      obtain ⟨a1, cap1, hv⟩ := ho.shape
      clear ho
      have hl := hL.out.1
      rw [hl] at hv
      subst hv
      have hr := Lib.hid (hH'.out.ext hb)
      go_wp2_with (at_builtin; refine app_ownT rfl (.tmp 18) (.tmp 19) 49 49 rfl Try.underlying49 Try.underlying49 rfl ho1.out rfl hr.out (fun s hs => Nat.le_trans (checkL_63 c2 s hs) hM) ?c2 hb.size ?_)
      case c2 => have := hL.out; omega
      intro v2 w2 ho2 hg _
      have hb2 : Below w.heap.size w w2 := own_below hb hg ho1.out.own hb.size (Nat.le_refl _)
      obtain ⟨a2, cap2, hv2, hrd⟩ := ho2.rd
      have hlen : (l ++ l').length = n + n' := by have := hL.out; simp; omega
      rw [hlen] at hv2 hrd
      subst hv2
      have ho3 := Lib.hid ho2
      have hrd2 := Lib.hid hrd
      clear ho2 hrd hlen hl
      by_cases c3 : checkL (l ++ l') = 0
      · have hJ : joinL l l' = (l ++ l', 0) := by unfold joinL; rw [if_neg (by simp [c1]), if_neg (by simp [c2]), if_neg (by simp [c3])]
        go_wp2_with fail
        refine (rcheck_any hrd2.out (by omega)).mono ?_
        rw [c3]
        rintro e w3 ⟨rfl, rfl⟩
        go_wp2_with fail
        go_ret2
        rw [hJ]
        exact ⟨⟨_, rfl, ho3.out⟩, hb2⟩
      · have hJ : joinL l l' = ([], 5) := by unfold joinL; rw [if_neg (by simp [c1]), if_neg (by simp [c2]), if_pos c3]
        have c3' : ¬ ((checkL (l ++ l') : Int) = 0) := by omega
        go_wp2_with fail
        refine (rcheck_any hrd2.out (by omega)).mono ?_
        rintro e w3 ⟨rfl, rfl⟩
        go_wp2_with fail
        go_ret2
        rw [hJ]
        exact ⟨⟨_, rfl, OwnT.nil _ _ _⟩, hb2⟩
    · have hJ : joinL l l' = ([], checkL l') := by unfold joinL; rw [if_neg (by simp [c1]), if_pos c2]
      have c2' : ¬ ((checkL l' : Int) = 0) := by omega
      go_enter Try.func88, Try.ntmps88
      go_wp2_with fail
      refine (rcheck_any hH.out hn).mono ?_
      rw [c1]
      rintro e w1 ⟨rfl, rfl⟩
      go_wp2_with fail
      refine (rcheck_any hH'.out hn').mono ?_
      rintro e w1 ⟨rfl, rfl⟩
      go_wp2_with fail
      go_ret2
      rw [hJ]
      exact ⟨⟨_, rfl, OwnT.nil _ _ _⟩, Below.refl _ _⟩
  · have hJ : joinL l l' = ([], checkL l) := by unfold joinL; rw [if_pos c1]
    have c1' : ¬ ((checkL l : Int) = 0) := by omega
    go_enter Try.func88, Try.ntmps88
    go_wp2_with fail
    refine (rcheck_any hH.out hn).mono ?_
    rintro e w1 ⟨rfl, rfl⟩
    go_wp2_with fail
    go_ret2
    rw [hJ]
    exact ⟨⟨_, rfl, OwnT.nil _ _ _⟩, Below.refl _ _⟩
end Go.Proofs.Ytffdcfannnmjnaa
