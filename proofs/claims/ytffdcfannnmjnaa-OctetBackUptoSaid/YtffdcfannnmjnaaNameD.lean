/- Layer 3: copies of names, joined names, the names above. -/
import Derived.Test.YtffdcfannnmjnaaNameC
import Derived.Deep.RegionWith
import Derived.Deep.QuietTactic
import Derived.BigQuiet
namespace Go.Proofs.Ytffdcfannnmjnaa
open Go.RowKit
theorem hsz9 : (Try.prog.info? strE.e).map (·.size) = some strE.k := by kernel_rfl
theorem checkL_zero {l : Nm} (h : checkL l = 0) : (∀ s ∈ l, okLab s) ∧ sizeL l ≤ 255 := by
  unfold checkL at h
  by_cases h1 : ∀ s ∈ l, okLab s
  · rw [if_pos h1] at h
    refine ⟨h1, ?_⟩
    by_cases h2 : 255 < sizeL l
    · rw [if_pos h2] at h; cases h
    · omega
  · rw [if_neg h1] at h; cases h
theorem sizeL_ge (l : Nm) : l.length + 1 ≤ sizeL l := by
  induction l with
  | nil => simp [sizeL]
  | cons s r ih => simp only [sizeL, List.map_cons, List.sum_cons, List.length_cons] at ih ⊢; omega
theorem checkL_len {l : Nm} (h : checkL l = 0) : l.length ≤ 254 := by
  have h1 := (checkL_zero h).2
  have h2 := sizeL_ge l
  omega
theorem checkL_63 {l : Nm} (h : checkL l = 0) : ∀ s ∈ l, s.length ≤ 63 := fun s hs => ((checkL_zero h).1 s hs).2
theorem checkL_nmd {w : World} {a : Option Addr} {n c : Nat} {l : Nm} (h : Rd strE w a n c l) (hc : checkL l = 0) : Nmd w a n c l :=
  ⟨h, by have := checkL_len hc; have := h.len; omega, fun s hs => Nat.le_trans (checkL_63 hc s hs) (by decide)⟩
set_option maxHeartbeats 1000000 in
theorem copy_name {M : Nat} {w : World} {a : Option Addr} {n c : Nat} {l : Nm} (h : Rd strE w a n c l) (hn : n ≤ 8796093022208) (hM : ∀ s ∈ l, s.length ≤ M) :
    Calls Try.prog 89 #[.slice a n c] w fun e w' => (∃ v, e = .returned v ∧ OwnT M w' w.heap.size v l) ∧ Below w.heap.size w w' := by
  have hl := h.len
  have hown := OwnT.made M w #[] [] 0 rfl rfl (by simp [maxLen]) (fun s hs => by cases hs)
  have hsrc := h.ext ((Below.refl _ w).alloc (Nat.le_refl _) (.cells #[] 9))
  have hH := Lib.hid h; clear h
  go_enter Try.func89, Try.ntmps89
  go_wp2_with (at_builtin; refine app_ownT rfl (.tmp 3) (.tmp 4) 49 49 rfl Try.underlying49 Try.underlying49 rfl hown rfl hsrc hM ?c2 ?c3 ?_)
  case c2 => simp; omega
  case c3 => simp
  intro v' w2 ho hg _
  obtain ⟨a', c', rfl⟩ := ho.shape
  go_wp2
  go_ret
  exact ⟨⟨_, rfl, by simpa using ho⟩, own_below ((Below.refl _ _).alloc (Nat.le_refl _) _) hg hown.own (by simp) (Nat.le_refl _)⟩
set_option maxHeartbeats 1000000 in
theorem copy_texts {M : Nat} {w : World} {a : Option Addr} {n c : Nat} {l : Nm} (h : Rd strE w a n c l) (hn : n ≤ 8796093022208) (hM : ∀ s ∈ l, s.length ≤ M) :
    Calls Try.prog 122 #[.slice a n c] w fun e w' => (∃ v, e = .returned v ∧ OwnT M w' w.heap.size v l) ∧ Below w.heap.size w w' := by
  have hl := h.len
  have hown := OwnT.made M w #[] [] 0 rfl rfl (by simp [maxLen]) (fun s hs => by cases hs)
  have hsrc := h.ext ((Below.refl _ w).alloc (Nat.le_refl _) (.cells #[] 9))
  have hH := Lib.hid h; clear h
  go_enter Try.func122, Try.ntmps122
  go_wp2_with (at_builtin; refine app_ownT rfl (.tmp 3) (.tmp 4) 48 48 rfl Try.underlying48 Try.underlying48 rfl hown rfl hsrc hM ?c2 ?c3 ?_)
  case c2 => simp; omega
  case c3 => simp
  intro v' w2 ho hg _
  obtain ⟨a', c', rfl⟩ := ho.shape
  go_wp2
  go_ret
  exact ⟨⟨_, rfl, by simpa using ho⟩, own_below ((Below.refl _ _).alloc (Nat.le_refl _) _) hg hown.own (by simp) (Nat.le_refl _)⟩
theorem copyName_any {M : Nat} {w : World} {a : Option Addr} {n c : Nat} {l : Nm} (h : Rd strE w a n c l) (hn : n ≤ 8796093022208) (hM : ∀ s ∈ l, s.length ≤ M) :
    Calls Try.prog 77 #[.slice a n c] w fun e w' => (∃ v, e = .returned v ∧ OwnT M w' w.heap.size v l) ∧ Below w.heap.size w w' := by
  have hH := Lib.hid h; clear h
  go_enter Try.func77, Try.ntmps77
  go_wp2_with fail
  refine (copy_texts hH.out hn hM).mono ?_
  rintro e w1 ⟨⟨v, rfl, ho⟩, hb⟩
  obtain ⟨a', c', rfl⟩ := ho.shape
  go_wp2_with fail
  go_ret
  exact ⟨⟨_, rfl, ho⟩, hb⟩
set_option maxHeartbeats 1000000 in
set_option maxRecDepth 100000 in
theorem same_texts {w : World} {a a' : Option Addr} {n c n' c' : Nat} {l l' : Nm} (h : Rd strE w a n c l) (h' : Rd strE w a' n' c' l') :
    Calls Try.prog 109 #[.slice a n c, .slice a' n' c'] w fun e w' => e = .returned (.bool (l == l')) ∧ Below w.heap.size w w' := by
  have hl := h.len
  have hl' := h'.len
  have hm := h.most
  have hc := h.cap
  have hm' := h'.most
  have hc' := h'.cap
  have hH := Lib.hid h
  have hH' := Lib.hid h'
  have hL := Lib.hid (And.intro hl hl')
  clear h h' hl hl'
  simp only [maxLen] at hm hm'
  by_cases e : n = n'
  · subst e
    go_enter Try.func109, Try.ntmps109
    go_wp2_with fail
    go_loopw [5] (fun i wr => ∃ k : Nat, k ≤ n ∧ i = .int .i64 k ∧ l.take k = l'.take k ∧ Below w.heap.size w wr)
      (fun i _ => n - (intOf i).toNat)
    case atStart => exact ⟨0, Nat.zero_le _, rfl, rfl, Below.refl _ _⟩
    case round =>
      obtain ⟨k, hk, rfl, hp0, hb⟩ := hrel
      have hp := Lib.hid hp0
      clear hp0
      have ⟨hl, hl'⟩ := hL.out
      by_cases hlt : k < n
      · have hr1 := hH.out.ext hb
        have hr2 := hH'.out.ext hb
        obtain ⟨b, o, rfl, hcs⟩ := rd_str hr1 (by omega)
        obtain ⟨b', o', rfl, hcs'⟩ := rd_str hr2 (by omega)
        have hck := hcs k (by omega)
        have hck' := hcs' k (by omega)
        have e1 : l.take (k + 1) = l.take k ++ [l[k]'(by omega)] := List.take_succ_eq_append_getElem (by omega)
        have e2 : l'.take (k + 1) = l'.take k ++ [l'[k]'(by omega)] := List.take_succ_eq_append_getElem (by omega)
        have e3 : (l[k]'(by omega)) ≠ (l'[k]'(by omega)) → (l == l') = false := fun h => by
          rw [beq_eq_false_iff_ne]; intro e; subst e; exact h rfl
        clear hcs hcs' hr1 hr2
        generalize (l[k]'(by omega)) = X at *
        generalize (l'[k]'(by omega)) = Y at *
        clear hl hl'
        have e4 := Lib.hid (And.intro e1 e2)
        clear e1 e2
        have hlt2 : (k : Int) < n := by omega
        by_cases hxy : X = Y
        · subst hxy
          go_wp2_with fail
          go_region
          go_wp2_with fail
          go_roundw
          case rel => exact ⟨k + 1, by omega, by go_num, by rw [e4.out.1, e4.out.2, hp.out], hb.drew⟩
          case measure => simp [intOf]; omega
        · have hne : (X == Y) = false := by rw [beq_eq_false_iff_ne]; exact hxy
          have hres := e3 hxy
          go_wp2_with fail
          go_region
          go_wp2_with fail
          go_ret
          exact ⟨by rw [hres]; rfl, hb.drew⟩
      · have hk' : k = n := by omega
        subst hk'
        have hres : (l == l') = true := by
          have := hp.out
          rw [List.take_of_length_le (by omega), List.take_of_length_le (by omega)] at this
          rw [this]; exact beq_self_eq_true _
        clear hl hl'
        go_wp2_with fail
        go_ret
        exact ⟨by rw [hres]; rfl, hb⟩
  · have e2 : ¬ ((n : Int) = (n' : Int)) := by omega
    have hres : (l == l') = false := by
      have := hL.out
      rw [beq_eq_false_iff_ne]; intro e; subst e; omega
    go_enter Try.func109, Try.ntmps109
    go_wp2_with fail
    go_ret
    exact ⟨by rw [hres]; rfl, Below.refl _ _⟩
theorem same_name {w : World} {a a' : Option Addr} {n c n' c' : Nat} {l l' : Nm} (h : Rd strE w a n c l) (h' : Rd strE w a' n' c' l') :
    Calls Try.prog 49 #[.slice a n c, .slice a' n' c'] w fun e w' => e = .returned (.bool (l == l')) ∧ Below w.heap.size w w' := by
  have hH := Lib.hid h
  have hH' := Lib.hid h'
  clear h h'
  go_enter Try.func49, Try.ntmps49
  go_wp2_with fail
  refine (same_texts hH.out hH'.out).mono ?_
  rintro e w1 ⟨rfl, hb⟩
  go_wp2_with fail
  go_ret
  exact ⟨rfl, hb⟩
def joinL (l l' : Nm) : Nm × Nat := if checkL l ≠ 0 then ([], checkL l) else if checkL l' ≠ 0 then ([], checkL l') else if checkL (l ++ l') ≠ 0 then ([], 5) else (l ++ l', 0)
def aboveL (l : Nm) (d : Int) : Nm × Nat := if checkL l ≠ 0 then ([], checkL l) else if d < 0 ∨ (l.length : Int) < d then ([], 2) else (l.drop (l.length - d.toNat), 0)
def parentL (l : Nm) : Nm × Nat := if checkL l ≠ 0 then ([], checkL l) else if l.length = 0 then ([], 9) else (l.drop 1, 0)
def wildL (l : Nm) : Nm × Nat := if checkL l ≠ 0 then ([], checkL l) else joinL [[42]] l
set_option maxHeartbeats 2000000 in
set_option maxRecDepth 100000 in
theorem join_any {M : Nat} (hM : 63 ≤ M) {w : World} {a a' : Option Addr} {n c n' c' : Nat} {l l' : Nm} (h : Rd strE w a n c l) (h' : Rd strE w a' n' c' l') (hn : n ≤ 8796093022208) (hn' : n' ≤ 8796093022208) :
    Calls Try.prog 76 #[.slice a n c, .slice a' n' c'] w fun e w' => (∃ v, e = .returned (.tuple #[v, .int .i64 (joinL l l').2]) ∧ OwnT M w' w.heap.size v (joinL l l').1) ∧ Below w.heap.size w w' := by
  have hL := Lib.hid (And.intro h.len h'.len)
  have hH := Lib.hid h
  have hH' := Lib.hid h'
  clear h h'
  by_cases c1 : checkL l = 0
  · by_cases c2 : checkL l' = 0
    · have b1 : n ≤ 254 := by have := checkL_len c1; have := hL.out.1; omega
      have b2 : n' ≤ 254 := by have := checkL_len c2; have := hL.out.2; omega
      go_enter Try.func76, Try.ntmps76
      go_wp2_with fail
      refine (check_any hH.out hn).mono ?_
      rw [c1]
      rintro e w1 ⟨rfl, rfl⟩
      go_wp2_with fail
      refine (check_any hH'.out hn').mono ?_
      rw [c2]
      rintro e w1 ⟨rfl, rfl⟩
      go_wp2_with fail
      refine (copy_name (M := M) hH.out hn (fun s hs => Nat.le_trans (checkL_63 c1 s hs) hM)).mono ?_
      rintro e w1 ⟨⟨v, rfl, ho⟩, hb⟩
      have ho1 := Lib.hid ho
      obtain ⟨a1, cap1, hv⟩ := ho.shape
      clear ho
      have hl := hL.out.1
      rw [hl] at hv
      subst hv
      have hr := Lib.hid (hH'.out.ext hb)
      go_wp2_with (at_builtin; refine app_ownT rfl (.tmp 20) (.tmp 21) 49 49 rfl Try.underlying49 Try.underlying49 rfl ho1.out rfl hr.out (fun s hs => Nat.le_trans (checkL_63 c2 s hs) hM) ?c2 hb.size ?_)
      case c2 => have := hL.out; omega
      intro v2 w2 ho2 hg _
      have hb2 : Below w.heap.size w w2 := own_below hb hg ho1.out.own hb.size (Nat.le_refl _)
      obtain ⟨a2, cap2, hv2, hrd⟩ := ho2.rd
      have hlen : (l ++ l').length = n + n' := by have := hL.out; simp; omega
      rw [hlen] at hv2 hrd
      subst hv2
      have ho3 := Lib.hid ho2
      have hrd2 := Lib.hid hrd
      clear ho2 hrd hlen hl
      by_cases c3 : checkL (l ++ l') = 0
      · have hJ : joinL l l' = (l ++ l', 0) := by unfold joinL; rw [if_neg (by simp [c1]), if_neg (by simp [c2]), if_neg (by simp [c3])]
        go_wp2_with fail
        refine (check_any hrd2.out (by omega)).mono ?_
        rw [c3]
        rintro e w3 ⟨rfl, rfl⟩
        go_wp2_with fail
        go_ret2
        rw [hJ]
        exact ⟨⟨_, rfl, ho3.out⟩, hb2⟩
      · have hJ : joinL l l' = ([], 5) := by unfold joinL; rw [if_neg (by simp [c1]), if_neg (by simp [c2]), if_pos c3]
        have c3' : ¬ ((checkL (l ++ l') : Int) = 0) := by omega
        go_wp2_with fail
        refine (check_any hrd2.out (by omega)).mono ?_
        rintro e w3 ⟨rfl, rfl⟩
        go_wp2_with fail
        go_ret2
        rw [hJ]
        exact ⟨⟨_, rfl, OwnT.nil _ _ _⟩, hb2⟩
    · have hJ : joinL l l' = ([], checkL l') := by unfold joinL; rw [if_neg (by simp [c1]), if_pos c2]
      have c2' : ¬ ((checkL l' : Int) = 0) := by omega
      go_enter Try.func76, Try.ntmps76
      go_wp2_with fail
      refine (check_any hH.out hn).mono ?_
      rw [c1]
      rintro e w1 ⟨rfl, rfl⟩
      go_wp2_with fail
      refine (check_any hH'.out hn').mono ?_
      rintro e w1 ⟨rfl, rfl⟩
      go_wp2_with fail
      go_ret2
      rw [hJ]
      exact ⟨⟨_, rfl, OwnT.nil _ _ _⟩, Below.refl _ _⟩
  · have hJ : joinL l l' = ([], checkL l) := by unfold joinL; rw [if_pos c1]
    have c1' : ¬ ((checkL l : Int) = 0) := by omega
    go_enter Try.func76, Try.ntmps76
    go_wp2_with fail
    refine (check_any hH.out hn).mono ?_
    rintro e w1 ⟨rfl, rfl⟩
    go_wp2_with fail
    go_ret2
    rw [hJ]
    exact ⟨⟨_, rfl, OwnT.nil _ _ _⟩, Below.refl _ _⟩
end Go.Proofs.Ytffdcfannnmjnaa
