/- Heaps of timers, as lists. Nothing of the program. -/
import Derived.Test.YtckimjmidbdalaaLib
namespace Go.Proofs.Ytckimjmidbdalaa
set_option linter.unusedVariables false

structure Tm where
  at_ : Int
  turn : Int
  key : Int
def tz : Tm := ⟨0, 0, 0⟩
def Tm.lt (a b : Tm) : Bool := if a.at_ = b.at_ then decide (a.turn < b.turn) else decide (a.at_ < b.at_)
theorem lt_iff (a b : Tm) : a.lt b = true ↔ a.at_ < b.at_ ∨ a.at_ = b.at_ ∧ a.turn < b.turn := by
  unfold Tm.lt; by_cases h : a.at_ = b.at_ <;> simp [h]
theorem not_lt_iff (a b : Tm) : a.lt b = false ↔ b.at_ < a.at_ ∨ a.at_ = b.at_ ∧ b.turn ≤ a.turn := by
  unfold Tm.lt; by_cases h : a.at_ = b.at_ <;> simp [h] <;> omega
theorem lt_asymm {a b : Tm} (h : a.lt b = true) : b.lt a = false := by rw [not_lt_iff]; rw [lt_iff] at h; omega
theorem lt_irrefl (a : Tm) : a.lt a = false := by rw [not_lt_iff]; omega
theorem ge_trans {a b c : Tm} (h : a.lt b = false) (k : b.lt c = false) : a.lt c = false := by rw [not_lt_iff] at *; omega

def gt (l : List Tm) (i : Nat) : Tm := l.getD i tz
theorem gt_eq (l : List Tm) (i : Nat) (h : i < l.length) : gt l i = l[i] := by unfold gt; rw [List.getD_eq_getElem?_getD, List.getElem?_eq_getElem h]; rfl
def swapL (l : List Tm) (i j : Nat) : List Tm := (l.set i (gt l j)).set j (gt l i)
theorem swapL_length (l : List Tm) (i j : Nat) : (swapL l i j).length = l.length := by simp [swapL]
theorem swapL_i (l : List Tm) (i j : Nat) (hi : i < l.length) (_hj : j < l.length) : gt (swapL l i j) i = gt l j := by
  rw [gt_eq _ _ (by rw [swapL_length]; exact hi)]
  simp only [swapL, List.getElem_set]
  by_cases h : j = i
  · subst h; simp
  · simp [h]
theorem swapL_j (l : List Tm) (i j : Nat) (hj : j < l.length) : gt (swapL l i j) j = gt l i := by
  rw [gt_eq _ _ (by rw [swapL_length]; exact hj)]
  simp [swapL]
theorem swapL_o (l : List Tm) (i j k : Nat) (h1 : k ≠ i) (h2 : k ≠ j) : gt (swapL l i j) k = gt l k := by
  unfold gt swapL
  simp [List.getD_eq_getElem?_getD, Ne.symm h1, Ne.symm h2]
theorem swapL_perm (l : List Tm) (i j : Nat) (hi : i < l.length) (hj : j < l.length) : (swapL l i j).Perm l := by
  have h := Array.swap_perm (xs := l.toArray) (i := i) (j := j) (by simpa using hi) (by simpa using hj)
  have h2 := h.toList
  have e : (l.toArray.swap i j (by simpa using hi) (by simpa using hj)).toList = swapL l i j := by
    simp [swapL, gt_eq, hi, hj]
  rw [e] at h2
  simpa using h2

/-- the parent's place -/
def par (k : Nat) : Nat := (k - 1) / 2
def upL (l : List Tm) (j : Nat) : List Tm :=
  if h : j = 0 then l else if (gt l j).lt (gt l (par j)) then upL (swapL l (par j) j) (par j) else l
termination_by j
decreasing_by unfold par; omega
def least (l : List Tm) (i n : Nat) : Nat := if 2 * i + 2 < n ∧ (gt l (2 * i + 2)).lt (gt l (2 * i + 1)) = true then 2 * i + 2 else 2 * i + 1
theorem least_lt (l : List Tm) (i n : Nat) (h : 2 * i + 1 < n) : least l i n < n ∧ i < least l i n := by
  unfold least; split <;> omega
theorem least_par (l : List Tm) (i n : Nat) : par (least l i n) = i ∧ 0 < least l i n := by
  unfold least par; split <;> omega
def downL (l : List Tm) (i n : Nat) : List Tm :=
  if h : n ≤ 2 * i + 1 then l else if (gt l (least l i n)).lt (gt l i) then downL (swapL l i (least l i n)) (least l i n) n else l
termination_by n - i
decreasing_by have := least_lt l i n (by omega); omega

theorem upL_length (l : List Tm) (j : Nat) : (upL l j).length = l.length := by
  induction l, j using upL.induct with
  | case1 l => unfold upL; simp
  | case2 l j h hlt ih => unfold upL; simp only [h, dif_neg, hlt, if_true, not_false_eq_true]; rw [ih, swapL_length]
  | case3 l j h hlt => unfold upL; simp [h, hlt]
theorem downL_length (l : List Tm) (i n : Nat) : (downL l i n).length = l.length := by
  induction l, i using downL.induct n with
  | case1 l i h => unfold downL; simp [h]
  | case2 l i h hlt ih => unfold downL; simp only [h, dif_neg, hlt, if_true, not_false_eq_true]; rw [ih, swapL_length]
  | case3 l i h hlt => unfold downL; simp [h, hlt]
theorem upL_perm (l : List Tm) (j : Nat) (hj : j < l.length) : (upL l j).Perm l := by
  induction l, j using upL.induct with
  | case1 l => unfold upL; simp
  | case2 l j h hlt ih =>
    unfold upL; simp only [h, dif_neg, hlt, if_true, not_false_eq_true]
    have hp : par j < l.length := by unfold par; omega
    exact (ih (by rw [swapL_length]; exact hp)).trans (swapL_perm l _ _ hp hj)
  | case3 l j h hlt => unfold upL; simp [h, hlt]
theorem downL_perm (l : List Tm) (i n : Nat) (hn : n ≤ l.length) : (downL l i n).Perm l := by
  induction l, i using downL.induct n with
  | case1 l i h => unfold downL; simp [h]
  | case2 l i h hlt ih =>
    unfold downL; simp only [h, dif_neg, hlt, if_true, not_false_eq_true]
    have h1 := least_lt l i n (by omega)
    exact (ih (by rw [swapL_length]; exact hn)).trans (swapL_perm l _ _ (by omega) (by omega))
  | case3 l i h hlt => unfold downL; simp [h, hlt]
/-- places from n on stay -/
theorem downL_out (l : List Tm) (i n k : Nat) (hi : i ≤ k) (hik : i < n ∨ i < k) (hk : n ≤ k) : gt (downL l i n) k = gt l k := by
  induction l, i using downL.induct n with
  | case1 l i h => unfold downL; simp [h]
  | case2 l i h hlt ih =>
    unfold downL; simp only [h, dif_neg, hlt, if_true, not_false_eq_true]
    have h1 := least_lt l i n (by omega)
    rw [ih (by omega) (by omega), swapL_o _ _ _ _ (by omega) (by omega)]
  | case3 l i h hlt => unfold downL; simp [h, hlt]

/-- no child is less than its parent -/
def Heap (l : List Tm) : Prop := ∀ k, 0 < k → k < l.length → (gt l k).lt (gt l (par k)) = false
def UpInv (l : List Tm) (j : Nat) : Prop :=
  (∀ k, 0 < k → k < l.length → k ≠ j → (gt l k).lt (gt l (par k)) = false) ∧ (0 < j → ∀ k, 0 < k → k < l.length → par k = j → (gt l k).lt (gt l (par j)) = false)
theorem par_lt (k : Nat) (h : 0 < k) : par k < k := by unfold par; omega
theorem upL_heap (l : List Tm) (j : Nat) (hj : j < l.length) (h : UpInv l j) : Heap (upL l j) := by
  induction l, j using upL.induct with
  | case1 l => unfold upL; simp only [dif_pos]; exact fun k h0 hk => h.1 k h0 hk (by omega)
  | case2 l j h0 hlt ih =>
    unfold upL; simp only [h0, dif_neg, hlt, if_true, not_false_eq_true]
    have hp := par_lt j (by omega)
    have hpl : par j < l.length := by omega
    refine ih (by rw [swapL_length]; exact hpl) ⟨fun k k0 hk hne => ?_, fun p0 k k0 hk hpk => ?_⟩
    · rw [swapL_length] at hk
      by_cases e : k = j
      · subst e
        rw [swapL_j _ _ _ hj, swapL_i _ _ _ hpl hj]
        exact lt_asymm hlt
      · rw [swapL_o _ _ _ _ hne e]
        by_cases e2 : par k = par j
        · rw [e2, swapL_i _ _ _ hpl hj]
          have := h.1 k k0 hk e
          rw [e2] at this
          exact ge_trans this (lt_asymm hlt)
        · by_cases e3 : par k = j
          · rw [e3, swapL_j _ _ _ hj]; exact h.2 (by omega) k k0 hk e3
          · rw [swapL_o _ _ _ _ e2 e3]; exact h.1 k k0 hk e
    · rw [swapL_length] at hk
      have hpp := par_lt (par j) p0
      rw [swapL_o _ _ _ (par (par j)) (by omega) (by omega)]
      have hq := h.1 (par j) p0 hpl (by omega)
      by_cases e : k = j
      · subst e; rw [swapL_j _ _ _ hj]; exact hq
      · have := par_lt k k0
        rw [swapL_o _ _ _ _ (by omega) e]
        have h2 := h.1 k k0 hk e
        rw [hpk] at h2
        exact ge_trans h2 hq
  | case3 l j h0 hlt =>
    unfold upL; simp only [h0, dif_neg, hlt, not_false_eq_true, if_false, Bool.false_eq_true]
    intro k k0 hk
    by_cases e : k = j
    · subst e; simpa using hlt
    · exact h.1 k k0 hk e
def DownInv (l : List Tm) (m i n : Nat) : Prop :=
  (∀ k, 0 < k → k < n → m ≤ par k → par k ≠ i → (gt l k).lt (gt l (par k)) = false) ∧ (0 < i → m ≤ par i → ∀ k, 0 < k → k < n → par k = i → (gt l k).lt (gt l (par i)) = false)
theorem least_least (l : List Tm) (i n k : Nat) (k0 : 0 < k) (hk : k < n) (hp : par k = i) : (gt l k).lt (gt l (least l i n)) = false := by
  unfold least
  have hk2 : k = 2 * i + 1 ∨ k = 2 * i + 2 := by unfold par at hp; omega
  split
  · rename_i h
    rcases hk2 with rfl | rfl
    · exact lt_asymm h.2
    · exact lt_irrefl _
  · rename_i h
    rcases hk2 with rfl | rfl
    · exact lt_irrefl _
    · cases hc : (gt l (2 * i + 2)).lt (gt l (2 * i + 1)) with
      | false => rfl
      | true => exact absurd ⟨hk, hc⟩ h
theorem downL_heap (l : List Tm) (m i n : Nat) (hn : n ≤ l.length) (hmi : m ≤ i) (h : DownInv l m i n) : ∀ k, 0 < k → k < n → m ≤ par k → (gt (downL l i n) k).lt (gt (downL l i n) (par k)) = false := by
  induction l, i using downL.induct n with
  | case1 l i hi =>
    unfold downL; simp only [hi, dif_pos]
    intro k k0 hk hm
    exact h.1 k k0 hk hm (by unfold par; omega)
  | case2 l i hi hlt ih =>
    unfold downL; simp only [hi, dif_neg, hlt, if_true, not_false_eq_true]
    have h1 := least_lt l i n (by omega)
    have h2 := least_par l i n
    generalize hj : least l i n = j at *
    refine ih (by rw [swapL_length]; exact hn) (by omega) ⟨fun k k0 hk hm hne => ?_, fun j0 hmj k k0 hk hpk => ?_⟩
    · by_cases e1 : k = i
      · subst e1
        have := par_lt k k0
        rw [swapL_i _ _ _ (by omega) (by omega), swapL_o _ _ _ (par k) (by omega) (by omega)]
        exact h.2 k0 hm j h2.2 h1.1 h2.1
      · by_cases e2 : k = j
        · subst e2
          rw [h2.1, swapL_j _ _ _ (by omega), swapL_i _ _ _ (by omega) (by omega)]
          exact lt_asymm hlt
        · rw [swapL_o _ _ _ k e1 e2]
          by_cases e3 : par k = i
          · rw [e3, swapL_i _ _ _ (by omega) (by omega), ← hj]
            exact least_least l i n k k0 hk e3
          · rw [swapL_o _ _ _ (par k) e3 hne]
            exact h.1 k k0 hk hm e3
    · have := par_lt k k0
      rw [h2.1, swapL_i _ _ _ (by omega) (by omega), swapL_o _ _ _ k (by omega) (by omega)]
      have := h.1 k k0 hk (by omega) (by omega)
      rw [hpk] at this; exact this
  | case3 l i hi hlt =>
    unfold downL; simp only [hi, dif_neg, hlt, not_false_eq_true, if_false, Bool.false_eq_true]
    intro k k0 hk hm
    by_cases e : par k = i
    · rw [e]
      exact ge_trans (least_least l i n k k0 hk e) (by simpa using hlt)
    · exact h.1 k k0 hk hm e

theorem heap_root (l : List Tm) (h : Heap l) : ∀ k, k < l.length → (gt l k).lt (gt l 0) = false := by
  intro k
  induction k using Nat.strongRecOn with
  | _ k ih =>
    intro hk
    by_cases k0 : k = 0
    · subst k0; exact lt_irrefl _
    · have hp := par_lt k (by omega)
      exact ge_trans (h k (by omega) hk) (ih _ hp (by omega))
theorem heap_root_mem (l : List Tm) (h : Heap l) (x : Tm) (hx : x ∈ l) : x.lt (gt l 0) = false := by
  obtain ⟨k, hk, rfl⟩ := List.getElem_of_mem hx
  rw [← gt_eq l k hk]; exact heap_root l h k hk

/-- what stands behind an Add -/
def pushL (l : List Tm) (x : Tm) : List Tm := upL (l ++ [x]) l.length
theorem gt_append_left (l r : List Tm) (k : Nat) (h : k < l.length) : gt (l ++ r) k = gt l k := by
  rw [gt_eq _ _ (by simp; omega), gt_eq _ _ h, List.getElem_append_left h]
theorem pushL_heap (l : List Tm) (x : Tm) (h : Heap l) : Heap (pushL l x) := by
  refine upL_heap _ _ (by simp) ⟨fun k k0 hk hne => ?_, fun j0 k k0 hk hp => ?_⟩
  · simp at hk
    have := par_lt k k0
    rw [gt_append_left _ _ _ (by omega), gt_append_left _ _ _ (by omega)]
    exact h k k0 (by omega)
  · simp at hk
    have := par_lt k k0
    omega
theorem pushL_perm (l : List Tm) (x : Tm) : (pushL l x).Perm (l ++ [x]) := upL_perm _ _ (by simp)
theorem pushL_length (l : List Tm) (x : Tm) : (pushL l x).length = l.length + 1 := by simp [pushL, upL_length]

/-- what stands behind a Pop, the last one being what is taken -/
def popA (l : List Tm) : List Tm := downL (swapL l 0 (l.length - 1)) 0 (l.length - 1)
def popL (l : List Tm) : List Tm := (popA l).take (l.length - 1)
theorem popA_length (l : List Tm) : (popA l).length = l.length := by simp [popA, downL_length, swapL_length]
theorem popA_last (l : List Tm) (h : 0 < l.length) : gt (popA l) (l.length - 1) = gt l 0 := by
  unfold popA
  by_cases h1 : l.length = 1
  · rw [h1]
    unfold downL
    simp only [Nat.zero_le, dif_pos, Nat.sub_self]
    rw [swapL_j _ _ _ (by omega)]
  · rw [downL_out _ _ _ _ (by omega) (by omega) (Nat.le_refl _), swapL_j _ _ _ (by omega)]
theorem popL_length (l : List Tm) : (popL l).length = l.length - 1 := by simp [popL, popA_length]
theorem popL_perm (l : List Tm) (h : 0 < l.length) : (gt l 0 :: popL l).Perm l := by
  have h1 : (popA l).Perm l := (downL_perm _ _ _ (by rw [swapL_length]; omega)).trans (swapL_perm l _ _ h (by omega))
  have e : popA l = popL l ++ [gt l 0] := by
    unfold popL
    have hl := popA_length l
    have h2 := popA_last l h
    rw [gt_eq _ _ (by omega)] at h2
    rw [← h2, ← List.take_succ_eq_append_getElem (by omega), List.take_of_length_le (by omega)]
  rw [e] at h1
  exact (List.perm_append_singleton _ _).symm.trans h1
theorem gt_take (l : List Tm) (n k : Nat) (h : k < n) (hl : k < l.length) : gt (l.take n) k = gt l k := by
  rw [gt_eq _ _ (by simp; omega), gt_eq _ _ hl, List.getElem_take]
theorem popL_heap (l : List Tm) (h : Heap l) : Heap (popL l) := by
  intro k k0 hk
  rw [popL_length] at hk
  have hp := par_lt k k0
  unfold popL
  rw [gt_take _ _ _ hk (by rw [popA_length]; omega), gt_take _ _ _ (by omega) (by rw [popA_length]; omega)]
  refine downL_heap _ 0 0 _ (by rw [swapL_length]; omega) (Nat.le_refl _) ⟨fun k k0 hk _ hne => ?_, fun h0 => by omega⟩ k k0 hk (Nat.zero_le _)
  have hp := par_lt k k0
  rw [swapL_o _ _ _ _ (by omega) (by omega), swapL_o _ _ _ _ (by omega) (by omega)]
  exact h k k0 (by omega)

/-- what Init makes of a list: i rounds are left -/
def initL : Nat → List Tm → List Tm
  | 0, l => l
  | i + 1, l => initL i (downL l i l.length)
theorem initL_length : ∀ (i : Nat) (l : List Tm), (initL i l).length = l.length
  | 0, _ => rfl
  | i + 1, l => by rw [initL, initL_length, downL_length]
theorem initL_perm : ∀ (i : Nat) (l : List Tm), (initL i l).Perm l
  | 0, _ => .refl _
  | i + 1, l => (initL_perm i _).trans (downL_perm l i _ (Nat.le_refl _))
theorem initL_heap : ∀ (i : Nat) (l : List Tm), (∀ k, 0 < k → k < l.length → i ≤ par k → (gt l k).lt (gt l (par k)) = false) → Heap (initL i l)
  | 0, l, h => fun k k0 hk => h k k0 hk (Nat.zero_le _)
  | i + 1, l, h => by
    refine initL_heap i _ fun k k0 hk hm => ?_
    rw [downL_length] at hk
    refine downL_heap l i i _ (Nat.le_refl _) (Nat.le_refl _) ⟨fun k k0 hk hm hne => h k k0 hk (by omega), fun i0 hm => ?_⟩ k k0 hk hm
    have := par_lt i i0; omega
theorem initL_heap_all (l : List Tm) : Heap (initL (l.length / 2) l) := initL_heap _ l fun k k0 hk h => by unfold par at h; omega
end Go.Proofs.Ytckimjmidbdalaa
