/- Layer 3: how two names stand to one another: plain laws, no program in sight. -/
import Derived.Test.YtbpkhnnfdjihdaaLabel
namespace Go.Proofs.Ytbpkhnnfdjihdaa
open Go.RowKit
abbrev Nm := List (List UInt8)
/-- the folded labels, the last one first -/
def rv (a : Nm) : Nm := (a.map foldL).reverse
def cm : Nm → Nm → Nat
  | x :: xs, y :: ys => if x = y then cm xs ys + 1 else 0
  | [], _ => 0
  | _ :: _, [] => 0
def cR : Nm → Nm → Int
  | [], [] => 0
  | [], _ :: _ => -1
  | _ :: _, [] => 1
  | x :: xs, y :: ys => if x = y then cR xs ys else Lib.compareBytes x y
def comL (a b : Nm) : Nat := cm (rv a) (rv b)
def cmpL (a b : Nm) : Int := cR (rv a) (rv b)
theorem rv_length (a : Nm) : (rv a).length = a.length := by simp [rv]
theorem rv_get (a : Nm) (k : Nat) (h : k < a.length) : (rv a)[k]? = some (foldL (a[a.length - 1 - k]'(by omega))) := by
  unfold rv
  rw [List.getElem?_reverse (by simpa using h)]
  simp
  rw [List.getElem?_eq_getElem (by omega)]; exact ⟨_, rfl, rfl⟩
theorem cm_le : ∀ a b : Nm, cm a b ≤ a.length ∧ cm a b ≤ b.length
  | [], b => by simp [cm]
  | _ :: _, [] => by simp [cm]
  | x :: xs, y :: ys => by
    have := cm_le xs ys
    unfold cm; split <;> simp <;> omega
theorem comL_le (a b : Nm) : comL a b ≤ a.length ∧ comL a b ≤ b.length := by
  have := cm_le (rv a) (rv b); simpa [comL, rv_length] using this
theorem cm_eq : ∀ (k : Nat) (a b : Nm), a.take k = b.take k → k ≤ a.length → k ≤ b.length → (k = a.length ∨ k = b.length ∨ a[k]? ≠ b[k]?) → cm a b = k
  | 0, [], b, _, _, _, _ => by simp [cm]
  | 0, _ :: _, [], _, _, _, _ => by simp [cm]
  | 0, x :: xs, y :: ys, _, _, _, h => by
    simp at h
    simp [cm, h]
  | k + 1, [], _, _, h, _, _ => by simp at h
  | k + 1, _ :: _, [], _, _, h, _ => by simp at h
  | k + 1, x :: xs, y :: ys, h, h1, h2, h3 => by
    simp at h h1 h2 h3
    obtain ⟨rfl, h⟩ := h
    have := cm_eq k xs ys h h1 h2 h3
    simp [cm, this]
theorem comL_eq (a b : Nm) (k : Nat) (h : (rv a).take k = (rv b).take k) (h1 : k ≤ a.length) (h2 : k ≤ b.length) (h3 : k = a.length ∨ k = b.length ∨ (rv a)[k]? ≠ (rv b)[k]?) : comL a b = k :=
  cm_eq k _ _ h (by rw [rv_length]; exact h1) (by rw [rv_length]; exact h2) (by rw [rv_length, rv_length]; exact h3)
theorem rv_step (a b : Nm) (k : Nat) (h : (rv a).take k = (rv b).take k) (h3 : (rv a)[k]? = (rv b)[k]?) : (rv a).take (k + 1) = (rv b).take (k + 1) := by
  rw [List.take_add_one, List.take_add_one, h, h3]
theorem cm_self_cR : ∀ a b : Nm, cR a b = if cm a b = a.length ∧ cm a b = b.length then 0 else if cm a b = a.length then -1 else if cm a b = b.length then 1 else Lib.compareBytes ((a[cm a b]?).getD []) ((b[cm a b]?).getD [])
  | [], [] => by simp [cR, cm]
  | [], _ :: _ => by simp [cR, cm]
  | _ :: _, [] => by simp [cR, cm]
  | x :: xs, y :: ys => by
    have := cm_self_cR xs ys
    by_cases h : x = y
    · subst h; simp [cR, cm, this]
    · simp [cR, cm, h]
theorem cmpL_eq (a b : Nm) : cmpL a b = if comL a b = a.length ∧ comL a b = b.length then 0 else if comL a b = a.length then -1 else if comL a b = b.length then 1 else Lib.compareBytes (((rv a)[comL a b]?).getD []) (((rv b)[comL a b]?).getD []) := by
  have := cm_self_cR (rv a) (rv b)
  rw [rv_length, rv_length] at this; exact this
theorem cR_range : ∀ a b : Nm, cR a b = -1 ∨ cR a b = 0 ∨ cR a b = 1
  | [], [] => by simp [cR]
  | [], _ :: _ => by simp [cR]
  | _ :: _, [] => by simp [cR]
  | x :: xs, y :: ys => by
    unfold cR; split
    · exact cR_range xs ys
    · exact cmp_range x y
theorem cR_anti : ∀ a b : Nm, cR a b = - cR b a
  | [], [] => rfl
  | [], _ :: _ => rfl
  | _ :: _, [] => rfl
  | x :: xs, y :: ys => by
    unfold cR
    by_cases h : x = y
    · subst h; simp; exact cR_anti xs ys
    · rw [if_neg h, if_neg (Ne.symm h)]; exact cmp_anti x y
theorem cR_zero : ∀ a b : Nm, cR a b = 0 ↔ a = b
  | [], [] => by simp [cR]
  | [], _ :: _ => by simp [cR]
  | _ :: _, [] => by simp [cR]
  | x :: xs, y :: ys => by
    unfold cR
    by_cases h : x = y
    · subst h; simp; exact cR_zero xs ys
    · rw [if_neg h, cmp_zero]; simp [h]
theorem cR_trans : ∀ a b c : Nm, cR a b ≤ 0 → cR b c ≤ 0 → cR a c ≤ 0
  | [], _, [] => by simp [cR]
  | [], _, _ :: _ => by simp [cR]
  | _ :: _, [], _ => by simp [cR]
  | _ :: _, _ :: _, [] => by simp [cR]
  | x :: xs, y :: ys, z :: zs => by
    intro h1 h2
    unfold cR at h1 h2 ⊢
    by_cases hxy : x = y
    · subst hxy
      simp at h1
      by_cases hxz : x = z
      · subst hxz; simp at h2 ⊢; exact cR_trans xs ys zs h1 h2
      · rw [if_neg hxz] at h2 ⊢; exact h2
    · rw [if_neg hxy] at h1
      by_cases hyz : y = z
      · subst hyz; rw [if_neg hxy]; exact h1
      · rw [if_neg hyz] at h2
        by_cases hxz : x = z
        · subst hxz
          exfalso
          have a1 := cmp_anti x y
          have z1 : Lib.compareBytes x y ≠ 0 := fun e => hxy ((cmp_zero _ _).1 e)
          omega
        · rw [if_neg hxz]; exact cmp_trans _ _ _ h1 h2
/-- a name that is the end of another one stands ahead of it -/
theorem cR_pre : ∀ a b : Nm, cm b a = a.length → cR a b ≤ 0
  | [], [] => by simp [cR]
  | [], _ :: _ => by simp [cR]
  | _ :: _, [] => by simp [cm]
  | x :: xs, y :: ys => by
    intro h
    unfold cm at h
    by_cases e : y = x
    · subst e; simp at h; simp [cR]; exact cR_pre xs ys h
    · simp [e] at h
theorem cR_mid : ∀ a b c : Nm, cR a b ≤ 0 → cR b c ≤ 0 → cm c a = a.length → cm b a = a.length
  | [], [], _ => by simp [cm]
  | [], _ :: _, _ => by simp [cm]
  | _ :: _, [], _ => by simp [cR]
  | _ :: _, _ :: _, [] => by simp [cm]
  | x :: xs, y :: ys, z :: zs => by
    intro h1 h2 h3
    unfold cm at h3
    by_cases e : z = x
    · subst e
      simp at h3
      unfold cR at h1 h2
      by_cases e2 : z = y
      · subst e2
        simp at h1 h2
        have := cR_mid xs ys zs h1 h2 h3
        simp [cm, this]
      · exfalso
        rw [if_neg e2] at h1; rw [if_neg (Ne.symm e2)] at h2
        have a1 := cmp_anti z y
        have z1 : Lib.compareBytes z y ≠ 0 := fun e => e2 ((cmp_zero _ _).1 e)
        omega
    · simp [e] at h3
theorem cm_same : ∀ a b : Nm, (a.length = b.length ∧ cm a b = a.length) ↔ a = b
  | [], [] => by simp [cm]
  | [], _ :: _ => by simp
  | _ :: _, [] => by simp
  | x :: xs, y :: ys => by
    have := cm_same xs ys
    by_cases h : x = y
    · subst h; simp [cm, ← this]
    · simp [cm, h]
def sameL (a b : Nm) : Bool := decide (a.length = b.length) && decide (comL a b = a.length)
def underL (a b : Nm) : Bool := decide (comL a b = b.length)
theorem sameL_iff (a b : Nm) : sameL a b = true ↔ cmpL a b = 0 := by
  have h := cm_same (rv a) (rv b)
  have h2 := cR_zero (rv a) (rv b)
  rw [rv_length, rv_length] at h
  simp only [sameL, Bool.and_eq_true, decide_eq_true_eq, cmpL, h2, ← h]; rfl
theorem order_law (a b c : Nm) : cmpL a b = - cmpL b a ∧ (decide (cmpL a b = 0) = sameL a b) ∧ (cmpL a b ≤ 0 → cmpL b c ≤ 0 → cmpL a c ≤ 0) ∧ (underL b a = true → cmpL a b ≤ 0) ∧ (underL b a = decide (comL b a = a.length)) ∧
    (cmpL a b ≤ 0 → cmpL b c ≤ 0 → underL c a = true → underL b a = true) := by
  refine ⟨cR_anti _ _, ?_, cR_trans _ _ _, ?_, rfl, ?_⟩
  · have := sameL_iff a b
    rw [Bool.eq_iff_iff]; simp [this]
  · intro h; have : cm (rv b) (rv a) = (rv a).length := by rw [rv_length]; exact of_decide_eq_true h
    exact cR_pre _ _ this
  · intro h1 h2 h3
    have : cm (rv c) (rv a) = (rv a).length := by rw [rv_length]; exact of_decide_eq_true h3
    have := cR_mid _ _ _ h1 h2 this
    rw [rv_length] at this
    exact decide_eq_true this
end Go.Proofs.Ytbpkhnnfdjihdaa
