/- Frames of messages, cut anywhere (plain). -/
import Derived.Test.YtmimbfikjnfhdaaStF
namespace Go.Proofs.Ytmimbfikjnfhdaa
open Go.RowKit
theorem frames_split (n : Nat) : ∀ (x y r : List UInt8) (O : List (List UInt8)), x.length ≤ n → frames x = (O, r, false) → frames (x ++ y) = (O ++ (frames (r ++ y)).1, (frames (r ++ y)).2) := by
  induction n with
  | zero =>
    intro x y r O hx h
    have : x = [] := List.length_eq_zero_iff.1 (by omega)
    subst this
    rw [frames_nil] at h
    cases h
    simp
  | succ n ih =>
    intro x y r O hx h
    by_cases h2 : 2 ≤ x.length
    · by_cases h12 : numL (x.take 2) < 12
      · rw [frames_bad h2 h12] at h; cases h
      · by_cases hw : x.length < 2 + numL (x.take 2)
        · rw [frames_wait h2 (by omega) hw] at h
          cases h
          simp
        · rw [frames_one h2 (by omega) (by omega)] at h
          have e0 : (x ++ y).take 2 = x.take 2 := List.take_append_of_le_length h2
          rw [frames_one (l := x ++ y) (by rw [List.length_append]; omega) (by rw [e0]; omega) (by rw [e0, List.length_append]; omega), e0]
          have e1 : (x ++ y).drop (2 + numL (x.take 2)) = x.drop (2 + numL (x.take 2)) ++ y := List.drop_append_of_le_length (by omega)
          have e2 : ((x ++ y).drop 2).take (numL (x.take 2)) = (x.drop 2).take (numL (x.take 2)) := by
            rw [List.drop_append_of_le_length h2, List.take_append_of_le_length (by rw [List.length_drop]; omega)]
          rw [e1, e2]
          generalize numL (x.take 2) = N at *
          obtain ⟨O', r', b', hF⟩ : ∃ O' r' b', frames (x.drop (2 + N)) = (O', r', b') := ⟨_, _, _, rfl⟩
          rw [hF] at h
          simp only [Prod.mk.injEq] at h
          obtain ⟨rfl, rfl, rfl⟩ := h
          rw [ih _ y _ _ (by rw [List.length_drop]; omega) hF]
          rfl
    · rw [frames_few (by omega)] at h
      cases h
      simp
def fl (M : List (List UInt8)) : List UInt8 := (M.map frm).flatten
def good (M : List (List UInt8)) : Prop := ∀ m ∈ M, 12 ≤ m.length ∧ m.length ≤ 300
theorem fl_cons (m : List UInt8) (M : List (List UInt8)) : fl (m :: M) = frm m ++ fl M := by simp [fl]
theorem fl_snoc (M : List (List UInt8)) (m : List UInt8) : fl (M ++ [m]) = fl M ++ frm m := by simp [fl]
theorem good_snoc {M : List (List UInt8)} {m : List UInt8} (h : good M) (h1 : 12 ≤ m.length) (h2 : m.length ≤ 300) : good (M ++ [m]) := by
  intro x hx
  rcases List.mem_append.1 hx with hx | hx
  · exact h x hx
  · simp at hx; subst hx; exact ⟨h1, h2⟩
theorem fl_len {M : List (List UInt8)} (h : good M) : (fl M).length ≤ 302 * M.length := by
  induction M with
  | nil => simp [fl]
  | cons m M ih =>
    have := ih fun x hx => h x (List.mem_cons_of_mem _ hx)
    have := h m (List.mem_cons_self ..)
    rw [fl_cons, List.length_append, frm_len, List.length_cons]
    omega
theorem frames_fl {M : List (List UInt8)} (h : good M) : frames (fl M) = (M, [], false) := by
  induction M with
  | nil => exact frames_nil
  | cons m M ih =>
    have h1 := ih fun x hx => h x (List.mem_cons_of_mem _ hx)
    have h2 := h m (List.mem_cons_self ..)
    rw [fl_cons, frames_frm _ _ (by omega) (by omega), h1]
theorem frames_pre {M : List (List UInt8)} (h : good M) : ∀ t, ∃ O r, frames ((fl M).take t) = (O, r, false) ∧ r.length ≤ 301 := by
  induction M with
  | nil => intro t; exact ⟨[], [], by simp [fl, frames_nil], by simp⟩
  | cons m M ih =>
    intro t
    have h2 := h m (List.mem_cons_self ..)
    have hl := frm_len m
    by_cases ht : m.length + 2 ≤ t
    · obtain ⟨O, r, h3, h4⟩ := ih (fun x hx => h x (List.mem_cons_of_mem _ hx)) (t - (m.length + 2))
      refine ⟨m :: O, r, ?_, h4⟩
      rw [fl_cons, List.take_append, List.take_of_length_le (by omega), hl, frames_frm _ _ (by omega) (by omega), h3]
    · have hx : ((fl (m :: M)).take t) = (frm m).take t := by rw [fl_cons, List.take_append_of_le_length (by omega)]
      rw [hx]
      have hlt : ((frm m).take t).length = t := by rw [List.length_take]; omega
      refine ⟨[], (frm m).take t, ?_, by omega⟩
      by_cases h2t : 2 ≤ t
      · have hn : numL (((frm m).take t).take 2) = m.length := by
          rw [List.take_take, Nat.min_eq_left h2t]
          have := frm_num m [] (by omega)
          rwa [List.append_nil] at this
        exact frames_wait (by omega) (by omega) (by omega)
      · exact frames_few (by omega)
end Go.Proofs.Ytmimbfikjnfhdaa
