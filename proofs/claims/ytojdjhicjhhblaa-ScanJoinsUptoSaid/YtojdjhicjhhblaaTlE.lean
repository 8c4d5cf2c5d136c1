/- How much text entries hold. -/
import Derived.Test.YtojdjhicjhhblaaJnC
import Derived.Test.YtojdjhicjhhblaaJnD
import Derived.Test.YtojdjhicjhhblaaOpenE
namespace Go.Proofs.Ytojdjhicjhhblaa
open Go Go.RowKit
def tw : List Trm → Nat
  | [] => 0
  | w :: r => w.1.length + tw r
def tlen : List Ent → Nat
  | [] => 0
  | e :: r => tw e.words + tlen r
theorem tw_app (a b : List Trm) : tw (a ++ b) = tw a + tw b := by
  induction a with
  | nil => simp [tw]
  | cons x r ih => simp only [List.cons_append, tw, ih]; omega
theorem tlen_app (a b : List Ent) : tlen (a ++ b) = tlen a + tlen b := by
  induction a with
  | nil => simp [tlen]
  | cons x r ih => simp only [List.cons_append, tlen, ih]; omega
theorem tw_wsum (l : List Trm) : tw l + l.length = wsum l := by
  induction l with
  | nil => rfl
  | cons x r ih => simp only [tw, wsum, List.length_cons, List.map_cons, List.sum_cons] at ih ⊢; omega
theorem wsum_mem {L : List Ent} {e : Ent} (h : e ∈ L) : wsum e.words + 1 ≤ esum L := by
  induction L with
  | nil => cases h
  | cons x r ih =>
    simp only [esum, List.map_cons, List.sum_cons] at ih ⊢
    rcases List.mem_cons.1 h with rfl | h
    · omega
    · have := ih h; omega
theorem tlen_esum (L : List Ent) : tlen L + L.length ≤ esum L := by
  induction L with
  | nil => exact Nat.le_refl _
  | cons x r ih =>
    have := tw_wsum x.words
    simp only [tlen, esum, List.length_cons, List.map_cons, List.sum_cons] at ih ⊢
    omega
theorem tlen_take (L : List Ent) (k : Nat) : tlen (L.take k) ≤ tlen L := by
  have h := tlen_app (L.take k) (L.drop k)
  rw [List.take_append_drop] at h
  omega
theorem tw_take (L : List Trm) (k : Nat) : tw (L.take k) ≤ tw L := by
  have h := tw_app (L.take k) (L.drop k)
  rw [List.take_append_drop] at h
  omega
theorem tw_mem {l : List Trm} {x : Trm} (h : x ∈ l) : x.1.length ≤ tw l := by
  induction l with
  | nil => cases h
  | cons y r ih =>
    simp only [tw]
    rcases List.mem_cons.1 h with rfl | h
    · omega
    · have := ih h; omega
theorem tlen_mem {L : List Ent} {e : Ent} (h : e ∈ L) : tw e.words ≤ tlen L := by
  induction L with
  | nil => cases h
  | cons y r ih =>
    simp only [tlen]
    rcases List.mem_cons.1 h with rfl | h
    · omega
    · have := ih h; omega
theorem shownL_len (w : Trm) : (shownL w).length ≤ w.1.length + 2 := by
  obtain ⟨t, q⟩ := w
  cases q <;> simp [shownL]
theorem wtext_len (l : List Trm) : (wtext l).length ≤ tw l + 3 * l.length := by
  induction l with
  | nil => simp [wtext]
  | cons x r ih =>
    have := shownL_len x
    simp only [wtext, tw, List.length_append, List.length_cons]
    cases hr : r.isEmpty with
    | true => simp; omega
    | false => simp only [Bool.false_eq_true, if_false, List.length_cons]; omega
theorem jtext_len {L : List Ent} {m : Nat} (h : ∀ e ∈ L, e.words.length ≤ m) : (jtext L).length ≤ tlen L + L.length * (3 * m + 2) := by
  induction L with
  | nil => simp [jtext]
  | cons e r ih =>
    have h1 := wtext_len e.words
    have h2 := h e (by simp)
    have h3 := ih (fun x hx => h x (List.mem_cons_of_mem _ hx))
    have h4 : (ltext e).length ≤ 1 + (wtext e.words).length := by unfold ltext; cases e.blank <;> simp; omega
    simp only [jtext, etext, tlen, List.length_append, List.length_cons, List.length_nil]
    rw [Nat.add_mul]
    omega
theorem fits_of {L : List Ent} {n m t : Nat} (h1 : L.length ≤ n) (h2 : ∀ e ∈ L, e.words.length ≤ m) (h3 : tlen L ≤ t) (hn : n ≤ 16000) (hm : m ≤ 16000) (ht : t ≤ 16000) (hall : t + n * (3 * m + 2) ≤ 40000) : Fits L := by
  refine ⟨by omega, fun e he => Nat.le_trans (h2 e he) hm, fun e he w hw => ?_, ?_⟩
  · have := tw_mem hw
    have := tlen_mem he
    omega
  · have h4 := jtext_len h2
    have h5 : L.length * (3 * m + 2) ≤ n * (3 * m + 2) := Nat.mul_le_mul_right _ h1
    omega
theorem bad_at {L : List Ent} {i m : Nat} {e : Ent} (h : L[i]? = some e) (hb : ¬ e.words.length ≤ m) : ¬ ∀ e ∈ L, e.words.length ≤ m := fun hh => hb (hh e (by
  obtain ⟨hi, rfl⟩ := List.getElem?_eq_some_iff.1 h
  exact List.getElem_mem hi))
end Go.Proofs.Ytojdjhicjhhblaa
