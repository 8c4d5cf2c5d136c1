/- The document's words 22, Join 8. -/
import Derived.Test.YtojdjhicjhhblaaDoorJnA
namespace Go.Proofs.YtojdjhicjhhblaaDoor
open Go Go.RowKit
def badE (e : Ent) : Bool := e.words.isEmpty || e.words.any (fun w => !okw w)
def badL (L : List Ent) : Bool := L.any badE
def manyL (L : List Ent) : Bool := L.any (fun e => decide (64 < e.words.length))
def joinR (L : List Ent) : List UInt8 × Int := if badL L then ([], 230) else if manyL L then ([], 3) else (jtext L, 0)
structure Fits (L : List Ent) : Prop where
  n : L.length ≤ 16000
  ws : ∀ e ∈ L, e.words.length ≤ 16000
  txt : ∀ e ∈ L, ∀ w ∈ e.words, w.1.length ≤ 16000
  all : (jtext L).length ≤ 40000
theorem at_drop {α : Type} {L : List α} {k : Nat} {x : α} (h : L[k]? = some x) : L.drop k = x :: L.drop (k + 1) := by
  have hk : k < L.length := by
    rcases Nat.lt_or_ge k L.length with h2 | h2
    · exact h2
    · rw [List.getElem?_eq_none h2] at h; cases h
  rw [List.getElem?_eq_getElem hk] at h
  rw [List.drop_eq_getElem_cons hk, Option.some.inj h]
theorem at_take {α : Type} {L : List α} {k : Nat} {x : α} (h : L[k]? = some x) : L.take (k + 1) = L.take k ++ [x] := by
  have hk : k < L.length := by
    rcases Nat.lt_or_ge k L.length with h2 | h2
    · exact h2
    · rw [List.getElem?_eq_none h2] at h; cases h
  rw [List.getElem?_eq_getElem hk] at h
  rw [List.take_succ_eq_append_getElem hk, Option.some.inj h]
theorem at_ex {α : Type} {L : List α} {k : Nat} (hk : k < L.length) : ∃ x, L[k]? = some x ∧ x ∈ L := ⟨L[k], List.getElem?_eq_getElem hk, List.getElem_mem hk⟩
theorem badL_at {L : List Ent} {k : Nat} {e : Ent} (h : L[k]? = some e) : badL (L.drop k) = (badE e || badL (L.drop (k + 1))) := by rw [at_drop h]; rfl
theorem wtext_app (a : List Trm) (x : Trm) : wtext (a ++ [x]) = if a.isEmpty then shownL x else wtext a ++ 32 :: shownL x := by
  induction a with
  | nil => simp [wtext]
  | cons y r ih =>
    show shownL y ++ (if (r ++ [x]).isEmpty then [] else 32 :: wtext (r ++ [x])) = _
    have e : (r ++ [x]).isEmpty = false := by cases r <;> rfl
    rw [e, ih]
    cases r with
    | nil => simp [wtext]
    | cons z r => simp [wtext]
theorem jtext_app (a : List Ent) (e : Ent) : jtext (a ++ [e]) = jtext a ++ etext e := by
  induction a with
  | nil => simp [jtext]
  | cons y r ih => show etext y ++ jtext (r ++ [e]) = _; rw [ih]; simp [jtext]
theorem wtext_take_le (L : List Trm) (k : Nat) : (wtext (L.take k)).length ≤ (wtext L).length := by
  induction L generalizing k with
  | nil => simp
  | cons e r ih =>
    cases k with
    | zero => simp [wtext]
    | succ k =>
      have := ih k
      simp only [List.take_succ_cons, wtext, List.length_append]
      cases hr : r.take k with
      | nil => simp
      | cons z t =>
        have hne : r.isEmpty = false := by cases r with | nil => simp at hr | cons => rfl
        rw [hr] at this
        simp only [hne, List.isEmpty_cons, Bool.false_eq_true, if_false, List.length_cons]
        omega
theorem jtext_take_le (L : List Ent) (k : Nat) : (jtext (L.take k)).length ≤ (jtext L).length := by
  induction L generalizing k with
  | nil => simp
  | cons e r ih =>
    cases k with
    | zero => simp [jtext]
    | succ k => simp only [List.take_succ_cons, jtext, List.length_append]; have := ih k; omega
end Go.Proofs.YtojdjhicjhhblaaDoor
