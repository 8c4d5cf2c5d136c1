/- Runes of a text and its bytes 10; nothing of the program. -/
import Derived.Lib.TrimU
import Derived.Lib.FieldsU
import Derived.Lib.IndexAny
import Derived.Test.YtojdjhicjhhblaaDoorLib
namespace Go.Proofs.YtojdjhicjhhblaaDoor
open Go Go.RowKit
/-- a rune that is not 10 covers no byte 10 -/
theorem decN_no (n b0 b1 b2 b3 : Nat) (h : ¬ (Lib.decodeN n b0 b1 b2 b3).1 = 10) : ¬ b0 = 10 ∧ (1 < (Lib.decodeN n b0 b1 b2 b3).2 → ¬ b1 = 10) ∧ (2 < (Lib.decodeN n b0 b1 b2 b3).2 → ¬ b2 = 10) ∧ (3 < (Lib.decodeN n b0 b1 b2 b3).2 → ¬ b3 = 10) := by
  revert h
  unfold Lib.decodeN
  repeat' split
  all_goals (intro h; simp only at h; refine ⟨?_, ?_, ?_, ?_⟩ <;> (try intro h2) <;> omega)
theorem decN_le4 (n b0 b1 b2 b3 : Nat) : (Lib.decodeN n b0 b1 b2 b3).2 ≤ 4 := by
  unfold Lib.decodeN
  repeat' split
  all_goals simp
theorem get_mk (s : List UInt8) (j : Nat) (h : j < s.length) : (mk s).get! j = s[j] := by
  show (mk s).data[j]! = s[j]
  rw [getElem!_pos _ _ (by show j < s.toArray.size; simpa using h)]
  show s.toArray[j] = s[j]
  simp
/-- none of the first i bytes is a byte 10 -/
def No10 (s : List UInt8) (i : Nat) : Prop := ∀ (j : Nat) b, j < i → s[j]? = some b → ¬ b = 10
theorem No10.step {s : List UInt8} {i : Nat} (h : No10 s i) (hr : ¬ (Utf8.decode (mk s) i).1 = 10) : No10 s (i + (Utf8.decode (mk s) i).2) := by
  intro j b hj hb hb10
  subst hb10
  by_cases hji : j < i
  · exact h j 10 hji hb rfl
  have hlt : j < s.length := by
    rcases Nat.lt_or_ge j s.length with h2 | h2
    · exact h2
    · rw [List.getElem?_eq_none h2] at hb; cases hb
  have hv : ((mk s).get! j).toNat = 10 := by
    rw [get_mk s j hlt]
    rw [List.getElem?_eq_getElem hlt] at hb
    rw [Option.some.inj hb]; rfl
  rw [Lib.decode_at] at hr hj
  have h4 := decN_le4 ((mk s).size - i) ((mk s).get! i).toNat ((mk s).get! (i + 1)).toNat ((mk s).get! (i + 2)).toNat ((mk s).get! (i + 3)).toNat
  obtain ⟨a0, a1, a2, a3⟩ := decN_no _ _ _ _ _ hr
  obtain e | e | e | e : j = i ∨ j = i + 1 ∨ j = i + 2 ∨ j = i + 3 := by omega
  · subst e; exact a0 hv
  · subst e; exact a1 (by omega) hv
  · subst e; exact a2 (by omega) hv
  · subst e; exact a3 (by omega) hv
theorem No10.all {s : List UInt8} {i : Nat} (h : No10 s i) (hi : s.length ≤ i) : ∀ b ∈ s, ¬ b = 10 := by
  intro b hb
  obtain ⟨j, hj, rfl⟩ := List.getElem_of_mem hb
  exact h j _ (by omega) (List.getElem?_eq_getElem hj)
theorem dec_bounds (s : List UInt8) (i : Nat) (h : i < s.length) : 1 ≤ (Utf8.decode (mk s) i).2 ∧ i + (Utf8.decode (mk s) i).2 ≤ s.length ∧ (Utf8.decode (mk s) i).1 ≤ 1114111 := by
  have h1 := Lib.width_pos (mk s) i
  have h2 := Lib.decodeN_le_n' ((mk s).size - i) ((mk s).get! i).toNat ((mk s).get! (i + 1)).toNat ((mk s).get! (i + 2)).toNat ((mk s).get! (i + 3)).toNat (by show 1 ≤ s.length - i; omega)
  rw [← Lib.decode_at] at h2
  have h3 : (mk s).size = s.length := size_mk s
  exact ⟨h1, by omega, Lib.rune_le (mk s) i⟩
theorem ia_no : ∀ (s : List UInt8), Lib.indexAny s [10, 34, 92] < 0 → ∀ b ∈ s, ¬ b = 10
  | [], _, b, hb => by simp at hb
  | x :: r, h, b, hb => by
    have hge := Lib.indexAny_ge [10, 34, 92] r
    rw [Lib.indexAny] at h
    split at h
    · exact absurd h (by decide)
    · rename_i hx
      split at h
      · rename_i hr
        have hr2 : Lib.indexAny r [10, 34, 92] < 0 := by rw [beq_iff_eq.1 hr]; decide
        rcases List.mem_cons.1 hb with rfl | hb
        · rintro rfl; exact hx (by decide)
        · exact ia_no r hr2 b hb
      · rename_i hr
        exfalso
        have : ¬ Lib.indexAny r [10, 34, 92] = -1 := fun e => hr (by rw [e]; rfl)
        omega
end Go.Proofs.YtojdjhicjhhblaaDoor
