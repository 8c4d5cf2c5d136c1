/- What is read is sound: plain laws of rdF. Nothing of the program. -/
import Derived.Test.YtndpebhhgicooaaSqL
namespace Go.Proofs.Ytndpebhhgicooaa
open Go Go.RowKit
theorem rd_inv {b : List UInt8} {back : Bool} {p s : Nat} {nx : Int} {n : Nm} {r : Nm × Int} (h : rdF b back p s nx n = some r) : p < b.length ∧ ((cA b p = 0 ∧ r = (n, if nx < 0 then (p : Int) + 1 else nx)) ∨
    (192 ≤ cA b p ∧ back = true ∧ p + 1 < b.length ∧ toA b p < s ∧ rdF b back (toA b p) (toA b p) (if nx < 0 then (p : Int) + 2 else nx) n = some r) ∨
    (cA b p ≠ 0 ∧ cA b p ≤ 63 ∧ p + 1 + cA b p ≤ b.length ∧ ¬ 255 < sizeL (n ++ [labA b p]) ∧ rdF b back (p + 1 + cA b p) s nx (n ++ [labA b p]) = some r)) := by
  by_cases hp : p < b.length
  · refine ⟨hp, ?_⟩
    by_cases h0 : cA b p = 0
    · rw [rd_stop hp h0] at h
      exact .inl ⟨h0, (Option.some.inj h).symm⟩
    · by_cases hc : 192 ≤ cA b p ∧ back = true ∧ p + 1 < b.length
      · by_cases hs : toA b p < s
        · rw [rd_jump hp hc.1 hc.2.1 hc.2.2 hs] at h
          exact .inr (.inl ⟨hc.1, hc.2.1, hc.2.2, hs, h⟩)
        · rw [rd_far hp hc.1 hc.2.1 hc.2.2 (by omega)] at h
          cases h
      · by_cases hx : 63 < cA b p ∨ b.length < p + 1 + cA b p
        · rw [rd_bad hp h0 hc hx] at h
          cases h
        · by_cases hl : 255 < sizeL (n ++ [labA b p])
          · rw [rd_long hp h0 hx hl] at h
            cases h
          · rw [rd_label hp h0 hx hl] at h
            exact .inr (.inr ⟨h0, by omega, by omega, hl, h⟩)
  · rw [rd_out (by omega)] at h
    cases h
/-- by the way that is read -/
theorem rd_ind {b : List UInt8} {back : Bool} {r : Nm × Int} {motive : Nat → Nat → Int → Nm → Prop}
    (stop : ∀ p s nx n, p < b.length → cA b p = 0 → r = (n, if nx < 0 then (p : Int) + 1 else nx) → motive p s nx n)
    (jump : ∀ p s nx n, p < b.length → 192 ≤ cA b p → back = true → p + 1 < b.length → toA b p < s → motive (toA b p) (toA b p) (if nx < 0 then (p : Int) + 2 else nx) n → motive p s nx n)
    (label : ∀ p s nx n, p < b.length → cA b p ≠ 0 → cA b p ≤ 63 → p + 1 + cA b p ≤ b.length → ¬ 255 < sizeL (n ++ [labA b p]) → motive (p + 1 + cA b p) s nx (n ++ [labA b p]) → motive p s nx n) :
    ∀ p s nx n, rdF b back p s nx n = some r → motive p s nx n := by
  have key : ∀ m p s nx n, s * (b.length + 1) + (b.length - p) = m → rdF b back p s nx n = some r → motive p s nx n := by
    intro m
    induction m using Nat.strongRecOn with
    | ind m ih =>
      intro p s nx n hm h
      obtain ⟨hp, h1 | h1 | h1⟩ := rd_inv h
      · exact stop p s nx n hp h1.1 h1.2
      · have := jump_lt h1.2.2.2.1 hp
        exact jump p s nx n hp h1.1 h1.2.1 h1.2.2.1 h1.2.2.2.1 (ih _ (by omega) _ _ _ _ rfl h1.2.2.2.2)
      · exact label p s nx n hp h1.1 h1.2.1 h1.2.2.1 h1.2.2.2.1 (ih _ (by omega) _ _ _ _ rfl h1.2.2.2.2)
  exact fun p s nx n h => key _ p s nx n rfl h
/-- what is read is a name -/
theorem rd_name {b : List UInt8} {back : Bool} {r : Nm × Int} {p s : Nat} {nx : Int} {n : Nm} (h : rdF b back p s nx n = some r) : (∀ t ∈ n, okLab t) → sizeL n ≤ 255 → (∀ t ∈ r.1, okLab t) ∧ sizeL r.1 ≤ 255 := by
  refine rd_ind (motive := fun _ _ _ n => (∀ t ∈ n, okLab t) → sizeL n ≤ 255 → (∀ t ∈ r.1, okLab t) ∧ sizeL r.1 ≤ 255) ?_ ?_ ?_ p s nx n h
  · rintro p s nx n _ _ rfl h1 h2
    exact ⟨h1, h2⟩
  · intro p s nx n _ _ _ _ _ ih h1 h2
    exact ih h1 h2
  · intro p s nx n hp h0 h63 hl hs ih h1 h2
    refine ih (fun t ht => ?_) (by omega)
    rcases List.mem_append.1 ht with ht | ht
    · exact h1 t ht
    · have : t = labA b p := by simpa using ht
      subst this
      unfold okLab
      rw [labA_len hl]
      omega
/-- the place behind lies behind -/
theorem rd_next {b : List UInt8} {back : Bool} {r : Nm × Int} {p s : Nat} {nx : Int} {n : Nm} (h : rdF b back p s nx n = some r) : (0 ≤ nx → r.2 = nx) ∧ (nx < 0 → (p : Int) < r.2 ∧ r.2 ≤ b.length) := by
  refine rd_ind (motive := fun p _ nx _ => (0 ≤ nx → r.2 = nx) ∧ (nx < 0 → (p : Int) < r.2 ∧ r.2 ≤ b.length)) ?_ ?_ ?_ p s nx n h
  · rintro p s nx n hp _ rfl
    refine ⟨fun h => ?_, fun h => ?_⟩
    · simp only; rw [if_neg (by omega)]
    · simp only; rw [if_pos h]; omega
  · intro p s nx n hp _ _ h1 _ ih
    refine ⟨fun h => ?_, fun h => ?_⟩
    · rw [if_neg (by omega)] at ih
      exact ih.1 h
    · rw [if_pos h] at ih
      rw [ih.1 (by omega)]
      omega
  · intro p s nx n hp h0 h63 hl hs ih
    refine ⟨ih.1, fun h => ?_⟩
    have := ih.2 h
    omega
/-- it stands there whatever stands behind -/
theorem rd_more {b m : List UInt8} {back : Bool} {r : Nm × Int} {p s : Nat} {nx : Int} {n : Nm} (h : rdF b back p s nx n = some r) : rdF (b ++ m) back p s nx n = some r := by
  have hc : ∀ p, p < b.length → cA (b ++ m) p = cA b p := fun p hp => by
    rw [cA_get (by simp; omega), cA_get hp, List.getElem_append_left hp]
  have hlen : (b ++ m).length = b.length + m.length := by simp
  refine rd_ind (motive := fun p s nx n => rdF (b ++ m) back p s nx n = some r) ?_ ?_ ?_ p s nx n h
  · rintro p s nx n hp h0 rfl
    exact rd_stop (by omega) (by rw [hc p hp, h0])
  · intro p s nx n hp h1 hb h2 hs ih
    have ht : toA (b ++ m) p = toA b p := by unfold toA; rw [hc p hp, hc (p + 1) h2]
    rw [rd_jump (by omega) (by rw [hc p hp]; exact h1) hb (by omega) (by rw [ht]; exact hs), ht]
    exact ih
  · intro p s nx n hp h0 h63 hl hs ih
    have hla : labA (b ++ m) p = labA b p := by
      unfold labA
      rw [hc p hp, List.take_append_of_le_length hl]
    rw [rd_label (by omega) (by rw [hc p hp]; exact h0) (by rw [hc p hp]; omega) (by rw [hla]; exact hs), hla, hc p hp]
    exact ih
/-- without pointers the same is read, and it is as long as the name -/
theorem rd_plain {b : List UInt8} {back : Bool} {r : Nm × Int} {p s : Nat} {n : Nm} (h : rdF b false p s (-1) n = some r) : rdF b back p s (-1) n = some r ∧ r.2 + sizeL n = p + sizeL r.1 + 1 := by
  have key : ∀ p s nx n, rdF b false p s nx n = some r → nx = -1 → rdF b back p s nx n = some r ∧ r.2 + sizeL n = p + sizeL r.1 + 1 := by
    refine rd_ind (motive := fun p s nx n => nx = -1 → rdF b back p s nx n = some r ∧ r.2 + sizeL n = p + sizeL r.1 + 1) ?_ ?_ ?_
    · rintro p s nx n hp h0 rfl rfl
      refine ⟨rd_stop hp h0, ?_⟩
      simp only
      rw [if_pos (by decide)]
      omega
    · intro p s nx n _ _ hb
      cases hb
    · intro p s nx n hp h0 h63 hl hs ih hnx
      obtain ⟨h1, h2⟩ := ih hnx
      refine ⟨by rw [rd_label hp h0 (by omega) hs]; exact h1, ?_⟩
      rw [sizeL_app, labA_len hl] at h2
      omega
  exact key p s (-1) n h rfl
end Go.Proofs.Ytndpebhhgicooaa
