/- The lines of a joined text. -/
import Derived.Test.YtojdjhicjhhblaaDoorNz
import Derived.Lib.SplitLaws
namespace Go.Proofs.YtojdjhicjhhblaaDoor
open Go Go.RowKit
theorem idx_cons {b : UInt8} (l : List UInt8) (h : ¬ b = 10) : Lib.index (b :: l) [10] = if Lib.index l [10] == -1 then -1 else Lib.index l [10] + 1 := by
  have hp : ([10] : List UInt8).isPrefixOf (b :: l) = false := by simp [List.isPrefixOf, Ne.symm h]
  rw [Lib.index, hp]; simp
theorem idx_none : ∀ x : List UInt8, (∀ b ∈ x, ¬ b = 10) → Lib.index x [10] = -1
  | [], _ => by simp [Lib.index]
  | b :: x, h => by
    rw [idx_cons x (h b (by simp)), idx_none x (fun y hy => h y (List.mem_cons_of_mem _ hy))]; rfl
theorem idx_line : ∀ (x r : List UInt8), (∀ b ∈ x, ¬ b = 10) → Lib.index (x ++ 10 :: r) [10] = x.length
  | [], r, _ => by rw [List.nil_append, Lib.index]; simp [List.isPrefixOf]
  | b :: x, r, h => by
    rw [List.cons_append, idx_cons _ (h b (by simp)), idx_line x r (fun y hy => h y (List.mem_cons_of_mem _ hy))]
    have e : ((x.length : Int) == -1) = false := by rw [beq_eq_false_iff_ne]; omega
    rw [e]; simp
/-- lines with a byte 10 between them -/
def jl : List (List UInt8) → List UInt8
  | [] => []
  | x :: r => x ++ (if r.isEmpty then [] else 10 :: jl r)
theorem split_jl : ∀ (L : List (List UInt8)) (k : Nat), (∀ x ∈ L, ∀ b ∈ x, ¬ b = 10) → L.length = k + 1 → Lib.splitK [10] 0 k (jl L) = L
  | [], k, _, h => by simp at h
  | [x], k, hx, h => by
    have hk : k = 0 := by simpa using h
    subst hk
    simp [jl, Lib.splitK]
  | x :: y :: r, 0, hx, h => by simp at h
  | x :: y :: r, k + 1, hx, h => by
    have e : jl (x :: y :: r) = x ++ 10 :: jl (y :: r) := by simp [jl]
    have hi := idx_line x (jl (y :: r)) (hx x (by simp))
    rw [e]
    unfold Lib.splitK
    have en : ((x.length : Int) == -1) = false := by rw [beq_eq_false_iff_ne]; omega
    rw [hi, en]
    simp only [Bool.false_eq_true, if_false, Int.toNat_natCast, Nat.add_zero, List.length_singleton]
    have e1 : (x ++ 10 :: jl (y :: r)).take x.length = x := by simp
    have e2 : (x ++ 10 :: jl (y :: r)).drop (x.length + 1) = jl (y :: r) := by rw [List.drop_append]; simp
    rw [e1, e2, split_jl (y :: r) k (fun z hz => hx z (List.mem_cons_of_mem _ hz)) (by simpa using h)]
theorem count_jl : ∀ (L : List (List UInt8)), (∀ x ∈ L, ∀ b ∈ x, ¬ b = 10) → L ≠ [] → (jl L).count 10 + 1 = L.length
  | [], _, h => absurd rfl h
  | [x], hx, _ => by
    have : x.count 10 = 0 := List.count_eq_zero.2 (fun h => hx x (by simp) 10 h rfl)
    simp [jl, this]
  | x :: y :: r, hx, _ => by
    have e : jl (x :: y :: r) = x ++ 10 :: jl (y :: r) := by simp [jl]
    have h0 : x.count 10 = 0 := List.count_eq_zero.2 (fun h => hx x (by simp) 10 h rfl)
    have ih := count_jl (y :: r) (fun z hz => hx z (List.mem_cons_of_mem _ hz)) (by simp)
    rw [e, List.count_append, List.count_cons_self, h0]
    simp only [List.length_cons] at ih ⊢
    omega
/-- a joined text is its lines, and a byte 10 behind -/
theorem jtext_jl : ∀ (L : List Ent), L ≠ [] → jtext L = jl (L.map ltext) ++ [10]
  | [], h => absurd rfl h
  | [e], _ => by simp [jtext, jl, etext]
  | e :: x :: r, _ => by
    have ih := jtext_jl (x :: r) (by simp)
    have e1 : jl ((e :: x :: r).map ltext) = ltext e ++ 10 :: jl ((x :: r).map ltext) := by simp [jl]
    rw [e1]
    show (ltext e ++ [10]) ++ jtext (x :: r) = _
    rw [ih]; simp
theorem trim_jl (L : List Ent) (h : L ≠ []) : Lib.trimSuffix (jtext L) [10] = jl (L.map ltext) := by
  rw [jtext_jl L h]
  unfold Lib.trimSuffix
  have hs : Lib.hasSuffix (jl (L.map ltext) ++ [10]) [10] = true := by simp [Lib.hasSuffix]
  rw [hs]; simp
theorem unq_no : ∀ (n : Nat) (l : List UInt8), l.length ≤ n → unqB l = true → ∀ b ∈ l, ¬ b = 10
  | 0, l, hn, _, b, hb => by
    obtain rfl : l = [] := List.eq_nil_of_length_eq_zero (by omega)
    simp at hb
  | n + 1, [], _, _, b, hb => by simp at hb
  | n + 1, [x], _, h, b, hb => by
    simp at hb; subst hb
    intro e; subst e; exact absurd h (by decide)
  | n + 1, x :: y :: r, hn, h, b, hb => by
    simp only [unqB] at h
    simp only [List.length_cons] at hn
    by_cases h92 : x = 92
    · subst h92
      simp only [beq_self_eq_true, if_true, Bool.and_eq_true, bne_iff_ne] at h
      rcases List.mem_cons.1 hb with rfl | hb
      · decide
      rcases List.mem_cons.1 hb with rfl | hb
      · exact h.1
      exact unq_no n r (by omega) h.2 b hb
    · have e : (x == 92) = false := by rw [beq_eq_false_iff_ne]; exact h92
      rw [e] at h
      simp only [Bool.false_eq_true, if_false, Bool.and_eq_true] at h
      rcases List.mem_cons.1 hb with rfl | hb
      · intro e10; subst e10; exact absurd h.1.1 (by decide)
      exact unq_no n (y :: r) (by simp; omega) h.2 b hb
theorem quo_no : ∀ (n : Nat) (l : List UInt8), l.length ≤ n → quoB l = true → ∀ b ∈ l, ¬ b = 10
  | 0, l, hn, _, b, hb => by
    obtain rfl : l = [] := List.eq_nil_of_length_eq_zero (by omega)
    simp at hb
  | n + 1, [], _, _, b, hb => by simp at hb
  | n + 1, [x], _, h, b, hb => by
    simp at hb; subst hb
    intro e; subst e; exact absurd h (by decide)
  | n + 1, x :: y :: r, hn, h, b, hb => by
    simp only [quoB] at h
    simp only [List.length_cons] at hn
    by_cases h92 : x = 92
    · subst h92
      simp only [beq_self_eq_true, if_true, Bool.and_eq_true, bne_iff_ne] at h
      rcases List.mem_cons.1 hb with rfl | hb
      · decide
      rcases List.mem_cons.1 hb with rfl | hb
      · exact h.1
      exact quo_no n r (by omega) h.2 b hb
    · have e : (x == 92) = false := by rw [beq_eq_false_iff_ne]; exact h92
      rw [e] at h
      simp only [Bool.false_eq_true, if_false, Bool.and_eq_true, bne_iff_ne] at h
      rcases List.mem_cons.1 hb with rfl | hb
      · exact h.1.2
      exact quo_no n (y :: r) (by simp; omega) h.2 b hb
theorem shown_no {w : Trm} (h : okw w = true) : ∀ b ∈ shownL w, ¬ b = 10 := by
  obtain ⟨t, q⟩ := w
  intro b hb
  cases q with
  | true =>
    have h2 : quoB t = true := h
    simp only [shownL, if_true, List.mem_cons, List.mem_append, List.not_mem_nil, or_false] at hb
    rcases hb with rfl | hb | rfl
    · decide
    · exact quo_no t.length t (Nat.le_refl _) h2 b hb
    · decide
  | false =>
    have h2 : (!t.isEmpty && unqB t) = true := h
    rw [Bool.and_eq_true] at h2
    exact unq_no t.length t (Nat.le_refl _) h2.2 b hb
theorem wtext_no : ∀ (l : List Trm), (∀ w ∈ l, okw w = true) → ∀ b ∈ wtext l, ¬ b = 10
  | [], _, b, hb => by simp [wtext] at hb
  | w :: r, h, b, hb => by
    simp only [wtext, List.mem_append] at hb
    rcases hb with hb | hb
    · exact shown_no (h w (by simp)) b hb
    · cases hr : r.isEmpty with
      | true => rw [hr] at hb; simp at hb
      | false =>
        rw [hr] at hb
        simp only [Bool.false_eq_true, if_false, List.mem_cons] at hb
        rcases hb with rfl | hb
        · decide
        · exact wtext_no r (fun z hz => h z (List.mem_cons_of_mem _ hz)) b hb
theorem ltext_no {e : Ent} (h : okE e) : ∀ b ∈ ltext e, ¬ b = 10 := by
  intro b hb
  unfold ltext at hb
  rw [List.mem_append] at hb
  rcases hb with hb | hb
  · cases hbl : e.blank with
    | true => rw [hbl] at hb; simp at hb; subst hb; decide
    | false => rw [hbl] at hb; simp at hb
  · exact wtext_no e.words h.1 b hb
end Go.Proofs.YtojdjhicjhhblaaDoor
