/- The plain law of PickSound. -/
import Derived.Test.YtjkeijjfjbcaiaaPkN
import Derived.Test.YtjkeijjfjbcaiaaOpenN
namespace Go.Proofs.Ytjkeijjfjbcaiaa
open Go.RowKit Go.ChangeShapes Go.WideShapes
/-- what the statement's loop keeps: seen, may, some, round trip, best -/
structure SS where
  i : Bool
  m : Bool
  s : Bool
  t : Int
  b : Int
def ssStep (L : List Kn) (now x : Int) (st : SS) (y : Int) : SS :=
  ⟨st.i || decide (y = x), if y = x then erl L now y else st.m, st.s || erl L now y, if y = x then (ofD L y).t else st.t, if erl L now y = true then mn st.b (ofD L y).t else st.b⟩
def ssAll (L : List Kn) (now x : Int) (l : List Int) : SS := l.foldl (ssStep L now x) ⟨false, false, false, 200, 10001⟩
theorem ssAll_snoc (L : List Kn) (now x : Int) (l : List Int) (y : Int) : ssAll L now x (l ++ [y]) = ssStep L now x (ssAll L now x l) y := by unfold ssAll; rw [List.foldl_append]; rfl
structure SInv (L : List Kn) (now x : Int) (p : List Int) (st : SS) : Prop where
  i : st.i = true ↔ x ∈ p
  m : st.m = true ↔ (x ∈ p ∧ erl L now x = true)
  s : st.s = true ↔ ∃ y, y ∈ p ∧ erl L now y = true
  t : x ∈ p → st.t = (ofD L x).t
  b1 : ∀ y, y ∈ p → erl L now y = true → st.b ≤ (ofD L y).t
  b2 : st.b = 10001 ∨ ∃ y, y ∈ p ∧ erl L now y = true ∧ st.b = (ofD L y).t
theorem mem_snoc {p : List Int} {y z : Int} : z ∈ p ++ [y] ↔ z ∈ p ∨ z = y := by simp
theorem SInv.step {L : List Kn} {now x : Int} {p : List Int} {st : SS} (h : SInv L now x p st) (y : Int) : SInv L now x (p ++ [y]) (ssStep L now x st y) := by
  unfold ssStep
  refine ⟨?_, ?_, ?_, ?_, ?_, ?_⟩
  · simp only [Bool.or_eq_true, decide_eq_true_eq]
    rw [mem_snoc, h.i]
    exact ⟨fun h => h.imp id Eq.symm, fun h => h.imp id Eq.symm⟩
  · rw [mem_snoc]
    by_cases hy : y = x
    · subst hy
      simp
    · simp only [if_neg hy]
      rw [h.m]
      exact ⟨fun h => ⟨.inl h.1, h.2⟩, fun h => ⟨h.1.resolve_right (fun e => hy e.symm), h.2⟩⟩
  · simp only [Bool.or_eq_true]
    rw [h.s]
    constructor
    · rintro (⟨z, h1, h2⟩ | h2)
      · exact ⟨z, mem_snoc.2 (.inl h1), h2⟩
      · exact ⟨y, mem_snoc.2 (.inr rfl), h2⟩
    · rintro ⟨z, h1, h2⟩
      rcases mem_snoc.1 h1 with h1 | rfl
      · exact .inl ⟨z, h1, h2⟩
      · exact .inr h2
  · intro hx
    by_cases hy : y = x
    · subst hy; simp
    · simp only [if_neg hy]
      exact h.t ((mem_snoc.1 hx).resolve_right (fun e => hy e.symm))
  · intro z hz he
    rcases mem_snoc.1 hz with hz | rfl
    · have := h.b1 z hz he
      dsimp only
      split
      · exact Int.le_trans (mn_le1 _ _) this
      · exact this
    · simp only [he, if_true]
      exact mn_le2 _ _
  · dsimp only
    split
    · rename_i he
      unfold mn
      split
      · exact .inr ⟨y, mem_snoc.2 (.inr rfl), he, rfl⟩
      · rcases h.b2 with e | ⟨z, h1, h2, h3⟩
        · exact .inl e
        · exact .inr ⟨z, mem_snoc.2 (.inl h1), h2, h3⟩
    · rcases h.b2 with e | ⟨z, h1, h2, h3⟩
      · exact .inl e
      · exact .inr ⟨z, mem_snoc.2 (.inl h1), h2, h3⟩
theorem SInv.all (L : List Kn) (now x : Int) (l : List Int) : ∀ k, k ≤ l.length → SInv L now x (l.take k) (ssAll L now x (l.take k))
  | 0, _ => ⟨by simp [ssAll], by simp [ssAll], by simp [ssAll], fun h => by simp at h, fun y h => by simp at h, .inl rfl⟩
  | k + 1, h => by
    rw [List.take_succ_eq_append_getElem (by omega), ssAll_snoc]
    exact (SInv.all L now x l k (by omega)).step _
/-- the law -/
theorem ss_law {L : List Kn} {now : Int} {l : List Int} (h0 : 0 < l.length) (hL : ∀ k ∈ L, KB k) :
    (ssAll L now (chooseK L now l) l).i = true ∧ (ssAll L now (chooseK L now l) l).m = (ssAll L now (chooseK L now l) l).s ∧ ((ssAll L now (chooseK L now l) l).s = true → (ssAll L now (chooseK L now l) l).t = (ssAll L now (chooseK L now l) l).b) := by
  have hI := SInv.all L now (chooseK L now l) l l.length (Nat.le_refl _)
  rw [List.take_length] at hI
  have hx : chooseK L now l ∈ l ∧ ∀ y, y ∈ l → erl L now y = true → erl L now (chooseK L now l) = true ∧ (ofD L (chooseK L now l)).t ≤ (ofD L y).t := by
    cases l with
    | nil => simp at h0
    | cons a r =>
      obtain ⟨h1, h2⟩ := bestK_law L now r a
      refine ⟨?_, fun y hy he => h2 y (List.mem_cons.1 hy) he⟩
      rcases h1 with e | e
      · show bestK L now a r ∈ a :: r
        rw [e]; exact List.mem_cons_self
      · exact List.mem_cons_of_mem _ e
  generalize chooseK L now l = x at *
  generalize ssAll L now x l = st at *
  obtain ⟨hx1, hx2⟩ := hx
  refine ⟨hI.i.2 hx1, ?_, fun hs => ?_⟩
  · rw [Bool.eq_iff_iff, hI.m, hI.s]
    exact ⟨fun h => ⟨x, h⟩, fun ⟨y, h1, h2⟩ => ⟨hx1, (hx2 y h1 h2).1⟩⟩
  · obtain ⟨y, h1, h2⟩ := hI.s.1 hs
    have hex := (hx2 y h1 h2).1
    rw [hI.t hx1]
    have b1 := hI.b1 x hx1 hex
    rcases hI.b2 with e | ⟨z, g1, g2, g3⟩
    · have := (ofD_kb hL x).2.1
      omega
    · have := (hx2 z g1 g2).2
      omega
end Go.Proofs.Ytjkeijjfjbcaiaa
