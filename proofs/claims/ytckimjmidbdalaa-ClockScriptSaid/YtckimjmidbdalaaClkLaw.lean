/- The clock's timers: a heap, and the list in the order in which they were set. Nothing of the program. -/
import Derived.Test.YtckimjmidbdalaaHeap
namespace Go.Proofs.Ytckimjmidbdalaa

abbrev Tk := Int × Int
/-- the place of the first one of the least moment among the first k -/
def best (L : List Tk) : Nat → Option Nat
  | 0 => none
  | k + 1 => match best L k with
    | none => some k
    | some b => if (L.getD k (0, 0)).1 < (L.getD b (0, 0)).1 then some k else some b
theorem best_spec (L : List Tk) : ∀ n, 0 < n → ∃ i, best L n = some i ∧ i < n ∧ (∀ j, j < n → (L.getD i (0, 0)).1 ≤ (L.getD j (0, 0)).1) ∧ (∀ j, j < i → (L.getD i (0, 0)).1 < (L.getD j (0, 0)).1)
  | 1, _ => by
    refine ⟨0, rfl, by decide, fun j hj => ?_, fun j hj => by omega⟩
    have : j = 0 := by omega
    subst this
    exact Int.le_refl _
  | n + 2, _ => by
    obtain ⟨i, hb, hi, h1, h2⟩ := best_spec L (n + 1) (by omega)
    rw [best, hb]
    by_cases h : (L.getD (n + 1) (0, 0)).1 < (L.getD i (0, 0)).1
    · refine ⟨n + 1, by simp only [h, if_true], by omega, fun j hj => ?_, fun j hj => ?_⟩
      · by_cases e : j = n + 1
        · subst e; exact Int.le_refl _
        · have := h1 j (by omega); omega
      · have := h1 j (by omega); omega
    · refine ⟨i, by simp only [h, if_false], by omega, fun j hj => ?_, h2⟩
      by_cases e : j = n + 1
      · subst e; omega
      · exact h1 j (by omega)
def first (L : List Tk) : Option Nat := best L L.length
def pr (t : Tm) : Tk := (t.at_, t.key)
/-- the heap l has just the timers M, that were set in this order, none with a turn above T -/
structure Timers (l : List Tm) (T : Int) (L : List Tk) : Prop where
  heap : Heap l
  ex : ∃ M : List Tm, l.Perm M ∧ M.Pairwise (fun a b => a.turn < b.turn) ∧ (∀ x ∈ M, x.turn ≤ T) ∧ L = M.map pr
theorem Timers.nil (T : Int) : Timers [] T [] := ⟨fun k k0 hk => by simp at hk, [], .refl _, .nil, by simp, rfl⟩
theorem Timers.length {l : List Tm} {T : Int} {L : List Tk} (h : Timers l T L) : l.length = L.length := by
  obtain ⟨M, h1, _, _, rfl⟩ := h.ex; rw [h1.length_eq, List.length_map]
theorem Timers.push {l : List Tm} {T : Int} {L : List Tk} (h : Timers l T L) (at_ key : Int) : Timers (pushL l ⟨at_, T + 1, key⟩) (T + 1) (L ++ [(at_, key)]) := by
  obtain ⟨M, h1, h2, h3, rfl⟩ := h.ex
  refine ⟨pushL_heap _ _ h.heap, M ++ [⟨at_, T + 1, key⟩], (pushL_perm _ _).trans (h1.append_right _), ?_, ?_, by simp [pr]⟩
  · rw [List.pairwise_append]
    refine ⟨h2, by simp, fun a ha b hb => ?_⟩
    simp at hb; subst hb
    have := h3 a ha; show a.turn < T + 1; omega
  · intro x hx
    simp at hx
    rcases hx with hx | rfl
    · have := h3 x hx; omega
    · exact Int.le_refl _
theorem perm_eraseIdx {α : Type} (M : List α) (i : Nat) (h : i < M.length) : M.Perm (M[i] :: M.eraseIdx i) := by
  induction M generalizing i with
  | nil => simp at h
  | cons a M ih =>
    cases i with
    | zero => simp
    | succ i =>
      simp only [List.getElem_cons_succ, List.eraseIdx_cons_succ]
      exact ((ih i (by simpa using h)).cons a).trans (List.Perm.swap _ _ _)
theorem map_eraseIdx {α β : Type} (f : α → β) (M : List α) (i : Nat) : (M.eraseIdx i).map f = (M.map f).eraseIdx i := by
  induction M generalizing i with
  | nil => simp
  | cons a M ih => cases i <;> simp [ih]
/-- the root of the heap is the first of the list -/
theorem Timers.root {l : List Tm} {T : Int} {L : List Tk} (h : Timers l T L) (h0 : 0 < L.length) : ∃ i, first L = some i ∧ i < L.length ∧ pr (gt l 0) = L.getD i (0, 0) ∧ Timers (popL l) T (L.eraseIdx i) := by
  have hll := h.length
  obtain ⟨M, h1, h2, h3, rfl⟩ := h.ex
  obtain ⟨i, hb, hi, b1, b2⟩ := best_spec (M.map pr) (M.map pr).length h0
  have hiM : i < M.length := by simpa using hi
  have hmem : gt l 0 ∈ M := h1.subset (by rw [gt_eq l 0 (by omega)]; exact List.getElem_mem _)
  obtain ⟨j, hj, hje⟩ := List.getElem_of_mem hmem
  have g : ∀ k (hk : k < M.length), (M.map pr).getD k (0, 0) = pr M[k] := fun k hk => by rw [List.getD_eq_getElem?_getD, List.getElem?_map, List.getElem?_eq_getElem hk]; rfl
  have e : i = j := by
    have hr := heap_root_mem l h.heap M[i] (h1.symm.subset (List.getElem_mem _))
    rw [← hje, not_lt_iff] at hr
    have c1 := b1 j (by simpa using hj)
    rw [g i hiM, g j hj] at c1
    simp only [pr] at c1
    rcases Nat.lt_trichotomy i j with c | c | c
    · have := (List.pairwise_iff_getElem.1 h2) i j hiM hj c; omega
    · exact c
    · have c2 := b2 j c
      rw [g i hiM, g j hj] at c2
      simp only [pr] at c2
      omega
  subst e
  refine ⟨i, hb, hi, by rw [g i hiM, hje], popL_heap _ h.heap, M.eraseIdx i, ?_, ?_, ?_, (map_eraseIdx _ _ _).symm⟩
  · have p1 := popL_perm l (by omega)
    have p2 := perm_eraseIdx M i hiM
    rw [hje] at p2
    exact (p1.trans (h1.trans p2)).cons_inv
  · exact h2.sublist (List.eraseIdx_sublist _ _)
  · exact fun x hx => h3 x (List.mem_of_mem_eraseIdx hx)
theorem Timers.drop {l : List Tm} {T : Int} {L : List Tk} (h : Timers l T L) (key : Int) (l' : List Tm) (e : l' = l.filter (fun t => decide (t.key ≠ key))) : Timers (initL (l'.length / 2) l') T (L.filter (fun t => decide (t.2 ≠ key))) := by
  subst e
  obtain ⟨M, h1, h2, h3, rfl⟩ := h.ex
  refine ⟨initL_heap_all _, M.filter (fun t => decide (t.key ≠ key)), (initL_perm _ _).trans (h1.filter _), h2.filter _, fun x hx => h3 x (List.mem_filter.1 hx).1, ?_⟩
  rw [List.filter_map]; rfl
end Go.Proofs.Ytckimjmidbdalaa
