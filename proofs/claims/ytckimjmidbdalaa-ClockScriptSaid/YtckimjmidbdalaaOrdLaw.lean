/- ClockOrder: the plain law; slices of ints that came in. -/
import Derived.Test.YtckimjmidbdalaaAwk
namespace Go.Proofs.Ytckimjmidbdalaa
open Go.RowKit Go.ChangeShapes Go.WideShapes
section
variable {H : Type} {enc : TypeId × Value → H} {w : World}
theorem open_i64s {v : Value} {d : DataW H} {p : List MemPlace} {r : Reach} {b0 : Nat} (hv : Value.okWide Try.prog w r b0 34 v) (h : DataW.Trod enc Try.prog w 0 (fun _ => true) true 34 v d p) :
    ∃ a n c l, v = .slice a n c ∧ Rd intE w a n c l := by
  obtain ⟨a0, n0, c0, rfl⟩ := okWide_slice Try.underlying34 hv
  obtain ⟨fuel, hf⟩ := h
  rcases open_ints Try.underlying34 Try.underlying3 (by kernel_rfl) hf with ⟨hcs, _⟩ | ⟨x, len, cap, zs, hcs, _, hl, hm, hz, hx, hcell, hwz⟩
  · simp [Value.cells] at hcs
    obtain ⟨rfl, rfl, rfl⟩ := hcs
    exact ⟨none, 0, 0, [], rfl, Rd.nil _ _⟩
  · simp [Value.cells] at hcs
    obtain ⟨rfl, rfl, rfl⟩ := hcs
    have hz' : zs.length = c0 := by simpa using hz
    exact ⟨_, n0, c0, _, rfl, rd_of (E := intE) rfl (g := fun i => zs.getD i 0) (f := fun c => .int .i64 c) (fun _ => rfl) (m := c0) hl hl hm (fun i hi => hcell i (by omega))⟩
end
theorem rd_i64 {w : World} {a : Option Addr} {n c : Nat} {l : List Int} (h : Rd intE w a n c l) (h0 : 0 < n) : ∃ b o, a = some ⟨b, o, none⟩ ∧ b < w.heap.size ∧ ∀ j (hj : j < l.length), w.cell? ⟨b, o + j, none⟩ = some (.int .i64 l[j]) := by
  obtain ⟨b, o, h1, h3, h2⟩ := h.addr h0
  exact ⟨b, o, h1, h3, fun j hj => by have := h2 j hj 0 (by decide); simpa [intE] using this⟩
theorem Clk.mono {w : World} {c : Nat} {o : Option Nat} {now : Int} {L : List Tk} {m m' : Nat} (h : Clk w c o now L m) (hm : m ≤ m') : Clk w c o now L m' := by
  obtain ⟨T, v, l, h1, h2, h3, h4, h5, h6⟩ := h
  exact ⟨T, v, l, h1, h2, h3, h4, by omega, by omega⟩
def okM (x : Int) : Bool := decide (0 ≤ x) && decide (x ≤ mx)
/-- the timers that are set of the first k moments -/
def ordL (f : Nat → Int) (ms : List Int) : Nat → List Tk
  | 0 => []
  | k + 1 => if okM (ms.getD k 0) then ordL f ms k ++ [(ms.getD k 0, f k)] else ordL f ms k
theorem ordL_len (f : Nat → Int) (ms : List Int) : ∀ k, (ordL f ms k).length ≤ k
  | 0 => Nat.le_refl _
  | k + 1 => by have := ordL_len f ms k; unfold ordL; split <;> simp <;> omega
structure OrdInv (ms : List Int) (R : List Tk) (last key : Int) : Prop where
  mem : ∀ x ∈ R, ∃ j : Nat, x.2 = j ∧ j < ms.length ∧ x.1 = ms.getD j 0 ∧ 0 ≤ x.1 ∧ x.1 ≤ mx
  pw : R.Pairwise (fun a b => a.2 < b.2)
  lo : ∀ x ∈ R, last ≤ x.1 ∧ (last = x.1 → key < x.2)
theorem ordL_inv (ms : List Int) : ∀ k, k ≤ ms.length → OrdInv ms (ordL (fun i => (i : Int)) ms k) (-1) (-1) ∧ ∀ x ∈ ordL (fun i => (i : Int)) ms k, x.2 < k
  | 0, _ => ⟨⟨by simp [ordL], by simp [ordL], by simp [ordL]⟩, by simp [ordL]⟩
  | k + 1, hk => by
    obtain ⟨⟨h1, h2, h3⟩, h4⟩ := ordL_inv ms k (by omega)
    unfold ordL
    by_cases ho : okM (ms.getD k 0) = true
    · rw [if_pos ho]
      unfold okM at ho
      simp only [Bool.and_eq_true, decide_eq_true_eq] at ho
      refine ⟨⟨fun x hx => ?_, ?_, fun x hx => ?_⟩, fun x hx => ?_⟩
      · rcases List.mem_append.1 hx with hx | hx
        · exact h1 x hx
        · simp at hx; subst hx; exact ⟨k, rfl, by omega, by simp, by simpa using ho.1, by simpa using ho.2⟩
      · rw [List.pairwise_append]
        refine ⟨h2, by simp, fun a ha b hb => ?_⟩
        simp at hb; subst hb; exact h4 a ha
      · rcases List.mem_append.1 hx with hx | hx
        · exact h3 x hx
        · simp only [List.mem_singleton] at hx; subst hx; simp only; omega
      · rcases List.mem_append.1 hx with hx | hx
        · have := h4 x hx; omega
        · simp only [List.mem_singleton] at hx; subst hx; simp only; omega
    · rw [if_neg ho]
      exact ⟨⟨h1, h2, h3⟩, fun x hx => by have := h4 x hx; omega⟩
theorem getD_mem {α : Type} (l : List α) (i : Nat) (z : α) (h : i < l.length) : l.getD i z ∈ l := by
  rw [List.getD_eq_getElem?_getD, List.getElem?_eq_getElem h]; exact List.getElem_mem _
theorem getD_at {α : Type} (l : List α) (i : Nat) (z : α) (h : i < l.length) : l.getD i z = l[i] := by
  rw [List.getD_eq_getElem?_getD, List.getElem?_eq_getElem h]; rfl
theorem OrdInv.step {ms : List Int} {R : List Tk} {last key : Int} (h : OrdInv ms R last key) (h0 : 0 < R.length) : ∃ i, first R = some i ∧ i < R.length ∧ OrdInv ms (R.eraseIdx i) (R.getD i (0, 0)).1 (R.getD i (0, 0)).2 := by
  obtain ⟨i, hb, hi, b1, b2⟩ := best_spec R R.length h0
  refine ⟨i, hb, hi, fun x hx => h.mem x (List.mem_of_mem_eraseIdx hx), h.pw.sublist (List.eraseIdx_sublist _ _), fun x hx => ?_⟩
  obtain ⟨j, hj, hne, rfl⟩ := List.mem_eraseIdx_iff_getElem.1 hx
  rw [← getD_at R j (0, 0) hj]
  refine ⟨b1 j hj, fun e => ?_⟩
  rcases Nat.lt_trichotomy i j with c | c | c
  · have := (List.pairwise_iff_getElem.1 h.pw) i j hi hj c
    rw [getD_at R i (0, 0) hi, getD_at R j (0, 0) hj]; exact this
  · exact absurd c.symm hne
  · have := b2 j c; omega
theorem nxt_of {R : List Tk} {i : Nat} (h : first R = some i) : nxt R = ((R.getD i (0, 0)).1, true) := by unfold nxt; rw [h]
theorem nxt_nil : nxt [] = (0, false) := rfl
theorem popR_wait {R : List Tk} {i : Nat} {now : Int} (h : first R = some i) (hl : now < (R.getD i (0, 0)).1) : popR now R = (0, false) ∧ popT now R = R := by
  unfold popR popT; rw [h]; simp [-List.getD_eq_getElem?_getD, hl]
theorem popR_due {R : List Tk} {i : Nat} {now : Int} (h : first R = some i) (hl : (R.getD i (0, 0)).1 ≤ now) : popR now R = ((R.getD i (0, 0)).2, true) ∧ popT now R = R.eraseIdx i := by
  unfold popR popT; rw [h]; simp only; rw [if_neg (by omega), if_neg (by omega)]; exact ⟨rfl, rfl⟩
end Go.Proofs.Ytckimjmidbdalaa
