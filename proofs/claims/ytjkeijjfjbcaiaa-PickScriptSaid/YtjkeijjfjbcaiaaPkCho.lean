/- Which server is chosen, as a law on lists. Nothing of the program. -/
import Derived.Test.YtjkeijjfjbcaiaaPkLaw
namespace Go.Proofs.Ytjkeijjfjbcaiaa
def erl (L : List Kn) (now a : Int) : Bool := decide ((ofD L a).g ≤ now)
def lessK (L : List Kn) (now a b : Int) : Bool :=
  if erl L now a = erl L now b then (if erl L now a = true then decide ((ofD L a).t < (ofD L b).t) else decide ((ofD L a).g < (ofD L b).g)) else erl L now a
theorem less_tt {L : List Kn} {now a b : Int} (h1 : erl L now a = true) (h2 : erl L now b = true) : lessK L now a b = decide ((ofD L a).t < (ofD L b).t) := by unfold lessK; rw [h1, h2]; rfl
theorem less_ff {L : List Kn} {now a b : Int} (h1 : erl L now a = false) (h2 : erl L now b = false) : lessK L now a b = decide ((ofD L a).g < (ofD L b).g) := by unfold lessK; rw [h1, h2]; rfl
theorem less_tf {L : List Kn} {now a b : Int} (h1 : erl L now a = true) (h2 : erl L now b = false) : lessK L now a b = true := by unfold lessK; rw [h1, h2]; rfl
theorem less_ft {L : List Kn} {now a b : Int} (h1 : erl L now a = false) (h2 : erl L now b = true) : lessK L now a b = false := by unfold lessK; rw [h1, h2]; rfl
def bestK (L : List Kn) (now m : Int) (l : List Int) : Int := l.foldl (fun m x => if lessK L now x m = true then x else m) m
def chooseK (L : List Kn) (now : Int) : List Int → Int
  | [] => 0
  | x :: r => bestK L now x r
theorem bestK_snoc (L : List Kn) (now m : Int) (l : List Int) (x : Int) : bestK L now m (l ++ [x]) = if lessK L now x (bestK L now m l) = true then x else bestK L now m l := by
  unfold bestK; rw [List.foldl_append]; rfl
theorem chooseK_snoc (L : List Kn) (now : Int) {l : List Int} (h : 0 < l.length) (x : Int) : chooseK L now (l ++ [x]) = if lessK L now x (chooseK L now l) = true then x else chooseK L now l := by
  cases l with
  | nil => simp at h
  | cons y r => exact bestK_snoc L now y r x
/-- best and early of the document's loop, once the servers of p are gone through -/
inductive Cho (L : List Kn) (now : Int) (p : List Int) : Int → Int → Prop
  | none : p = [] → Cho L now p (-1) (-1)
  | late (e : Nat) (he : e < p.length) (hc : p[e] = chooseK L now p) (hl : erl L now (chooseK L now p) = false) : Cho L now p (-1) e
  | some (b e : Nat) (hb : b < p.length) (he : e < p.length) (hc : p[b] = chooseK L now p) (hl : erl L now (chooseK L now p) = true) : Cho L now p b e
theorem get_old {p : List Int} {x : Int} {e : Nat} (he : e < p.length) (h : e < (p ++ [x]).length) : (p ++ [x])[e] = p[e] := List.getElem_append_left he
theorem get_new {p : List Int} {x : Int} (h : p.length < (p ++ [x]).length) : (p ++ [x])[p.length] = x := by simp
theorem cho_first {L : List Kn} {now x : Int} : chooseK L now ([] ++ [x]) = x := rfl
/-- a server that may not be asked yet -/
theorem Cho.late_step {L : List Kn} {now x : Int} {p : List Int} {b e : Int} (h : Cho L now p b e) (hx : erl L now x = false) :
    (e < 0 → Cho L now (p ++ [x]) b p.length) ∧ (∀ e' : Nat, e = e' → ∃ he : e' < p.length, ((ofD L x).g < (ofD L p[e']).g → Cho L now (p ++ [x]) b p.length) ∧ (¬ (ofD L x).g < (ofD L p[e']).g → Cho L now (p ++ [x]) b e')) := by
  cases h with
  | none hp =>
    subst hp
    exact ⟨fun _ => .late 0 (by simp) rfl (by rw [cho_first]; exact hx), fun e' he => by omega⟩
  | late e he hc hl =>
    refine ⟨fun h => by omega, fun e' hee => ?_⟩
    have hee' : e = e' := by omega
    subst hee'
    refine ⟨he, ?_⟩
    rw [hc]
    have hs := chooseK_snoc L now (l := p) (by omega) x
    rw [less_ff hx hl] at hs
    refine ⟨fun hlt => ?_, fun hlt => ?_⟩
    · rw [if_pos (decide_eq_true hlt)] at hs
      exact .late p.length (by simp) (by rw [hs, get_new]) (by rw [hs]; exact hx)
    · rw [if_neg (by rw [decide_eq_false hlt]; decide)] at hs
      exact .late e (by simp; omega) (by rw [hs, get_old he]; exact hc) (by rw [hs]; exact hl)
  | some b e hb he hc hl =>
    have hs := chooseK_snoc L now (l := p) (by omega) x
    rw [less_ft hx hl, if_neg (by decide)] at hs
    have go : ∀ e2 : Nat, e2 < (p ++ [x]).length → Cho L now (p ++ [x]) b e2 := fun e2 h2 =>
      .some b e2 (by simp; omega) h2 (by rw [hs, get_old hb]; exact hc) (by rw [hs]; exact hl)
    refine ⟨fun h => by omega, fun e' hee => ?_⟩
    have hee' : e = e' := by omega
    subst hee'
    exact ⟨he, fun _ => go _ (by simp), fun _ => go _ (by simp; omega)⟩
/-- a server that may be asked -/
theorem Cho.some_step {L : List Kn} {now x : Int} {p : List Int} {b e : Int} (h : Cho L now p b e) (hx : erl L now x = true) :
    (b < 0 → ∀ e2 : Nat, e2 < p.length + 1 → Cho L now (p ++ [x]) p.length e2) ∧ (∀ b' : Nat, b = b' → ∃ hb : b' < p.length, ((ofD L x).t < (ofD L p[b']).t → ∀ e2 : Nat, e2 < p.length + 1 → Cho L now (p ++ [x]) p.length e2) ∧ (¬ (ofD L x).t < (ofD L p[b']).t → ∀ e2 : Nat, e2 < p.length + 1 → Cho L now (p ++ [x]) b' e2)) ∧
    (∀ e' : Nat, e = e' → e' < p.length) ∧ (e < 0 → p = []) := by
  have new : chooseK L now (p ++ [x]) = x → ∀ e2 : Nat, e2 < p.length + 1 → Cho L now (p ++ [x]) p.length e2 := fun hs e2 h2 =>
    .some p.length e2 (by simp) (by simp; omega) (by rw [hs, get_new]) (by rw [hs]; exact hx)
  cases h with
  | none hp =>
    subst hp
    exact ⟨fun _ => new rfl, fun b' hb => by omega, fun e' he => by omega, fun _ => rfl⟩
  | late e he hc hl =>
    have hs := chooseK_snoc L now (l := p) (by omega) x
    rw [less_tf hx hl, if_pos rfl] at hs
    exact ⟨fun _ => new hs, fun b' hb => by omega, fun e' h => by omega, fun h => by omega⟩
  | some b e hb he hc hl =>
    have hs := chooseK_snoc L now (l := p) (by omega) x
    rw [less_tt hx hl] at hs
    refine ⟨fun h => by omega, fun b' hbb => ?_, fun e' h => by omega, fun h => by omega⟩
    have hbb' : b = b' := by omega
    subst hbb'
    refine ⟨hb, ?_⟩
    rw [hc]
    refine ⟨fun hlt => ?_, fun hlt e2 h2 => ?_⟩
    · rw [if_pos (decide_eq_true hlt)] at hs
      exact new hs
    · rw [if_neg (by rw [decide_eq_false hlt]; decide)] at hs
      exact .some b e2 (by simp; omega) (by simp; omega) (by rw [hs, get_old hb]; exact hc) (by rw [hs]; exact hl)
/-- what is told in the end -/
theorem Cho.done {L : List Kn} {now : Int} {p : List Int} {b e : Int} (h : Cho L now p b e) (h0 : 0 < p.length) :
    (b < 0 → ∃ (e' : Nat) (he : e' < p.length), e = e' ∧ p[e'] = chooseK L now p) ∧ (¬ b < 0 → ∃ (b' : Nat) (hb : b' < p.length), b = b' ∧ p[b'] = chooseK L now p) := by
  cases h with
  | none hp => subst hp; simp at h0
  | late e he hc hl => exact ⟨fun _ => ⟨e, he, rfl, hc⟩, fun h => by omega⟩
  | some b e hb he hc hl => exact ⟨fun h => by omega, fun _ => ⟨b, hb, rfl, hc⟩⟩
/-- one of the list; may be asked if any may; of those none with a shorter round trip -/
theorem bestK_law (L : List Kn) (now : Int) : ∀ (l : List Int) (m : Int), (bestK L now m l = m ∨ bestK L now m l ∈ l) ∧ (∀ y, y = m ∨ y ∈ l → erl L now y = true → erl L now (bestK L now m l) = true ∧ (ofD L (bestK L now m l)).t ≤ (ofD L y).t)
  | [], m => ⟨.inl rfl, fun y hy he => by
      rcases hy with rfl | hy
      · exact ⟨he, Int.le_refl _⟩
      · cases hy⟩
  | x :: r, m => by
    have hcons : bestK L now m (x :: r) = bestK L now (if lessK L now x m = true then x else m) r := rfl
    rw [hcons]
    by_cases hl : lessK L now x m = true
    · rw [if_pos hl]
      obtain ⟨h1, h2⟩ := bestK_law L now r x
      have hm : bestK L now x r ∈ x :: r := h1.elim (fun h => by rw [h]; exact List.mem_cons_self) (fun h => List.mem_cons_of_mem _ h)
      refine ⟨.inr hm, fun y hy he => ?_⟩
      rcases hy with rfl | hy
      · have hx : erl L now x = true := by
          cases hx : erl L now x
          · rw [less_ft hx he] at hl; cases hl
          · rfl
        rw [less_tt hx he] at hl
        have := of_decide_eq_true hl
        obtain ⟨g1, g2⟩ := h2 x (.inl rfl) hx
        exact ⟨g1, by omega⟩
      · rcases List.mem_cons.1 hy with rfl | hy
        · exact h2 _ (.inl rfl) he
        · exact h2 y (.inr hy) he
    · rw [if_neg hl]
      obtain ⟨h1, h2⟩ := bestK_law L now r m
      refine ⟨h1.imp id (fun h => List.mem_cons_of_mem _ h), fun y hy he => ?_⟩
      rcases hy with rfl | hy
      · exact h2 _ (.inl rfl) he
      · rcases List.mem_cons.1 hy with rfl | hy
        · have hm : erl L now m = true := by
            cases hm : erl L now m
            · rw [less_tf he hm] at hl; exact absurd rfl hl
            · rfl
          rw [less_tt he hm] at hl
          have hl' : ¬ (ofD L y).t < (ofD L m).t := fun h => hl (decide_eq_true h)
          obtain ⟨g1, g2⟩ := h2 m (.inl rfl) hm
          exact ⟨g1, by omega⟩
        · exact h2 y (.inr hy) he
end Go.Proofs.Ytjkeijjfjbcaiaa
