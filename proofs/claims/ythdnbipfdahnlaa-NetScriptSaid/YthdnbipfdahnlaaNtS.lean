/- Slices of the call's own that begin inside their block: reading, cutting, appending; copy of elements of many cells. Nothing of the program. -/
import Derived.Test.YthdnbipfdahnlaaNtA
import Derived.Lib.AppendZerosOnto
import Derived.Lib.Overlaps
namespace Go.Proofs.Ythdnbipfdahnlaa
open Go Go.RowKit
theorem rowOf_splice {α : Type} (E : Enc α) (C R : List α) (i : Nat) : splice (rowOf E C) (i * E.k) (rowOf E R) = rowOf E (splice C i R) := by
  unfold splice
  rw [rowOf_append, rowOf_append, rowOf_take, rowOf_length, ← Nat.add_mul, rowOf_drop]
theorem rowOf_one1 {α : Type} (E : Enc α) (x : α) : rowOf E [x] = E.f x := by simp [rowOf]
/-- v is a slice of the call's own: of no capacity, or from place o on in block g -/
def OwnS {α : Type} (E : Enc α) (w : World) (v : Value) (l : List α) (ob : Option Nat) : Prop :=
  ∃ a cap, v = .slice a l.length cap ∧ cap ≤ maxLen ∧ ((ob = none ∧ cap = 0 ∧ l = []) ∨
    ∃ g o X, ob = some g ∧ 0 < cap ∧ a = some ⟨g, o * E.k, none⟩ ∧ Blk w g E.e (0, 0) (rowOf E X) ∧ X.length = o + cap ∧ l.length ≤ cap ∧ (X.drop o).take l.length = l)
section
variable {α : Type} {E : Enc α}
theorem OwnS.nil (E : Enc α) (w : World) : OwnS E w (.slice none 0 0) [] none := ⟨none, 0, rfl, Nat.zero_le _, .inl ⟨rfl, rfl, rfl⟩⟩
theorem OwnS.tch {w w' : World} {v : Value} {l : List α} {ob : Option Nat} {S : Nat → Prop} (h : OwnS E w v l ob) (t : Tch S w w') (hn : ∀ g, ob = some g → ¬ S g) : OwnS E w' v l ob := by
  obtain ⟨a, cap, h1, h2, h3 | ⟨g, o, X, h3, h4, h5, h6, r⟩⟩ := h
  · exact ⟨a, cap, h1, h2, .inl h3⟩
  · exact ⟨a, cap, h1, h2, .inr ⟨g, o, X, h3, h4, h5, t.blk h6 (hn g h3), r⟩⟩
theorem OwnS.ext {w w' : World} {v : Value} {l : List α} {ob : Option Nat} (h : OwnS E w v l ob) (hb : Below w.heap.size w w') : OwnS E w' v l ob := h.tch (Tch.of_below (S := fun _ => False) hb) (fun _ _ h => h)
theorem OwnS.lt {w : World} {v : Value} {l : List α} {ob : Option Nat} (h : OwnS E w v l ob) : ∀ g, ob = some g → g < w.heap.size := by
  intro g hg
  obtain ⟨a, cap, h1, h2, ⟨h3, _⟩ | ⟨g', o, X, h3, h4, h5, h6, r⟩⟩ := h
  · rw [h3] at hg; cases hg
  · rw [h3] at hg
    cases hg
    exact h6.lt
theorem OwnS.ofOwn {w : World} {b : Nat} {v : Value} {l : List α} (h : Own E w b v l) : ∃ ob, OwnS E w v l ob ∧ (ob = none ∨ ob = v.ownBlock) := by
  rcases h with ⟨rfl, rfl⟩ | ⟨g, cap, X, rfl, hbg, hB, hX, hle, hcm, htk⟩
  · exact ⟨none, OwnS.nil E w, .inl rfl⟩
  · by_cases h0 : cap = 0
    · subst h0
      have hl : l = [] := List.eq_nil_of_length_eq_zero (by omega)
      exact ⟨none, ⟨_, _, rfl, hcm, .inl ⟨rfl, rfl, hl⟩⟩, .inl rfl⟩
    · refine ⟨some g, ⟨_, cap, rfl, hcm, .inr ⟨g, 0, X, rfl, by omega, by simp, hB, by omega, hle, by simpa using htk⟩⟩, .inr (by simp [Value.ownBlock])⟩
theorem OwnS.rd {w : World} {v : Value} {l : List α} {ob : Option Nat} (h : OwnS E w v l ob) : ∃ a c, v = .slice a l.length c ∧ Rd E w a l.length c l := by
  obtain ⟨a, cap, h1, h2, ⟨h3, h4, h5⟩ | ⟨g, o, X, h3, h4, h5, h6, h7, h8, h9⟩⟩ := h
  · subst h5
    exact ⟨a, cap, h1, Rd.zero _ _ _ _ h2⟩
  · refine ⟨a, cap, h1, rfl, h8, h2, fun j hj i hi => ⟨g, o * E.k, h5, ?_⟩⟩
    rw [h6.cell, show o * E.k + (j * E.k + i) = (o + j) * E.k + i by rw [Nat.add_mul]; omega, rowOf_get E X (o + j) i (by omega) hi]
    congr 2
    have e : l[j] = ((X.drop o).take l.length)[j]'(by rw [List.length_take, List.length_drop]; omega) := by congr 1; exact h9.symm
    rw [e, List.getElem_take, List.getElem_drop]
theorem OwnS.shape {w : World} {v : Value} {l : List α} {ob : Option Nat} (h : OwnS E w v l ob) : ∃ a c, v = .slice a l.length c := by obtain ⟨a, c, e, _⟩ := h; exact ⟨a, c, e⟩
/-- the rest behind the first element -/
theorem OwnS.tail {P : Program} {w : World} {v : Value} {x : α} {l : List α} {ob : Option Nat} (h : OwnS E w v (x :: l) ob) (t : TypeId) (ht : P.underlying t = some (.slice E.e)) (hs : (P.info? E.e).map (·.size) = some E.k) :
    ∃ v', (∀ u, (Instr.slice t v (some (.int .i64 1)) none none).run P u = .ok v' u) ∧ ∃ ob', OwnS E w v' l ob' ∧ (ob' = ob ∨ ob' = none) := by
  obtain ⟨a, cap, rfl, h2, ⟨_, _, h5⟩ | ⟨g, o, X, h3, h4, h5, h6, h7, h8, h9⟩⟩ := h
  · cases h5
  · have hl : (x :: l).length = l.length + 1 := rfl
    subst h5
    have ee := elem_of ht
    have hr := fun u => run_slice_l (P := P) u t (some ⟨g, o * E.k, none⟩) (x :: l).length cap (by rw [ee]; exact ht) .i64 1 (by simp) (by rw [hl] at h8 ⊢; omega)
    have hrun : ∀ u, (Instr.slice t (.slice (some ⟨g, o * E.k, none⟩) (x :: l).length cap) (some (.int .i64 1)) none none).run P u = .ok (.slice (if cap = 1 then some ⟨g, o * E.k, none⟩ else some ⟨g, (o + 1) * E.k, none⟩) l.length (cap - 1)) u := fun u => by
      rw [hr, ee, run_sizeOf_info hs]
      have e : o * E.k + E.k = (o + 1) * E.k := by rw [Nat.add_mul, Nat.one_mul]
      have hp := E.pos
      have hne : ¬ E.k = 0 := by omega
      simp [Result.andThen, sliced, Addr.add, e, hne]
    refine ⟨_, hrun, ?_⟩
    by_cases c1 : cap = 1
    · have hl0 : l = [] := List.eq_nil_of_length_eq_zero (by rw [hl] at h8; omega)
      subst hl0
      exact ⟨none, ⟨_, cap - 1, rfl, by omega, .inl ⟨rfl, by omega, rfl⟩⟩, .inr rfl⟩
    · rw [if_neg c1]
      refine ⟨some g, ⟨_, cap - 1, rfl, by omega, .inr ⟨g, o + 1, X, rfl, by omega, rfl, h6, by omega, by rw [hl] at h8; omega, ?_⟩⟩, .inl h3.symm⟩
      have h10 := congrArg (List.drop 1) h9
      rw [List.drop_take, List.drop_drop, hl] at h10
      simpa [Nat.add_comm] using h10
/-- append behind it -/
theorem run_append_OwnS {P : Program} (E : Enc α) (w : World) (t tx ty : TypeId) (i : TypeInfo) (z : Value) (bytes : Nat) (ht : P.underlying t = some (.slice E.e)) (hi : P.info? E.e = some i) (hz : i.zero = some z)
    (hsize : i.size = E.k) (hby : i.bytes = bytes) (hzc : z.cells.toList = E.f E.z) (v : Value) (l : List α) (ob : Option Nat) (hown : OwnS E w v l ob) (x : Value) (news : List α) (hs : Src P E.k tx x news.length (rowOf E news) w) (h0 : 0 < news.length)
    (h63 : l.length + news.length ≤ maxLen) (hbytes : (l.length + news.length) * bytes ≤ 140737488355328) :
    ∃ v' w' ob', (Builtin.append_ #[t, tx] ty #[v, x]).run P w = .ok v' w' ∧ OwnS E w' v' (l ++ news) ob' ∧ Tch (fun k => ob = some k) w w' ∧ (ob' = ob ∨ ob' = some w.heap.size) := by
  subst hby
  have h63' : ((l.length + news.length : Nat) : Int) ≤ 9223372036854775807 := by simp only [maxLen] at h63; omega
  have newRow : ∀ old, old < l.length + news.length → OwnS E (w.drew.alloc (.cells ((rowOf E l ++ rowOf E news).toArray ++ Builtin.zeroCells z.cells (grownCap w (l.length + news.length) old E.e - (l.length + news.length))) E.e))
      (.slice (some ⟨w.heap.size, 0, none⟩) (l.length + news.length) (grownCap w (l.length + news.length) old E.e)) (l ++ news) (some w.heap.size) := by
    intro old ho
    have hge := grownCap_ge w (l.length + news.length) old E.e
    have hcm : grownCap w (l.length + news.length) old E.e ≤ maxLen := grownCap_le_maxLen w (l.length + news.length) old E.e h63
    refine ⟨some ⟨w.heap.size, 0, none⟩, grownCap w (l.length + news.length) old E.e, by simp, hcm, .inr ⟨w.heap.size, 0, l ++ news ++ List.replicate (grownCap w (l.length + news.length) old E.e - (l.length + news.length)) E.z, rfl, by omega, by simp, ?_, ?_, ?_, ?_⟩⟩
    · have := Blk.new w.drew E.e (0, 0) ((rowOf E l ++ rowOf E news).toArray ++ Builtin.zeroCells z.cells (grownCap w (l.length + news.length) old E.e - (l.length + news.length)))
      rw [Array.toList_append, rowOf_replicate E _ _ hzc] at this
      rw [rowOf_append, rowOf_append]
      exact this
    · simp; omega
    · simp; omega
    · rw [List.drop_zero, List.take_left' rfl]
  have tnew : ∀ o, Tch (fun k => ob = some k) w (w.drew.alloc o) := fun o => Tch.of_below (((Below.refl _ w).drew).alloc (Nat.le_refl _) o)
  obtain ⟨a, cap, rfl, h2, ⟨h3, h4, h5⟩ | ⟨g, o, X, h3, h4, h5, h6, h7, h8, h9⟩⟩ := hown
  · subst h4 h5
    have hold : (Builtin.firstCells i.size 0 (.slice a 0 0)).run P w.drew = .ok ([] : List Value).toArray w.drew := by
      cases a with
      | none => exact run_firstCells_none w.drew i.size 0 0 0
      | some a => exact run_firstCells_some w.drew i.size 0 a 0 0 [] (by simp) (fun j u hj => by simp at hj)
    have hr := run_append_grow_src (P := P) w t tx ty E.e i z ht hi hz a 0 0 [] hold x news.length (rowOf E news) (by rw [hsize]; exact hs) (by omega) (by simpa using h63') (growslice_fits (by omega) (by simpa using hbytes))
    have hn := newRow 0 (by simpa using h0)
    exact ⟨_, _, _, hr, by simpa [rowOf] using hn, tnew _, .inr rfl⟩
  · by_cases hroom : l.length + news.length ≤ cap
    · have hRl : (rowOf E X).length = (o + cap) * E.k := by rw [rowOf_length, h7]
      have hnl : (rowOf E news).length = news.length * E.k := rowOf_length E news
      have hfit : o * E.k + l.length * E.k + news.length * E.k ≤ (o + cap) * E.k := by rw [← Nat.add_mul, ← Nat.add_mul]; exact Nat.mul_le_mul_right _ (by omega)
      have hc : ∀ j, j < (rowOf E news).length → (w.cell? ⟨g, o * E.k + l.length * i.size + j, none⟩).isSome = true := by
        intro j hj
        rw [h6.cell, hsize, List.getElem?_eq_getElem (by rw [hRl]; omega)]; rfl
      have hf : ∀ j, j < (rowOf E news).length → w.frozen? ⟨g, o * E.k + l.length * i.size + j, none⟩ = false := by
        intro j _; rw [h6.frozen]; simp
      subst h5
      have hr := run_append_room_src (P := P) w t tx ty E.e i ht hi g (o * E.k) l.length cap x news.length (rowOf E news) (by rw [hsize]; exact hs) hroom hc hf
      refine ⟨_, _, some g, hr, ?_, ?_, .inl h3.symm⟩
      · refine ⟨_, cap, by simp, h2, .inr ⟨g, o, splice X (o + l.length) news, rfl, h4, rfl, ?_, ?_, by simp; omega, ?_⟩⟩
        · rw [hsize, ← Nat.add_mul]
          have h := setCells_blk (rowOf E news) ((o + l.length) * E.k) w h6 (by rw [hRl, hnl, Nat.add_mul]; omega)
          rw [rowOf_splice] at h; exact h
        · unfold splice; simp; omega
        · unfold splice
          rw [List.drop_append, List.drop_take, List.length_take, List.length_append]
          have e1 : o + l.length - o = l.length := by omega
          have e2 : o - min (o + l.length) X.length = 0 := by omega
          rw [e1, e2, List.drop_zero, h9, List.take_append]
          simp
          exact List.take_of_length_le (by omega)
      · refine Tch.of_grown (row := some g) ⟨setCells_os _ _ _ _, setCells_tape _ _ _ _, setCells_output _ _ _ _, Nat.le_of_eq (setCells_size _ _ _ _).symm, fun k _ hk => setCells_other g (fun e => hk (by rw [e])) _ _ _⟩ (fun k hk => by rw [h3, hk])
    · have hgrow : cap < l.length + news.length := by omega
      have hn := newRow cap hgrow
      subst h5
      have hold : (Builtin.firstCells i.size l.length (.slice (some ⟨g, o * E.k, none⟩) l.length cap)).run P w.drew = .ok (rowOf E l).toArray w.drew := by
        refine run_firstCells_some w.drew i.size l.length ⟨g, o * E.k, none⟩ l.length cap (rowOf E l) (by rw [rowOf_length, hsize]) ?_
        intro j u hj
        rw [Addr.add_lit, World.cell?_drew, h6.cell]
        rw [← h9, ← rowOf_take, ← rowOf_drop, List.getElem?_take, List.getElem?_drop] at hj
        split at hj
        · exact hj
        · cases hj
      have hr := run_append_grow_src (P := P) w t tx ty E.e i z ht hi hz (some ⟨g, o * E.k, none⟩) l.length cap (rowOf E l) hold x news.length (rowOf E news) (by rw [hsize]; exact hs) hgrow h63' (growslice_fits hgrow hbytes)
      exact ⟨_, _, _, hr, hn, tnew _, .inr rfl⟩
end
/-- copy of elements of k cells: all is read before anything is written -/
theorem run_copy_k {P : Program} (w : World) (dT sT ty elem : TypeId) (k b o dLen dCap : Nat) (a : Addr) (sLen sCap : Nat) (cs : List Value)
    (hu : P.underlying dT = some (.slice elem)) (hs : (P.info? elem).map (·.size) = some k) (n : Nat) (hn : n = Nat.min sLen dLen) (hcs : cs.length = n * k)
    (hsrc : ∀ j v, cs[j]? = some v → w.cell? (a.add j) = some v) (hc : ∀ j, j < cs.length → (w.cell? ⟨b, o + j, none⟩).isSome = true) (hf : ∀ j, j < cs.length → w.frozen? ⟨b, o + j, none⟩ = false) (h1 : ∀ v ∈ cs, v.oneCell' = true) :
    (Builtin.copy_ #[dT, sT] ty #[.slice (some ⟨b, o, none⟩) dLen dCap, .slice (some a) sLen sCap]).run P w = .ok (goInt n) (w.setCells b o cs) := by
  have hl := run_loadCells_list (P := P) w a cs hsrc
  have hst := run_storeCells_cells (P := P) b o cs 0 w (by simpa using hc) (by simpa using hf) h1
  cases hq : P.info? elem with
  | none => simp [hq] at hs
  | some i =>
    have hi : i.size = k := by simpa [hq] using hs
    rw [hcs] at hl
    simp [Builtin.copy_, run_underlying hu, Builtin.lenOf, Builtin.firstCells, sizeOf, typeInfo, hq, hi, ← hn, hl, hst]
/-- what lies in the block when an element was inserted in place -/
theorem ins_place {α : Type} {X l : List α} {o cap i : Nat} (x : α) (hX : X.length = o + cap) (hl : (X.drop o).take l.length = l) (hi : i ≤ l.length) (hr : l.length + 1 ≤ cap) :
    ((splice (splice X (o + (i + 1)) (l.drop i)) (o + i) [x]).drop o).take (l.length + 1) = l.take i ++ [x] ++ l.drop i := by
  have hlen : (l.drop i).length = l.length - i := List.length_drop
  have hp : (l.take i).length = i := by rw [List.length_take]; omega
  have e0 : X.take (o + i) = X.take o ++ l.take i := by
    rw [List.take_add, ← hl, List.take_take, Nat.min_eq_left (by omega)]
  have eA : (X.take o).length = o := by rw [List.length_take]; omega
  have eT : (X.take (o + (i + 1))).length = o + i + 1 := by rw [List.length_take]; omega
  unfold splice
  generalize X.drop (o + (i + 1) + (l.drop i).length) = R
  have y1 : (X.take (o + (i + 1)) ++ (l.drop i ++ R)).take (o + i) = X.take o ++ l.take i := by
    rw [List.take_append_of_le_length (by rw [eT]; omega), List.take_take, Nat.min_eq_left (by omega), e0]
  have y2 : (X.take (o + (i + 1)) ++ (l.drop i ++ R)).drop (o + i + [x].length) = l.drop i ++ R := by
    exact List.drop_left' (by rw [eT]; rfl)
  rw [y1, y2]
  have e : X.take o ++ l.take i ++ ([x] ++ (l.drop i ++ R)) = X.take o ++ ((l.take i ++ [x] ++ l.drop i) ++ R) := by simp
  rw [e, List.drop_left' eA]
  exact List.take_left' (by simp; omega)
theorem ins_place_len {α : Type} {X l : List α} {o cap i : Nat} (x : α) (hX : X.length = o + cap) (hi : i ≤ l.length) (hr : l.length + 1 ≤ cap) : (splice (splice X (o + (i + 1)) (l.drop i)) (o + i) [x]).length = o + cap := by
  unfold splice
  simp
  omega
/-- what lies in the new block when there was no room -/
theorem ins_new {α : Type} {l : List α} {i n : Nat} (x z : α) (R : List α) (hi : i ≤ l.length) (_hn : n = l.length + 1 - i) :
    ((splice (splice (l.take i ++ List.replicate n z ++ R) i [x]) (i + 1) (l.drop i))).take (l.length + 1) = l.take i ++ [x] ++ l.drop i := by
  have hp : (l.take i).length = i := by rw [List.length_take]; omega
  have hlen : (l.drop i).length = l.length - i := List.length_drop
  have e1 : splice (l.take i ++ List.replicate n z ++ R) i [x] = l.take i ++ ([x] ++ (List.replicate n z ++ R).drop 1) := by
    unfold splice
    rw [List.append_assoc, List.take_left' hp]
    congr 2
    rw [show i + [x].length = (l.take i).length + 1 by simp [hp], ← List.drop_drop, List.drop_left]
  rw [e1]
  unfold splice
  have e2 : (l.take i ++ ([x] ++ (List.replicate n z ++ R).drop 1)).take (i + 1) = l.take i ++ [x] := by
    rw [← List.append_assoc]
    exact List.take_left' (by simp; omega)
  rw [e2, ← List.append_assoc]
  exact List.take_left' (by simp; omega)
theorem ins_new_len {α : Type} {l : List α} {i n : Nat} (x z : α) (R : List α) (hi : i ≤ l.length) (hn : n = l.length + 1 - i) : (splice (splice (l.take i ++ List.replicate n z ++ R) i [x]) (i + 1) (l.drop i)).length = l.length + 1 + R.length := by
  unfold splice
  simp
  omega
end Go.Proofs.Ythdnbipfdahnlaa
