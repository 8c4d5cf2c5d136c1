/- Rows of the call's own, all cells known to their capacity; appends onto them; readings of slices. Nothing of the program. -/
import Derived.Test.YtojdjhicjhhblaaDoorLib
import Derived.Deep.AppendSrc
import Derived.Laws.OwnMore
import Derived.Laws.IdiomCopy
import Derived.Laws.CopyOwn
namespace Go.Proofs.YtojdjhicjhhblaaDoor
open Go.RowKit

/-- how elements lie in cells -/
structure Enc (α : Type) where
  e : TypeId
  k : Nat
  f : α → List Value
  z : α
  len : ∀ x, (f x).length = k
  one : ∀ x, ∀ v ∈ f x, v.oneCell' = true
  pos : 0 < k

def rowOf {α : Type} (E : Enc α) (l : List α) : List Value := l.flatMap E.f
theorem rowOf_length {α : Type} (E : Enc α) (l : List α) : (rowOf E l).length = l.length * E.k := by
  induction l with
  | nil => simp [rowOf]
  | cons x r ih => simp only [rowOf, List.flatMap_cons, List.length_append, E.len, List.length_cons] at ih ⊢; rw [ih, Nat.add_mul]; omega
theorem rowOf_append {α : Type} (E : Enc α) (a b : List α) : rowOf E (a ++ b) = rowOf E a ++ rowOf E b := by simp [rowOf]
theorem rowOf_one {α : Type} (E : Enc α) (l : List α) : ∀ v ∈ rowOf E l, v.oneCell' = true := by
  intro v hv; simp [rowOf] at hv; obtain ⟨x, _, hx⟩ := hv; exact E.one x v hx
theorem rowOf_take {α : Type} (E : Enc α) (l : List α) (n : Nat) : (rowOf E l).take (n * E.k) = rowOf E (l.take n) := by
  induction l generalizing n with
  | nil => simp [rowOf]
  | cons x r ih =>
    cases n with
    | zero => simp [rowOf]
    | succ n =>
      have := ih n
      simp only [rowOf, List.flatMap_cons, List.take_succ_cons] at this ⊢
      rw [List.take_append, E.len, List.take_of_length_le (by rw [E.len, Nat.add_mul]; omega), show (n + 1) * E.k - E.k = n * E.k by rw [Nat.add_mul]; omega, this]
theorem rowOf_drop {α : Type} (E : Enc α) (l : List α) (n : Nat) : (rowOf E l).drop (n * E.k) = rowOf E (l.drop n) := by
  induction l generalizing n with
  | nil => simp [rowOf]
  | cons x r ih =>
    cases n with
    | zero => simp [rowOf]
    | succ n =>
      have := ih n
      simp only [rowOf, List.flatMap_cons, List.drop_succ_cons] at this ⊢
      rw [List.drop_append, E.len, List.drop_of_length_le (by rw [E.len, Nat.add_mul]; omega), show (n + 1) * E.k - E.k = n * E.k by rw [Nat.add_mul]; omega, this]; rfl
theorem rowOf_get {α : Type} (E : Enc α) (l : List α) (j i : Nat) (hj : j < l.length) (hi : i < E.k) : (rowOf E l)[j * E.k + i]? = (E.f l[j])[i]? := by
  have h1 : (rowOf E l)[j * E.k + i]? = ((rowOf E l).drop (j * E.k))[i]? := by rw [List.getElem?_drop]
  rw [h1, rowOf_drop, List.drop_eq_getElem_cons hj]
  simp only [rowOf, List.flatMap_cons]
  rw [List.getElem?_append_left (by rw [E.len]; exact hi)]
theorem rowOf_replicate {α : Type} (E : Enc α) (n : Nat) (z : Array Value) (hz : z.toList = E.f E.z) : (Builtin.zeroCells z n).toList = rowOf E (List.replicate n E.z) := by
  have hs : z.size = E.k := by rw [← Array.length_toList, hz, E.len]
  have hp := E.pos
  apply List.ext_getElem?
  intro m
  by_cases hm : m < n * E.k
  · have hq : m / E.k < n := (Nat.div_lt_iff_lt_mul hp).2 hm
    have hr : m % E.k < E.k := Nat.mod_lt _ hp
    have e : m = m / E.k * E.k + m % E.k := by rw [Nat.mul_comm]; exact (Nat.div_add_mod m E.k).symm
    have h2 := rowOf_get E (List.replicate n E.z) (m / E.k) (m % E.k) (by simpa using hq) hr
    rw [← e] at h2
    rw [h2]
    simp only [Builtin.zeroCells, List.getElem_replicate, Array.getElem?_toList, Array.getElem?_map, hs]
    rw [Array.getElem?_range, if_pos (by exact hm)]
    simp only [Option.map_some]
    rw [← hz, Array.getElem?_toList, getElem!_pos z (m % E.k) (by omega), Array.getElem?_eq_getElem (by omega)]
  · rw [List.getElem?_eq_none (by simp [Builtin.zeroCells, hs]; omega), List.getElem?_eq_none (by rw [rowOf_length]; simp; omega)]

theorem splice_cons {α : Type} (C : List α) (o : Nat) (v : α) (r : List α) (h : o < C.length) : splice (C.set o v) (o + 1) r = splice C o (v :: r) := by
  unfold splice
  have h1 : (C.set o v).take (o + 1) = C.take o ++ [v] := by
    rw [List.take_succ_eq_append_getElem (by simpa using h), List.take_set_of_le (Nat.le_refl _)]; simp
  have h2 : (C.set o v).drop (o + 1 + r.length) = C.drop (o + 1 + r.length) := List.drop_set_of_lt (by omega)
  rw [h1, h2, List.length_cons, List.append_assoc, show o + (r.length + 1) = o + 1 + r.length by omega]
  rfl
theorem setCells_blk {g : Nat} {e : TypeId} {fz : Nat × Nat} : ∀ (vs : List Value) (o : Nat) (w : World) {C : List Value}, Blk w g e fz C → o + vs.length ≤ C.length → Blk (w.setCells g o vs) g e fz (splice C o vs)
  | [], o, w, C, h, _ => by
    have : splice C o [] = C := by simp [splice]
    rw [this]; exact h
  | v :: r, o, w, C, h, hl => by
    have := setCells_blk r (o + 1) _ (h.set o v) (by simp at hl ⊢; omega)
    rw [splice_cons C o v r (by simp at hl; omega)] at this
    exact this
theorem setCells_size (g : Nat) : ∀ (vs : List Value) (o : Nat) (w : World), (w.setCells g o vs).heap.size = w.heap.size
  | [], _, _ => rfl
  | v :: r, o, w => by rw [World.setCells, setCells_size g r]; simp
theorem setCells_tape (g : Nat) : ∀ (vs : List Value) (o : Nat) (w : World), (w.setCells g o vs).tape = w.tape
  | [], _, _ => rfl
  | v :: r, o, w => by rw [World.setCells, setCells_tape g r]; rfl
theorem setCells_os (g : Nat) : ∀ (vs : List Value) (o : Nat) (w : World), (w.setCells g o vs).os = w.os
  | [], _, _ => rfl
  | v :: r, o, w => by rw [World.setCells, setCells_os g r]; rfl
theorem setCells_output (g : Nat) : ∀ (vs : List Value) (o : Nat) (w : World), (w.setCells g o vs).output = w.output
  | [], _, _ => rfl
  | v :: r, o, w => by rw [World.setCells, setCells_output g r]; rfl
theorem setCells_other (g : Nat) {k : Nat} (hk : k ≠ g) : ∀ (vs : List Value) (o : Nat) (w : World), (w.setCells g o vs).heap[k]? = w.heap[k]?
  | [], _, _ => rfl
  | v :: r, o, w => by rw [World.setCells, setCells_other g hk r]; exact Below.heap_setCell _ _ _ _ hk

/-- v is a slice of the call's own: nil, or at the head of a block from base on, whose cells are those of X up to the capacity; its elements are l -/
def Own {α : Type} (E : Enc α) (w : World) (base : Nat) (v : Value) (l : List α) : Prop :=
  (v = .slice none 0 0 ∧ l = []) ∨ ∃ g cap X, v = .slice (some ⟨g, 0, none⟩) l.length cap ∧ base ≤ g ∧ Blk w g E.e (0, 0) (rowOf E X) ∧ X.length = cap ∧ l.length ≤ cap ∧ cap ≤ maxLen ∧ X.take l.length = l

theorem Own.nil {α : Type} (E : Enc α) (w : World) (base : Nat) : Own E w base (.slice none 0 0) [] := .inl ⟨rfl, rfl⟩
theorem Own.ext {α : Type} {E : Enc α} {w w' : World} {base : Nat} {v : Value} {l : List α} (h : Own E w base v l) (hb : Below w.heap.size w w') : Own E w' base v l := by
  rcases h with h | ⟨g, cap, X, h1, h2, h3, r⟩
  · exact .inl h
  · exact .inr ⟨g, cap, X, h1, h2, h3.below hb h3.lt, r⟩
theorem Own.keep {α : Type} {E : Enc α} {w w' : World} {base : Nat} {v : Value} {l : List α} (h : Own E w base v l) (hb : ∀ k, v.ownBlock = some k → w'.heap[k]? = w.heap[k]?) : Own E w' base v l := by
  rcases h with h | ⟨g, cap, X, rfl, h2, h3, r⟩
  · exact .inl h
  · exact .inr ⟨g, cap, X, rfl, h2, (hb g rfl).trans h3, r⟩
theorem Own.lt {α : Type} {E : Enc α} {w : World} {base : Nat} {v : Value} {l : List α} (h : Own E w base v l) : ∀ k, v.ownBlock = some k → base ≤ k ∧ k < w.heap.size := by
  intro k hk
  rcases h with ⟨rfl, _⟩ | ⟨g, cap, X, rfl, h2, h3, _⟩
  · simp [Value.ownBlock] at hk
  · simp [Value.ownBlock] at hk; subst hk; exact ⟨h2, h3.lt⟩
theorem Own.shape {α : Type} {E : Enc α} {w : World} {base : Nat} {v : Value} {l : List α} (h : Own E w base v l) : ∃ a cap, v = .slice a l.length cap := by
  rcases h with ⟨rfl, rfl⟩ | ⟨g, cap, X, rfl, _⟩
  · exact ⟨_, _, rfl⟩
  · exact ⟨_, _, rfl⟩
theorem Own.mono {α : Type} {E : Enc α} {w : World} {base base' : Nat} {v : Value} {l : List α} (h : Own E w base v l) (hb : base' ≤ base) : Own E w base' v l := by
  rcases h with h | ⟨g, cap, X, h1, h2, r⟩
  · exact .inl h
  · exact .inr ⟨g, cap, X, h1, by omega, r⟩
/-- a literal, a make: a new block -/
theorem Own.made {α : Type} (E : Enc α) (w : World) (C : Array Value) (l : List α) (n : Nat) (hC : C.toList = rowOf E l) (hn : n = l.length) (hm : n ≤ maxLen) : Own E (w.alloc (.cells C E.e)) w.heap.size (.slice (some ⟨w.heap.size, 0, none⟩) n n) l := by
  subst hn
  refine .inr ⟨w.heap.size, _, l, rfl, Nat.le_refl _, ?_, rfl, Nat.le_refl _, hm, by simp⟩
  rw [← hC]; exact Blk.new w E.e (0, 0) C

/-- append onto a slice of the call's own, whatever is appended -/
theorem run_append_Own {α : Type} {P : Program} (E : Enc α) (w : World) (base : Nat) (t tx ty : TypeId) (i : TypeInfo) (z : Value) (bytes : Nat) (ht : P.underlying t = some (.slice E.e)) (hi : P.info? E.e = some i) (hz : i.zero = some z)
    (hsize : i.size = E.k) (hby : i.bytes = bytes) (hzc : z.cells.toList = E.f E.z) (v : Value) (l : List α) (hown : Own E w base v l) (x : Value) (news : List α) (hs : Src P E.k tx x news.length (rowOf E news) w)
    (h63 : l.length + news.length ≤ maxLen) (hbytes : (l.length + news.length) * bytes ≤ 140737488355328) (hbase : base ≤ w.heap.size) :
    ∃ v' w', (Builtin.append_ #[t, tx] ty #[v, x]).run P w = .ok v' w' ∧ Own E w' base v' (l ++ news) ∧ w.grownBy w' v.ownBlock ∧ (v'.ownBlock = v.ownBlock ∨ v'.ownBlock = some w.heap.size) := by
  subst hby
  have h63' : ((l.length + news.length : Nat) : Int) ≤ 9223372036854775807 := by simp only [maxLen] at h63; omega
  have newRow : ∀ old, old < l.length + news.length → ∀ row, Own E (w.drew.alloc (.cells ((rowOf E l ++ rowOf E news).toArray ++ Builtin.zeroCells z.cells (grownCap w (l.length + news.length) old E.e - (l.length + news.length))) E.e)) base
      (.slice (some ⟨w.heap.size, 0, none⟩) (l.length + news.length) (grownCap w (l.length + news.length) old E.e)) (l ++ news) ∧
      w.grownBy (w.drew.alloc (.cells ((rowOf E l ++ rowOf E news).toArray ++ Builtin.zeroCells z.cells (grownCap w (l.length + news.length) old E.e - (l.length + news.length))) E.e)) row := by
    intro old ho row
    have hge := grownCap_ge w (l.length + news.length) old E.e
    have hcm : grownCap w (l.length + news.length) old E.e ≤ maxLen := grownCap_le_maxLen w (l.length + news.length) old E.e h63
    refine ⟨.inr ⟨w.heap.size, _, l ++ news ++ List.replicate (grownCap w (l.length + news.length) old E.e - (l.length + news.length)) E.z, by simp, hbase, ?_, ?_, ?_, hcm, ?_⟩, ⟨rfl, rfl, rfl, by simp, fun k hk _ => Below.heap_alloc w.drew _ k hk⟩⟩
    · have := Blk.new w.drew E.e (0, 0) ((rowOf E l ++ rowOf E news).toArray ++ Builtin.zeroCells z.cells (grownCap w (l.length + news.length) old E.e - (l.length + news.length)))
      rw [Array.toList_append, rowOf_replicate E _ _ hzc] at this
      rw [rowOf_append, rowOf_append]
      exact this
    · simp; omega
    · simp; omega
    · rw [List.take_left' rfl]
  rcases hown with ⟨rfl, rfl⟩ | ⟨g, cap, X, rfl, hbg, hB, hX, hle, hcm, htk⟩
  · by_cases h0 : news.length = 0
    · have hn : news = [] := List.eq_nil_of_length_eq_zero h0
      subst hn
      refine ⟨.slice none 0 0, w, ?_, Own.nil E w base, ⟨rfl, rfl, rfl, Nat.le_refl _, fun _ _ _ => rfl⟩, .inl rfl⟩
      have h1 := hs.len w
      have h2 := hs.cells
      rcases hs.kind with ⟨e', hk⟩ | hk <;> simp [Builtin.append_, run_underlying ht, run_underlying hk, sizeOf, typeInfo, hi, hsize, h1, h2] at *
    · have hgrow : 0 < 0 + news.length := by omega
      have hn := newRow 0 (by simpa using hgrow) (Value.ownBlock (.slice none 0 0))
      have hr := run_append_grow_src (P := P) w t tx ty E.e i z ht hi hz none 0 0 [] (run_firstCells_none w.drew i.size 0 0 0) x news.length (rowOf E news) (by rw [hsize]; exact hs) hgrow (by simpa using h63') (growslice_fits (by omega) (by simpa using hbytes))
      refine ⟨_, _, hr, ?_, ?_, .inr rfl⟩
      · simpa [rowOf] using hn.1
      · simpa [rowOf] using hn.2
  · by_cases hroom : l.length + news.length ≤ cap
    · have hRl : (rowOf E X).length = cap * E.k := by rw [rowOf_length, hX]
      have hnl : (rowOf E news).length = news.length * E.k := rowOf_length E news
      have hfit : l.length * E.k + news.length * E.k ≤ cap * E.k := by rw [← Nat.add_mul]; exact Nat.mul_le_mul_right _ hroom
      have hc : ∀ j, j < (rowOf E news).length → (w.cell? ⟨g, 0 + l.length * i.size + j, none⟩).isSome = true := by
        intro j hj
        rw [hB.cell, hsize, Nat.zero_add, List.getElem?_eq_getElem (by rw [hRl]; omega)]; rfl
      have hf : ∀ j, j < (rowOf E news).length → w.frozen? ⟨g, 0 + l.length * i.size + j, none⟩ = false := by
        intro j _; rw [hB.frozen]; simp
      have hr := run_append_room_src (P := P) w t tx ty E.e i ht hi g 0 l.length cap x news.length (rowOf E news) (by rw [hsize]; exact hs) hroom hc hf
      refine ⟨_, _, hr, ?_, ?_, .inl rfl⟩
      · refine .inr ⟨g, cap, l ++ news ++ X.drop (l.length + news.length), by simp, hbg, ?_, by simp; omega, by simp; omega, hcm, ?_⟩
        · rw [Nat.zero_add, hsize]
          have h := setCells_blk (rowOf E news) (l.length * E.k) w hB (by rw [hRl, hnl]; omega)
          have e : splice (rowOf E X) (l.length * E.k) (rowOf E news) = rowOf E (l ++ news ++ X.drop (l.length + news.length)) := by
            unfold splice
            rw [rowOf_take, htk, hnl, ← Nat.add_mul, rowOf_drop, rowOf_append, rowOf_append, List.append_assoc]
          rw [e] at h; exact h
        · rw [List.take_left' rfl]
      · refine ⟨setCells_os _ _ _ _, ?_, setCells_output _ _ _ _, ?_, fun k hk hne => ?_⟩
        · exact setCells_tape _ _ _ _
        · rw [setCells_size]; exact Nat.le_refl _
        · exact setCells_other g (fun e => hne (by simp [Value.ownBlock, e])) _ _ _
    · have hgrow : cap < l.length + news.length := by omega
      have hn := newRow cap hgrow (Value.ownBlock (.slice (some ⟨g, 0, none⟩) l.length cap))
      have hold : (Builtin.firstCells i.size l.length (.slice (some ⟨g, 0, none⟩) l.length cap)).run P w.drew = .ok (rowOf E l).toArray w.drew := by
        refine run_firstCells_some w.drew i.size l.length ⟨g, 0, none⟩ l.length cap (rowOf E l) (by rw [rowOf_length, hsize]) ?_
        intro j u hj
        rw [Addr.add_lit, World.cell?_drew, hB.cell, Nat.zero_add]
        rw [← htk, ← rowOf_take, List.getElem?_take] at hj
        split at hj
        · exact hj
        · cases hj
      have hr := run_append_grow_src (P := P) w t tx ty E.e i z ht hi hz (some ⟨g, 0, none⟩) l.length cap (rowOf E l) hold x news.length (rowOf E news) (by rw [hsize]; exact hs) hgrow h63' (growslice_fits hgrow hbytes)
      exact ⟨_, _, hr, hn.1, hn.2, .inr rfl⟩
end Go.Proofs.YtojdjhicjhhblaaDoor
