/- A pipe beside a map of the keys (for StreamOpen). -/
import Derived.Test.YtmimbfikjnfhdaaStO
namespace Go.Proofs.Ytmimbfikjnfhdaa
open Go.RowKit Go.Maps Go.WideShapes
section
variable {κ : Type} {P : Program} {k e : TypeId} {qe : IntKind}
/-- block b is a map that holds just f, s entries -/
def MpZ (K : KeyEnc κ P k) (e : TypeId) (qe : IntKind) (w : World) (b n : Nat) (f : κ → Option Int) (s : Nat) : Prop :=
  ∃ D : DataW Unit, (w.ownsMap P k (plainElem P e) b n D ∧ ∀ x, K.ok x →
    ((f x = none ∧ Maps.has D (K.l x) = false) ∨ ∃ v, f x = some v ∧ Maps.has D (K.l x) = true ∧ ∀ z, D.atKey (K.l x) z = .lit (.int qe v))) ∧ Maps.size D = s
theorem MpZ.mp {K : KeyEnc κ P k} {w : World} {b n s : Nat} {f : κ → Option Int} (h : MpZ K e qe w b n f s) : Mp K e qe w b n f := by obtain ⟨D, h, _⟩ := h; exact ⟨D, h⟩
theorem MpZ.made (K : KeyEnc κ P k) (e : TypeId) (qe : IntKind) (w : World) : MpZ K e qe (w.alloc (.map #[] 0)) w.heap.size 0 (fun _ => none) 0 :=
  ⟨_, ⟨World.ownsMap_made w P k _, fun _ _ => .inl ⟨rfl, rfl⟩⟩, rfl⟩
theorem MpZ.keep {K : KeyEnc κ P k} {w w' : World} {b n s : Nat} {f : κ → Option Int} (h : MpZ K e qe w b n f s) (hb : w'.heap[b]? = w.heap[b]?) : MpZ K e qe w' b n f s := by
  obtain ⟨D, ⟨⟨es, clock, h1, h2⟩, r⟩, z⟩ := h
  exact ⟨D, ⟨⟨es, clock, hb.trans h1, h2⟩, r⟩, z⟩
theorem MpZ.tch {K : KeyEnc κ P k} {w w' : World} {b n s : Nat} {f : κ → Option Int} {S : Nat → Prop} (h : MpZ K e qe w b n f s) (t : Tch S w w') (hn : ¬ S b) : MpZ K e qe w' b n f s := h.keep (t.block b h.mp.lt hn)
theorem MpZ.eq {K : KeyEnc κ P k} {w : World} {b n s : Nat} {f g : κ → Option Int} (h : MpZ K e qe w b n f s) (hf : ∀ x, K.ok x → f x = g x) : MpZ K e qe w b n g s := by
  obtain ⟨D, ⟨h, r⟩, z⟩ := h
  exact ⟨D, ⟨h, fun x hx => by rw [← hf x hx]; exact r x hx⟩, z⟩
theorem MpZ.mono {K : KeyEnc κ P k} {w : World} {b n n' s : Nat} {f : κ → Option Int} (h : MpZ K e qe w b n f s) (hn : n ≤ n') : MpZ K e qe w b n' f s := by
  obtain ⟨D, ⟨h, r⟩, z⟩ := h; exact ⟨D, ⟨h.mono hn, r⟩, z⟩
theorem MpZ.len {K : KeyEnc κ P k} {w : World} {b n s : Nat} {f : κ → Option Int} (h : MpZ K e qe w b n f s) {t : TypeId} (ht : P.underlying t = some (.map k e)) (ty : TypeId) : (Builtin.len_ #[t] ty #[.map (some b)]).run P w = .ok (.int .i64 s) w := by
  obtain ⟨D, ⟨h, _⟩, rfl⟩ := h
  exact h.len ht ty
theorem MpZ.store [DecidableEq κ] {K : KeyEnc κ P k} {w : World} {b n s : Nat} {f : κ → Option Int} (h : MpZ K e qe w b n f s) {t : TypeId} (ht : P.underlying t = some (.map k e)) (he : P.underlying e = some (.int qe)) (hn : n < maxLen) {x : κ} (hx : K.ok x) (hf : f x = none) {v : Int} (hv : (Lit.int qe v).wf = true) :
    ∃ w', (Instr.mapUpdate t (.map (some b)) (K.v x) (.int qe v)).run P w = .ok () w' ∧ MpZ K e qe w' b (n + 1) (fun y => if y = x then some v else f y) (s + 1) ∧ w.grownBy w' (some b) ∧ w'.heap.size = w.heap.size := by
  obtain ⟨D, ⟨h, r⟩, z⟩ := h
  obtain ⟨w', hrun, h1, h2⟩ := h.store K.law ht hn (K.key x hx) (plainElem_int he hv)
  have hk := K.law.key (K.key x hx)
  have hno : Maps.has D (K.l x) = false := by
    rcases r x hx with ⟨_, q⟩ | ⟨u, q, _⟩
    · exact q
    · rw [hf] at q; cases q
  refine ⟨w', hrun, ⟨_, ⟨h1, fun y hy => ?_⟩, ?_⟩, h2.grown, ?_⟩
  · dsimp only
    by_cases hyx : y = x
    · subst hyx
      rw [if_pos rfl]
      exact .inr ⟨v, rfl, has_put_same h.isMap hk _, fun z => atKey_put_same h.isMap hk _ _⟩
    · rw [if_neg hyx]
      have hne : K.l y ≠ K.l x := fun e => hyx (K.inj _ _ e)
      rcases r y hy with ⟨q1, q2⟩ | ⟨u, q1, q2, q3⟩
      · exact .inl ⟨q1, by rw [has_put_other hne]; exact q2⟩
      · exact .inr ⟨u, q1, by rw [has_put_other hne]; exact q2, fun z => by rw [atKey_put_other hne]; exact q3 z⟩
  · rw [size_put (h.tidy K.law), hno, z]; rfl
  · obtain ⟨es, clock, es', clock', h3, rfl⟩ := h2
    simp [Go.ChangeMaps.setBlock]
theorem MpZ.drop [DecidableEq κ] {K : KeyEnc κ P k} {w : World} {b n s : Nat} {f : κ → Option Int} (h : MpZ K e qe w b n f s) {t : TypeId} (ht : P.underlying t = some (.map k e)) (ty : TypeId) {x : κ} (hx : K.ok x) :
    ∃ w', (Builtin.delete_ #[t, k] ty #[.map (some b), K.v x]).run P w = .ok (.tuple #[]) w' ∧ MpZ K e qe w' b n (fun y => if y = x then none else f y) (if (f x).isSome then s - 1 else s) ∧ w.grownBy w' (some b) ∧ w'.heap.size = w.heap.size := by
  obtain ⟨D, ⟨h, r⟩, z⟩ := h
  obtain ⟨w', hrun, h1, h2⟩ := h.drop K.law ht (K.key x hx) ty
  have hsz := size_del (k := K.l x) (h.tidy K.law)
  refine ⟨w', hrun, ⟨_, ⟨h1, fun y hy => ?_⟩, ?_⟩, h2.grown, ?_⟩
  · dsimp only
    by_cases hyx : y = x
    · subst hyx
      rw [if_pos rfl]
      exact .inl ⟨rfl, has_del_same⟩
    · rw [if_neg hyx]
      have hne : K.l y ≠ K.l x := fun e => hyx (K.inj _ _ e)
      rcases r y hy with ⟨q1, q2⟩ | ⟨u, q1, q2, q3⟩
      · exact .inl ⟨q1, by rw [has_del_other hne]; exact q2⟩
      · exact .inr ⟨u, q1, by rw [has_del_other hne]; exact q2, fun z => by rw [atKey_del_other hne]; exact q3 z⟩
  · rcases r x hx with ⟨q1, q2⟩ | ⟨u, q1, q2, _⟩
    · rw [q2] at hsz
      rw [q1]
      simp at hsz ⊢
      omega
    · rw [q2] at hsz
      rw [q1]
      simp at hsz ⊢
      omega
  · obtain ⟨es, clock, es', clock', h3, rfl⟩ := h2
    simp [Go.ChangeMaps.setBlock]
end
theorem drop_none {L : List (Int × Int)} {x : Int} (h : lookI L x = none) : dropI L x = L := by
  unfold dropI
  rw [List.filter_eq_self]
  intro p hp
  have := lookI_none.1 h
  simp
  intro e
  exact this (e ▸ List.mem_map_of_mem hp)
theorem drop_some {L : List (Int × Int)} {x v : Int} (hd : (ids L).Nodup) (h : lookI L x = some v) : (dropI L x).length = L.length - 1 := by
  obtain ⟨k, hk, e⟩ := lookI_some h
  rw [drop_cut hd hk (by rw [e])]
  simp
  omega
theorem PipP.more {w : World} {m : Nat} {o : Option Nat} {most : Int} {L : List (Int × Int)} {n n' : Nat} (h : PipP w m o most L n) (hn : n ≤ n') : PipP w m o most L n' := by
  obtain ⟨v, h1, h2, h3, h4⟩ := h
  exact ⟨v, h1, h2, h3, h4.mono hn⟩
/-- a pipe with 64 places at m + 1, the map of the keys at km -/
def Pr (w : World) (m km : Nat) (L : List (Int × Int)) (q : Nat) : Prop :=
  ∃ o, PipP w m o 64 L q ∧ MpZ KU 3 .i64 w km q (lookI L) L.length ∧ (∀ k, fp m o k → k ≠ km ∧ m ≤ k ∧ k < w.heap.size) ∧ m ≤ km ∧ km < w.heap.size
theorem fp_new {w w' : World} {m km : Nat} {o o' : Option Nat} {most : Int} {L1 : List (Int × Int)} {n : Nat} (hd : ∀ k, fp m o k → k ≠ km ∧ m ≤ k ∧ k < w.heap.size) (hkm : km < w.heap.size) (hP : PipP w' m o' most L1 n) (hn : NewO w o o') : ∀ k, fp m o' k → k ≠ km ∧ m ≤ k ∧ k < w'.heap.size := by
  have hlt := hP.lt
  have hm := (hd m (.inl rfl)).2.2
  rintro k (h | h | h)
  · have := hd k (.inl h); exact ⟨this.1, this.2.1, by omega⟩
  · have := hd k (.inr (.inl h)); exact ⟨this.1, this.2.1, by omega⟩
  · rcases hn k h with h2 | h2
    · have := hd k (.inr (.inr h2)); exact ⟨this.1, this.2.1, (hlt.2 k h).2⟩
    · exact ⟨by omega, by omega, (hlt.2 k h).2⟩
theorem Pr.ext {w w' : World} {m km : Nat} {L : List (Int × Int)} {q : Nat} (h : Pr w m km L q) (hb : Below w.heap.size w w') : Pr w' m km L q := by
  obtain ⟨o, h1, h2, h3, h4, h5⟩ := h
  exact ⟨o, h1.ext hb, h2.keep (hb.block km h5), fun k hk => ⟨(h3 k hk).1, (h3 k hk).2.1, Nat.lt_of_lt_of_le (h3 k hk).2.2 hb.size⟩, h4, Nat.lt_of_lt_of_le h5 hb.size⟩
theorem pr_opened {w w3 w4 : World} {m km : Nat} {o o' : Option Nat} {L : List (Int × Int)} {q : Nat} {x v : Int} (hd : ∀ k, fp m o k → k ≠ km ∧ m ≤ k ∧ k < w.heap.size) (h4 : m ≤ km) (h5 : km < w.heap.size)
    (hv : lookI L x = none) (hP : PipP w3 m o' 64 (L ++ [(x, v)]) (q + 1)) (hn : NewO w o o') (t : Tch (fp m o) w w3) (hM : MpZ KU 3 .i64 w4 km (q + 1) (fun y => if y = x then some v else lookI L y) (L.length + 1)) (hg : w3.grownBy w4 (some km)) : Pr w4 m km (L ++ [(x, v)]) (q + 1) ∧ Below m w w4 := by
  have hf := fp_new hd h5 hP hn
  have t4 : Tch (fun k => k = km) w3 w4 := Tch.of_grown hg (fun k hk => by cases hk; rfl)
  have hs := t.size
  have hs4 := t4.size
  refine ⟨⟨o', hP.tch t4 (fun k hk e => (hf k hk).1 e), ?_, fun k hk => ⟨(hf k hk).1, (hf k hk).2.1, Nat.lt_of_lt_of_le (hf k hk).2.2 hs4⟩, h4, by omega⟩, ?_⟩
  · rw [lookI_snoc hv]
    simpa using hM
  · exact (t.below (by omega) (fun b _ hb => (hd b hb).2.1)).trans (t4.below (by omega) (fun b _ hb => by omega))
theorem pr_closed {w w3 w4 : World} {m km : Nat} {o : Option Nat} {L L1 : List (Int × Int)} {q s : Nat} {x : Int} (hd : ∀ k, fp m o k → k ≠ km ∧ m ≤ k ∧ k < w.heap.size) (h4 : m ≤ km) (h5 : km < w.heap.size) (hs1 : s = L1.length) (hL1 : L1 = dropI L x)
    (hP : PipP w3 m o 64 L1 q) (t : Tch (fp m o) w w3) (hM : MpZ KU 3 .i64 w4 km q (fun y => if y = x then none else lookI L y) s) (hg : w3.grownBy w4 (some km)) : Pr w4 m km L1 q ∧ Below m w w4 := by
  have hf := fp_new hd h5 hP (fun k hk => .inl hk)
  have t4 : Tch (fun k => k = km) w3 w4 := Tch.of_grown hg (fun k hk => by cases hk; rfl)
  have hs := t.size
  have hs4 := t4.size
  refine ⟨⟨o, hP.tch t4 (fun k hk e => (hf k hk).1 e), ?_, fun k hk => ⟨(hf k hk).1, (hf k hk).2.1, Nat.lt_of_lt_of_le (hf k hk).2.2 hs4⟩, h4, by omega⟩, ?_⟩
  · rw [hL1, lookI_drop, ← hL1, ← hs1]
    exact hM
  · exact (t.below (by omega) (fun b _ hb => (hd b hb).2.1)).trans (t4.below (by omega) (fun b _ hb => by omega))
end Go.Proofs.Ytmimbfikjnfhdaa
