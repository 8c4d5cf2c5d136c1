/- What a call turns, block by block; maps of numbers as functions. Nothing of the program. -/
import Derived.Test.YtojdjhicjhhblaaDoorRd
import Derived.Maps.OwnSet
namespace Go.Proofs.YtojdjhicjhhblaaDoor
open Go.RowKit Go.Maps Go.WideShapes
/-- outside the blocks of S all is as it was -/
structure Tch (S : Nat → Prop) (w w' : World) : Prop where
  os : w'.os = w.os
  tape : w'.tape = w.tape
  output : w'.output = w.output
  size : w.heap.size ≤ w'.heap.size
  block : ∀ k, k < w.heap.size → ¬ S k → w'.heap[k]? = w.heap[k]?
theorem Tch.refl (S : Nat → Prop) (w : World) : Tch S w w := ⟨rfl, rfl, rfl, Nat.le_refl _, fun _ _ _ => rfl⟩
theorem Tch.trans {S S' : Nat → Prop} {u v w : World} (h : Tch S u v) (k : Tch S' v w) (hs : ∀ b, b < u.heap.size → S' b → S b) : Tch S u w :=
  ⟨k.os.trans h.os, k.tape.trans h.tape, k.output.trans h.output, Nat.le_trans h.size k.size, fun b hb hn => (k.block b (Nat.lt_of_lt_of_le hb h.size) (fun e => hn (hs b hb e))).trans (h.block b hb hn)⟩
theorem Tch.mono {S S' : Nat → Prop} {u v : World} (h : Tch S u v) (hs : ∀ b, b < u.heap.size → S b → S' b) : Tch S' u v := ⟨h.os, h.tape, h.output, h.size, fun b hb hn => h.block b hb fun e => hn (hs b hb e)⟩
theorem Tch.of_below {S : Nat → Prop} {u v : World} (h : Below u.heap.size u v) : Tch S u v := ⟨h.os, h.tape, h.output, h.size, fun b hb _ => h.block b hb⟩
theorem Tch.of_grown {S : Nat → Prop} {u v : World} {row : Option Nat} (h : u.grownBy v row) (hr : ∀ k, row = some k → S k) : Tch S u v := ⟨h.os, h.tape, h.output, h.size, fun b hb hn => h.block b hb fun e => hn (hr b e.symm)⟩
theorem Tch.setCell {S : Nat → Prop} (w : World) {p : Addr} (hp : S p.block) (v : Value) : Tch S w (w.setCell p v) :=
  ⟨rfl, rfl, rfl, by simp [World.setCell], fun k _ hn => Below.heap_setCell _ _ _ _ (fun e => hn (e ▸ hp))⟩
theorem Tch.alloc (S : Nat → Prop) (w : World) (o : Obj) : Tch S w (w.alloc o) := Tch.of_below ((Below.refl _ _).alloc (Nat.le_refl _) o)
theorem Tch.drew (S : Nat → Prop) (w : World) : Tch S w w.drew := ⟨rfl, rfl, rfl, Nat.le_refl _, fun _ _ _ => rfl⟩
theorem Tch.below {S : Nat → Prop} {B : Nat} {u v : World} (h : Tch S u v) (hB : B ≤ u.heap.size) (hs : ∀ b, b < u.heap.size → S b → B ≤ b) : Below B u v :=
  ⟨h.os, h.tape, h.output, h.size, fun b hb => h.block b (Nat.lt_of_lt_of_le hb hB) (fun e => by have := hs b (Nat.lt_of_lt_of_le hb hB) e; omega)⟩
theorem Tch.blk {S : Nat → Prop} {u v : World} (h : Tch S u v) {b : Nat} {e : TypeId} {fz : Nat × Nat} {C : List Value} (hb : Blk u b e fz C) (hn : ¬ S b) : Blk v b e fz C := (h.block b hb.lt hn).trans hb
theorem Tch.rd {α : Type} {E : Enc α} {S : Nat → Prop} {u v : World} (h : Tch S u v) {a : Option Addr} {n c : Nat} {l : List α} (hr : Rd E u a n c l) (hn : ∀ b o s, a = some ⟨b, o, s⟩ → ¬ S b) : Rd E v a n c l :=
  hr.keep fun b o s e hb => h.block b hb (hn b o s e)
theorem Tch.own {α : Type} {E : Enc α} {S : Nat → Prop} {u v : World} (h : Tch S u v) {base : Nat} {x : Value} {l : List α} (ho : Own E u base x l) (hn : ∀ b, x.ownBlock = some b → ¬ S b) : Own E v base x l :=
  ho.keep fun k hk => h.block k (ho.lt k hk).2 (hn k hk)
/-- keys: how they stand, how they are read -/
structure KeyEnc (κ : Type) (P : Program) (k : TypeId) where
  v : κ → Value
  l : κ → Lit
  ok : κ → Prop
  law : Keyed P k
  key : ∀ x, ok x → keyOf P k (v x) = some (l x)
  inj : ∀ x y, l x = l y → x = y
def numKey (P : Program) (k : TypeId) (q : IntKind) (hk : P.underlying k = some (.int q)) : KeyEnc Int P k :=
  ⟨fun x => .int q x, fun x => .int q x, fun x => (Lit.int q x).wf = true, int_keyed hk, fun _ h => keyOf_int_mk hk h, fun _ _ h => by cases h; rfl⟩
section
variable {κ : Type} {P : Program} {k e : TypeId} {qe : IntKind}
/-- block b is a map that holds just f -/
def Mp (K : KeyEnc κ P k) (e : TypeId) (qe : IntKind) (w : World) (b n : Nat) (f : κ → Option Int) : Prop :=
  ∃ D : DataW Unit, w.ownsMap P k (plainElem P e) b n D ∧ ∀ x, K.ok x →
    ((f x = none ∧ Maps.has D (K.l x) = false) ∨ ∃ v, f x = some v ∧ Maps.has D (K.l x) = true ∧ ∀ z, D.atKey (K.l x) z = .lit (.int qe v))
theorem Mp.made (K : KeyEnc κ P k) (e : TypeId) (qe : IntKind) (w : World) : Mp K e qe (w.alloc (.map #[] 0)) w.heap.size 0 (fun _ => none) :=
  ⟨_, World.ownsMap_made w P k _, fun _ _ => .inl ⟨rfl, rfl⟩⟩
theorem Mp.lt {K : KeyEnc κ P k} {w : World} {b n : Nat} {f : κ → Option Int} (h : Mp K e qe w b n f) : b < w.heap.size := by obtain ⟨D, h, _⟩ := h; exact h.lt
theorem Mp.mono {K : KeyEnc κ P k} {w : World} {b n n' : Nat} {f : κ → Option Int} (h : Mp K e qe w b n f) (hn : n ≤ n') : Mp K e qe w b n' f := by obtain ⟨D, h, r⟩ := h; exact ⟨D, h.mono hn, r⟩
theorem Mp.keep {K : KeyEnc κ P k} {w w' : World} {b n : Nat} {f : κ → Option Int} (h : Mp K e qe w b n f) (hb : w'.heap[b]? = w.heap[b]?) : Mp K e qe w' b n f := by
  obtain ⟨D, ⟨es, clock, h1, h2⟩, r⟩ := h
  exact ⟨D, ⟨es, clock, hb.trans h1, h2⟩, r⟩
theorem Mp.tch {K : KeyEnc κ P k} {w w' : World} {b n : Nat} {f : κ → Option Int} {S : Nat → Prop} (h : Mp K e qe w b n f) (t : Tch S w w') (hn : ¬ S b) : Mp K e qe w' b n f := h.keep (t.block b h.lt hn)
theorem Mp.eq {K : KeyEnc κ P k} {w : World} {b n : Nat} {f g : κ → Option Int} (h : Mp K e qe w b n f) (hf : ∀ x, K.ok x → f x = g x) : Mp K e qe w b n g := by
  obtain ⟨D, h, r⟩ := h
  exact ⟨D, h, fun x hx => by rw [← hf x hx]; exact r x hx⟩
/-- no block of cells -/
theorem Mp.notBlk {K : KeyEnc κ P k} {w : World} {b n : Nat} {f : κ → Option Int} (h : Mp K e qe w b n f) {g : Nat} {t : TypeId} {fz : Nat × Nat} {C : List Value} (hg : Blk w g t fz C) : b ≠ g := by
  rintro rfl
  obtain ⟨D, ⟨es, clock, h1, _⟩, _⟩ := h
  unfold Blk at hg
  rw [h1] at hg
  cases hg
theorem Mp.look {K : KeyEnc κ P k} {w : World} {b n : Nat} {f : κ → Option Int} (h : Mp K e qe w b n f) {t : TypeId} (ht : P.underlying t = some (.map k e)) (he : P.underlying e = some (.int qe)) (hz : (zeroValue e).run P w = .ok (.int qe 0) w) {x : κ} (hx : K.ok x) :
    (Instr.lookup t (.map (some b)) (K.v x) false).run P w = .ok (.int qe ((f x).getD 0)) w := by
  obtain ⟨D, h, r⟩ := h
  obtain ⟨c, hrun, hc, _⟩ := h.lookup_int K.law ht he hz (K.key x hx)
  rw [hrun]
  rcases r x hx with ⟨h1, h2⟩ | ⟨v, h1, h2, h3⟩
  · rw [atKey_of_not_has h2] at hc
    cases hc
    rw [h1]; rfl
  · rw [h3] at hc
    cases hc
    rw [h1]; rfl
theorem Mp.lookOk {K : KeyEnc κ P k} {w : World} {b n : Nat} {f : κ → Option Int} (h : Mp K e qe w b n f) {t : TypeId} (ht : P.underlying t = some (.map k e)) (he : P.underlying e = some (.int qe)) (hz : (zeroValue e).run P w = .ok (.int qe 0) w) {x : κ} (hx : K.ok x) :
    (Instr.lookup t (.map (some b)) (K.v x) true).run P w = .ok (.tuple #[.int qe ((f x).getD 0), .bool (f x).isSome]) w := by
  obtain ⟨D, h, r⟩ := h
  have hw0 : (Lit.int qe 0).wf = true := by cases qe <;> decide
  obtain ⟨v, ps, hrun, hv⟩ := h.look_ok K.law ht hz (plainElem_int he hw0) (K.key x hx)
  obtain ⟨c, rfl, hc, _⟩ := plainElem_int_inv he hv
  simp only [Prod.mk.injEq] at hc
  have hc := hc.1
  rw [hrun]
  rcases r x hx with ⟨h1, h2⟩ | ⟨v, h1, h2, h3⟩
  · rw [atKey_of_not_has h2] at hc
    cases hc
    rw [h1, h2]; rfl
  · rw [h3] at hc
    cases hc
    rw [h1, h2]; rfl
theorem Mp.store [DecidableEq κ] {K : KeyEnc κ P k} {w : World} {b n : Nat} {f : κ → Option Int} (h : Mp K e qe w b n f) {t : TypeId} (ht : P.underlying t = some (.map k e)) (he : P.underlying e = some (.int qe)) (hn : n < maxLen) {x : κ} (hx : K.ok x) {v : Int} (hv : (Lit.int qe v).wf = true) :
    ∃ w', (Instr.mapUpdate t (.map (some b)) (K.v x) (.int qe v)).run P w = .ok () w' ∧ Mp K e qe w' b (n + 1) (fun y => if y = x then some v else f y) ∧ w.grownBy w' (some b) ∧ w'.heap.size = w.heap.size := by
  obtain ⟨D, h, r⟩ := h
  obtain ⟨w', hrun, h1, h2⟩ := h.store K.law ht hn (K.key x hx) (plainElem_int he hv)
  have hk := K.law.key (K.key x hx)
  refine ⟨w', hrun, ⟨_, h1, fun y hy => ?_⟩, h2.grown, ?_⟩
  · dsimp only
    by_cases hyx : y = x
    · subst hyx
      rw [if_pos rfl]
      exact .inr ⟨v, rfl, has_put_same h.isMap hk _, fun z => atKey_put_same h.isMap hk _ _⟩
    · rw [if_neg hyx]
      have hne : K.l y ≠ K.l x := fun e => hyx (K.inj _ _ e)
      rcases r y hy with ⟨q1, q2⟩ | ⟨u, q1, q2, q3⟩
      · exact .inl ⟨q1, by rw [has_put_other hne]; exact q2⟩
      · exact .inr ⟨u, q1, by rw [has_put_other hne]; exact q2, fun z => by rw [atKey_put_other hne]; exact q3 z⟩
  · obtain ⟨es, clock, es', clock', h3, rfl⟩ := h2
    simp [Go.ChangeMaps.setBlock]
theorem Mp.drop [DecidableEq κ] {K : KeyEnc κ P k} {w : World} {b n : Nat} {f : κ → Option Int} (h : Mp K e qe w b n f) {t : TypeId} (ht : P.underlying t = some (.map k e)) (ty : TypeId) {x : κ} (hx : K.ok x) :
    ∃ w', (Builtin.delete_ #[t, k] ty #[.map (some b), K.v x]).run P w = .ok (.tuple #[]) w' ∧ Mp K e qe w' b n (fun y => if y = x then none else f y) ∧ w.grownBy w' (some b) ∧ w'.heap.size = w.heap.size := by
  obtain ⟨D, h, r⟩ := h
  obtain ⟨w', hrun, h1, h2⟩ := h.drop K.law ht (K.key x hx) ty
  refine ⟨w', hrun, ⟨_, h1, fun y hy => ?_⟩, h2.grown, ?_⟩
  · dsimp only
    by_cases hyx : y = x
    · subst hyx
      rw [if_pos rfl]
      exact .inl ⟨rfl, has_del_same⟩
    · rw [if_neg hyx]
      have hne : K.l y ≠ K.l x := fun e => hyx (K.inj _ _ e)
      rcases r y hy with ⟨q1, q2⟩ | ⟨u, q1, q2, q3⟩
      · exact .inl ⟨q1, by rw [has_del_other hne]; exact q2⟩
      · exact .inr ⟨u, q1, by rw [has_del_other hne]; exact q2, fun z => by rw [atKey_del_other hne]; exact q3 z⟩
  · obtain ⟨es, clock, es', clock', h3, rfl⟩ := h2
    simp [Go.ChangeMaps.setBlock]
end
end Go.Proofs.YtojdjhicjhhblaaDoor
