/- Names and options of the call's own; names and options are appended as steps of a region that draws. -/
import Derived.Test.YthgnlbdolilklaaJn6
namespace Go.Proofs.Ythgnlbdolilklaa
open Go Go.RowKit
theorem Try.info26 : (Try.prog.info? 26).map (fun i => (i.zero, i.size, i.bytes)) = some (some (.slice none 0 0), 1, 24) := by kernel_rfl
theorem Try.info30 : (Try.prog.info? 30).map (fun i => (i.zero, i.size, i.bytes)) = some (some (.int .u32 0), 1, 4) := by kernel_rfl
/-- names of the call's own -/
def OwnN (w : World) (base : Nat) (v : Value) (A : List Nm) : Prop :=
  ∃ ps : List (Option Addr × Nat × Nat), Own slN w base v ps ∧ ps.length = A.length ∧ ∀ (j : Nat) (p : Option Addr × Nat × Nat) (o : Nm), ps[j]? = some p → A[j]? = some o → Own strE w base (.slice p.1 p.2.1 p.2.2) o
theorem OwnN.nil (w : World) (base : Nat) : OwnN w base (.slice none 0 0) [] := ⟨[], Own.nil _ _ _, rfl, fun j p o h => by simp at h⟩
theorem OwnN.keep {w w' : World} {base : Nat} {v : Value} {A : List Nm} (h : OwnN w base v A) (hk : ∀ b, base ≤ b → b < w.heap.size → w'.heap[b]? = w.heap[b]?) : OwnN w' base v A := by
  obtain ⟨ps, h1, h2, h3⟩ := h
  exact ⟨ps, h1.keep fun k hk' => hk k (h1.lt k hk').1 (h1.lt k hk').2, h2, fun j p o hp ho => (h3 j p o hp ho).keep fun k hk' => hk k ((h3 j p o hp ho).lt k hk').1 ((h3 j p o hp ho).lt k hk').2⟩
theorem OwnN.ext {w w' : World} {base : Nat} {v : Value} {A : List Nm} (h : OwnN w base v A) (hb : Below w.heap.size w w') : OwnN w' base v A := h.keep fun b _ hlt => hb.block b hlt
theorem OwnN.mono {w : World} {base base' : Nat} {v : Value} {A : List Nm} (h : OwnN w base v A) (hb : base' ≤ base) : OwnN w base' v A := by
  obtain ⟨ps, h1, h2, h3⟩ := h
  exact ⟨ps, h1.mono hb, h2, fun j p o hp ho => (h3 j p o hp ho).mono hb⟩
theorem OwnN.shape {w : World} {base : Nat} {v : Value} {A : List Nm} (h : OwnN w base v A) : ∃ a c, v = .slice a A.length c := by
  obtain ⟨ps, h1, h2, _⟩ := h
  obtain ⟨a, c, e⟩ := h1.shape
  exact ⟨a, c, by rw [e, h2]⟩
theorem OwnN.rdN {w : World} {base : Nat} {v : Value} {A : List Nm} (h : OwnN w base v A) (h1 : ∀ X ∈ A, (∀ s ∈ X, s.length ≤ reachBytes) ∧ X.length * 16 ≤ reachBytes) (h2 : A.length * 24 ≤ reachBytes) : ∃ a c, v = .slice a A.length c ∧ RdN w a A.length c A := by
  obtain ⟨ps, p1, p2, p3⟩ := h
  obtain ⟨a, c, e, r⟩ := p1.rd
  rw [p2] at e r
  refine ⟨a, c, e, ps, r, p2, h2, fun j p o hp ho => ?_⟩
  obtain ⟨a', c', e', r'⟩ := (p3 j p o hp ho).rd
  simp only [Value.slice.injEq] at e'
  obtain ⟨x1, x2, x3⟩ := e'
  have hm := h1 o (List.mem_of_getElem? ho)
  rw [x1, x2, x3]
  exact ⟨r', hm.1, hm.2⟩
/-- one name is appended -/
theorem OwnN.app {w w' : World} {base : Nat} {v v' : Value} {A : List Nm} {ps : List (Option Addr × Nat × Nat)} {q : (Option Addr × Nat × Nat)} {o : Nm} (h1 : Own slN w base v ps) (h2 : ps.length = A.length)
    (h3 : ∀ (j : Nat) (p : (Option Addr × Nat × Nat)) (o : Nm), ps[j]? = some p → A[j]? = some o → Own strE w base (.slice p.1 p.2.1 p.2.2) o)
    (hq : Own strE w base (.slice q.1 q.2.1 q.2.2) o) (ho : Own slN w' base v' (ps ++ [q])) (hg : w.grownBy w' v.ownBlock) : OwnN w' base v' (A ++ [o]) := by
  have key : ∀ (p : (Option Addr × Nat × Nat)) (o : Nm), (Own strE w base (.slice p.1 p.2.1 p.2.2) o) → (Own strE w' base (.slice p.1 p.2.1 p.2.2) o) := by
    intro p o r2
    exact r2.keep fun k hk => hg.block k (r2.lt k hk).2 (fun e => own_apart r2 h1 (by decide) k hk e.symm)
  refine ⟨ps ++ [q], ho, by simp [h2], fun j p x hp hx => ?_⟩
  rw [List.getElem?_append] at hp hx
  by_cases hj : j < ps.length
  · rw [if_pos hj] at hp
    rw [if_pos (by omega)] at hx
    exact key p x (h3 j p x hp hx)
  · rw [if_neg hj] at hp
    rw [if_neg (by omega), ← h2] at hx
    obtain ⟨m, hm⟩ : ∃ m, j - ps.length = m := ⟨_, rfl⟩
    rw [hm] at hp hx
    cases m with
    | succ m => simp at hp
    | zero =>
      simp only [List.getElem?_cons_zero, Option.some.injEq] at hp hx
      subst hp
      subst hx
      exact key q o hq
/-- a whole struct is stored, as a step of a region that draws -/
theorem step_store {P : Program} {ops : Array Oper} {o : Oper} {a : Act} {w : World} {K : Act → World → Prop} {Q : Exit → Act → World → Prop} {Ep : Prop} (hgd : o.guard = none) (ty : TypeId) (x y : Operand) (ho : o.op = .store ty x y) {b : Nat} {t : TypeId} {C : List Value} {cells : Array Value}
    (hx : a.eval x = .pointer (some ⟨b, 0, none⟩)) (hy : a.eval y = .agg cells) (hB : Blk w b t (0, 0) C) (hsz : cells.size = C.length) (hi : (P.info? ty).map (·.size) = some cells.size) (h1 : cells.all (·.oneCell') = true)
    (h : ∀ w', Blk w' b t (0, 0) cells.toList → w.grownBy w' (some b) → w'.heap.size = w.heap.size → K (a.put o.dst undef) w') :
    if Region.wanted o (yielded ops a.tmps) = true then Oper.wp P o a w K Q else Ep := by
  have hw : Region.wanted o (yielded ops a.tmps) = true := by simp [Region.wanted, hgd]
  rw [if_pos hw]
  exact store_whole_op ty x y ho hx hy hB hsz hi h1 h
/-- a store into a block of another type -/
theorem own_store {α : Type} {E : Enc α} {w w' : World} {b k : Nat} {v : Value} {l : List α} {t : TypeId} {fz : Nat × Nat} {C : List Value} (ho : Own E w b v l) (hB : Blk w k t fz C) (hne : E.e ≠ t) (hg : w.grownBy w' (some k)) : Own E w' b v l :=
  ho.keep fun j hj => hg.block j (ho.lt j hj).2 (fun e => by
    obtain ⟨C', hC'⟩ := own_blkE ho j hj
    have e2 := Option.some.inj e
    subst e2
    exact hne (blk_type hC' hB))
theorem ownN_store {w w' : World} {b k : Nat} {v : Value} {l : List Nm} {t : TypeId} {fz : Nat × Nat} {C : List Value} (ho : OwnN w b v l) (hB : Blk w k t fz C) (h1 : (26 : Nat) ≠ t) (h2 : (9 : Nat) ≠ t) (hg : w.grownBy w' (some k)) : OwnN w' b v l := by
  obtain ⟨ps, p1, p2, p3⟩ := ho
  exact ⟨ps, own_store p1 hB h1 hg, p2, fun j p o hp ho => own_store (p3 j p o hp ho) hB h2 hg⟩
theorem ownO_store {w w' : World} {b k : Nat} {v : Value} {l : List Opt} {t : TypeId} {fz : Nat × Nat} {C : List Value} (ho : OwnO w b v l) (hB : Blk w k t fz C) (h1 : (53 : Nat) ≠ t) (h2 : (5 : Nat) ≠ t) (hg : w.grownBy w' (some k)) : OwnO w' b v l := by
  obtain ⟨ps, p1, p2, p3⟩ := ho
  exact ⟨ps, own_store p1 hB h1 hg, p2, fun j p o hp ho => ⟨(p3 j p o hp ho).1, own_store (p3 j p o hp ho).2 hB h2 hg⟩⟩
theorem Blk.grownV2 {w wy : World} {b : Nat} {r : Option Nat} {t : TypeId} {fz : Nat × Nat} {C : List Value} (h : Blk w b t fz C) (hg : w.grownBy wy r) (hne : some b ≠ r) : Blk wy b t fz C := (hg.block _ h.lt hne).trans h
/-- a block of another type than a slice's is as it was when the slice grows -/
theorem blk_own {α : Type} {E : Enc α} {w w' : World} {base k : Nat} {v : Value} {l : List α} {t : TypeId} {fz : Nat × Nat} {C : List Value} (hB : Blk w k t fz C) (ho : Own E w base v l) (hne : E.e ≠ t) (hg : w.grownBy w' v.ownBlock) : Blk w' k t fz C :=
  hB.grownV2 hg fun e => by
    obtain ⟨C', hC'⟩ := own_blkE ho k e.symm
    exact hne (blk_type hC' hB)
theorem own_grown {α β : Type} {E : Enc α} {F : Enc β} {w w' : World} {base base' : Nat} {v v' : Value} {l : List α} {l' : List β} (h : Own F w base' v' l') (ho : Own E w base v l) (hne : E.e ≠ F.e) (hg : w.grownBy w' v.ownBlock) : Own F w' base' v' l' :=
  h.keep fun k hk => hg.block k (h.lt k hk).2 fun e => own_apart ho h hne k e.symm hk
theorem blk_ownN {w w' : World} {base k : Nat} {v : Value} {l : List Nm} {t : TypeId} {fz : Nat × Nat} {C : List Value} (hB : Blk w k t fz C) (ho : OwnN w base v l) (hne : (26 : Nat) ≠ t) (hg : w.grownBy w' v.ownBlock) : Blk w' k t fz C := by
  obtain ⟨ps, p1, _⟩ := ho
  exact blk_own hB p1 hne hg
theorem ownN_grown {β : Type} {F : Enc β} {w w' : World} {base base' : Nat} {v v' : Value} {l : List Nm} {l' : List β} (h : Own F w base' v' l') (ho : OwnN w base v l) (hne : (26 : Nat) ≠ F.e) (hg : w.grownBy w' v.ownBlock) : Own F w' base' v' l' := by
  obtain ⟨ps, p1, _⟩ := ho
  exact own_grown h p1 hne hg
theorem ownN_below {B base : Nat} {w0 w w' : World} {v : Value} {l : List Nm} (h : Below B w0 w) (hg : w.grownBy w' v.ownBlock) (ho : OwnN w base v l) (hB : B ≤ w.heap.size) (hb : B ≤ base) : Below B w0 w' := by
  obtain ⟨ps, p1, _⟩ := ho
  exact own_below h hg p1 hB hb
/-- a name is appended, as a step of a region that draws -/
theorem step_nm {ops : Array Oper} {o : Oper} {a : Act} {W0 : World} {K : Act → World → Prop} {Q : Exit → Act → World → Prop} {Ep : Prop} {B base : Nat} {av a8 : Option Addr} {cv c8 nA : Nat} {A : List Nm} {D : Nm} (hgd : o.guard = none) (s x : Operand)
    (ho : o.op = .call { callee := .builtin .append, args := #[s, x], argTypes := #[31, 31] }) (hnA : A.length = nA) (hO : OwnN W0 base (.slice av nA cv) A) (hD : Own strE W0 base (.slice a8 D.length c8) D) {wl : World} (hB : Blk wl B 26 (0, 0) [.slice a8 D.length c8]) (kb : Below W0.heap.size W0 wl) (hb : base ≤ W0.heap.size) (hA : nA * 24 ≤ 140737488355304)
    (hs : a.eval s = .slice av nA cv) (hx : a.eval x = .slice (some ⟨B, 0, none⟩) 1 1)
    (h : ∀ a9 c9 w', OwnN w' base (.slice a9 (nA + 1) c9) (A ++ [D]) → wl.grownBy w' (Value.slice av nA cv).ownBlock → K (a.put o.dst (.slice a9 (nA + 1) c9)) w') :
    if Region.wanted o (yielded ops a.tmps) = true then Oper.wp Try.prog o a wl K Q else Ep := by
  subst hnA
  obtain ⟨i0, hi, hz0, hz1, hz2⟩ := info_parts Try.info26
  obtain ⟨ps, h1, h2, h3⟩ := hO.ext kb
  have hD' := hD.ext kb
  have hsrc := (rd_blk (E := slN) (X := [(a8, D.length, c8)]) hB 1 rfl (by decide)).src (P := Try.prog) (tx := 31) Try.underlying31
  refine step_own (E := slN) hgd s x 31 31 ho Try.underlying31 hi hz0 hz1 hz2 rfl hs h1 hx hsrc (by simp [maxLen]; omega) (by simp; omega) (Nat.le_trans hb kb.size) ?_
  intro v' w2 h4 h5 _
  have h7 := OwnN.app (o := D) h1 h2 h3 hD' h4 h5
  obtain ⟨a9, c9, e9⟩ := h7.shape
  have e10 : (A ++ [D]).length = A.length + 1 := by simp
  rw [e10] at e9
  subst e9
  exact h a9 c9 w2 h7 h5
end Go.Proofs.Ythgnlbdolilklaa
