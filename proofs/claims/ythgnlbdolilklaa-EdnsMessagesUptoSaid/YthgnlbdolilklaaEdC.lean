/- Options of the call's own; a step of the reader over them: plain; what Read answers. -/
import Derived.Test.YthgnlbdolilklaaEdB
namespace Go.Proofs.Ythgnlbdolilklaa
open Go Go.RowKit
theorem tk_iff (l : List UInt8) (p n : Nat) : tk l p false (n : Int) = decide (p + n ≤ l.length) := by
  unfold tk
  simp only [Bool.not_false, Bool.true_and]
  by_cases h : p + n ≤ l.length
  · rw [decide_eq_true h, decide_eq_true (by omega)]
  · rw [decide_eq_false h, decide_eq_false (by omega)]
theorem tk_bad (l : List UInt8) (p : Nat) (n : Int) : tk l p true n = false := rfl
theorem tkAt_no {l : List UInt8} {p : Nat} {b : Bool} {n : Int} (h : tk l p b n = false) : tkAt l p b n = 0 := by
  unfold tkAt
  rw [if_neg (by simp [h])]
/-- the three steps over one option -/
structure Steps (l : List UInt8) (p : Nat) (p1 p2 p3 : Nat) (b1 b2 b3 : Bool) (c1 c2 : Nat) (D : List UInt8) : Prop where
  e1 : tkAt l p false 2 = p1
  e2 : (!tk l p false 2) = b1
  e3 : tkN l p false 2 = c1
  e4 : tkAt l p1 b1 2 = p2
  e5 : (!tk l p1 b1 2) = b2
  e6 : tkN l p1 b1 2 = c2
  e7 : tkAt l p2 b2 (c2 : Int) = p3
  e8 : (!tk l p2 b2 (c2 : Int)) = b3
  e9 : tkL l p2 b2 (c2 : Int) = D
theorem steps_of (l : List UInt8) (p : Nat) : ∃ p1 p2 p3 b1 b2 b3 c1 c2 D, Steps l p p1 p2 p3 b1 b2 b3 c1 c2 D := ⟨_, _, _, _, _, _, _, _, _, ⟨rfl, rfl, rfl, rfl, rfl, rfl, rfl, rfl, rfl⟩⟩
theorem tkN_16 (l : List UInt8) (p : Nat) (b : Bool) : tkN l p b 2 < 65536 := by
  unfold tkN tkL
  split
  · have h1 := numL_lt ((l.drop p).take (2 : Int).toNat)
    have h2 : ((l.drop p).take (2 : Int).toNat).length ≤ 2 := by simp; omega
    have h3 : 256 ^ ((l.drop p).take (2 : Int).toNat).length ≤ 256 ^ 2 := Nat.pow_le_pow_right (by decide) h2
    exact Nat.lt_of_lt_of_le h1 h3
  · decide
theorem Steps.good {l : List UInt8} {p p1 p2 p3 : Nat} {b1 b2 b3 : Bool} {c1 c2 : Nat} {D : List UInt8} (h : Steps l p p1 p2 p3 b1 b2 b3 c1 c2 D) (hg : p + 4 + cD l (p + 2) ≤ l.length) :
    b3 = false ∧ p3 = p + 4 + cD l (p + 2) ∧ c1 = cD l p ∧ D = (l.drop (p + 4)).take (cD l (p + 2)) := by
  obtain ⟨rfl, rfl, rfl, e4, e5, e6, e7, e8, e9⟩ := h
  have t1 : tk l p false 2 = true := by have := tk_iff l p 2; rw [show ((2 : Nat) : Int) = 2 from rfl] at this; rw [this]; exact decide_eq_true (by omega)
  have a1 : tkAt l p false 2 = p + 2 := by unfold tkAt; rw [if_pos t1]; rfl
  have n1 : tkN l p false 2 = cD l p := by unfold tkN tkL cD; rw [if_pos (by simpa using t1)]; rfl
  rw [a1, t1] at e4 e5 e6
  simp only [Bool.not_true] at e4 e5 e6
  have t2 : tk l (p + 2) false 2 = true := by have := tk_iff l (p + 2) 2; rw [show ((2 : Nat) : Int) = 2 from rfl] at this; rw [this]; exact decide_eq_true (by omega)
  have a2 : tkAt l (p + 2) false 2 = p + 4 := by unfold tkAt; rw [if_pos t2]; rfl
  have n2 : tkN l (p + 2) false 2 = cD l (p + 2) := by unfold tkN tkL cD; rw [if_pos (by simpa using t2)]; rfl
  rw [a2] at e4
  rw [t2] at e5
  rw [n2] at e6
  subst e4
  subst e6
  simp only [Bool.not_true] at e5
  subst e5
  have t3 : tk l (p + 4) false (cD l (p + 2) : Nat) = true := by rw [tk_iff]; exact decide_eq_true hg
  have a3 : tkAt l (p + 4) false (cD l (p + 2) : Nat) = p + 4 + cD l (p + 2) := by unfold tkAt; rw [if_pos t3, Int.toNat_natCast]
  have l3 : tkL l (p + 4) false (cD l (p + 2) : Nat) = (l.drop (p + 4)).take (cD l (p + 2)) := by unfold tkL; rw [if_pos t3, Int.toNat_natCast]
  refine ⟨by rw [← e8, t3]; rfl, by rw [← e7, a3], n1, by rw [← e9, l3]⟩
theorem Steps.bad {l : List UInt8} {p p1 p2 p3 : Nat} {b1 b2 b3 : Bool} {c1 c2 : Nat} {D : List UInt8} (h : Steps l p p1 p2 p3 b1 b2 b3 c1 c2 D) (hg : l.length < p + 4 + cD l (p + 2)) : b3 = true ∧ p3 = 0 := by
  obtain ⟨rfl, rfl, rfl, rfl, rfl, rfl, e7, e8, e9⟩ := h
  have key : tk l (tkAt l (tkAt l p false 2) (!tk l p false 2) 2) (!tk l (tkAt l p false 2) (!tk l p false 2) 2) (tkN l (tkAt l p false 2) (!tk l p false 2) 2 : Nat) = false := by
    by_cases h1 : p + 2 ≤ l.length
    · have t1 : tk l p false 2 = true := by have := tk_iff l p 2; rw [show ((2 : Nat) : Int) = 2 from rfl] at this; rw [this]; exact decide_eq_true h1
      have a1 : tkAt l p false 2 = p + 2 := by unfold tkAt; rw [if_pos t1]; rfl
      rw [t1, a1]
      simp only [Bool.not_true]
      by_cases h2 : p + 4 ≤ l.length
      · have t2 : tk l (p + 2) false 2 = true := by have := tk_iff l (p + 2) 2; rw [show ((2 : Nat) : Int) = 2 from rfl] at this; rw [this]; exact decide_eq_true (by omega)
        have a2 : tkAt l (p + 2) false 2 = p + 4 := by unfold tkAt; rw [if_pos t2]; rfl
        have n2 : tkN l (p + 2) false 2 = cD l (p + 2) := by unfold tkN tkL cD; rw [if_pos (by simpa using t2)]; rfl
        rw [t2, a2, n2]
        simp only [Bool.not_true]
        rw [tk_iff]
        exact decide_eq_false (by omega)
      · have t2 : tk l (p + 2) false 2 = false := by have := tk_iff l (p + 2) 2; rw [show ((2 : Nat) : Int) = 2 from rfl] at this; rw [this]; exact decide_eq_false (by omega)
        rw [t2]
        exact tk_bad _ _ _
    · have t1 : tk l p false 2 = false := by have := tk_iff l p 2; rw [show ((2 : Nat) : Int) = 2 from rfl] at this; rw [this]; exact decide_eq_false h1
      rw [t1]
      simp only [Bool.not_false, tk_bad]
  refine ⟨by rw [← e8, key]; rfl, ?_⟩
  rw [← e7]
  exact tkAt_no key
/-- options of the call's own -/
def OwnO (w : World) (base : Nat) (v : Value) (A : List Opt) : Prop :=
  ∃ ps : List (Nat × (Option Addr × Nat × Nat)), Own opE w base v ps ∧ ps.length = A.length ∧ ∀ (j : Nat) (p : Nat × (Option Addr × Nat × Nat)) (o : Opt), ps[j]? = some p → A[j]? = some o → p.1 = o.1 ∧ Own byteE w base (.slice p.2.1 p.2.2.1 p.2.2.2) o.2
theorem OwnO.nil (w : World) (base : Nat) : OwnO w base (.slice none 0 0) [] := ⟨[], Own.nil _ _ _, rfl, fun j p o h => by simp at h⟩
theorem OwnO.keep {w w' : World} {base : Nat} {v : Value} {A : List Opt} (h : OwnO w base v A) (hk : ∀ b, base ≤ b → b < w.heap.size → w'.heap[b]? = w.heap[b]?) : OwnO w' base v A := by
  obtain ⟨ps, h1, h2, h3⟩ := h
  refine ⟨ps, h1.keep fun k hk' => hk k (h1.lt k hk').1 (h1.lt k hk').2, h2, fun j p o hp ho => ?_⟩
  obtain ⟨q1, q2⟩ := h3 j p o hp ho
  exact ⟨q1, q2.keep fun k hk' => hk k (q2.lt k hk').1 (q2.lt k hk').2⟩
theorem OwnO.ext {w w' : World} {base : Nat} {v : Value} {A : List Opt} (h : OwnO w base v A) (hb : Below w.heap.size w w') : OwnO w' base v A := h.keep fun b _ hlt => hb.block b hlt
theorem OwnO.mono {w : World} {base base' : Nat} {v : Value} {A : List Opt} (h : OwnO w base v A) (hb : base' ≤ base) : OwnO w base' v A := by
  obtain ⟨ps, h1, h2, h3⟩ := h
  exact ⟨ps, h1.mono hb, h2, fun j p o hp ho => ⟨(h3 j p o hp ho).1, (h3 j p o hp ho).2.mono hb⟩⟩
theorem OwnO.rdO {w : World} {base : Nat} {v : Value} {A : List Opt} (h : OwnO w base v A) : ∃ a c, v = .slice a A.length c ∧ RdO w a A.length c A := by
  obtain ⟨ps, h1, h2, h3⟩ := h
  obtain ⟨a, c, e, r⟩ := h1.rd
  rw [h2] at e r
  refine ⟨a, c, e, ps, r, h2, fun j p o hp ho => ?_⟩
  obtain ⟨q1, q2⟩ := h3 j p o hp ho
  obtain ⟨a', c', e', r'⟩ := q2.rd
  simp only [Value.slice.injEq] at e'
  obtain ⟨x1, x2, x3⟩ := e'
  rw [x1, x2, x3]
  exact ⟨q1, r'⟩
theorem own_blkE {α : Type} {E : Enc α} {w : World} {B : Nat} {v : Value} {l : List α} (h : Own E w B v l) : ∀ k, v.ownBlock = some k → ∃ C, Blk w k E.e (0, 0) C := by
  rintro k hk
  rcases h with ⟨rfl, _⟩ | ⟨g, cap, X, rfl, _, hB, _⟩
  · simp [Value.ownBlock] at hk
  · simp [Value.ownBlock] at hk
    subst hk
    exact ⟨_, hB⟩
theorem blk_type {w : World} {k : Nat} {e e' : TypeId} {fz fz' : Nat × Nat} {C C' : List Value} (h : Blk w k e fz C) (h' : Blk w k e' fz' C') : e = e' := by
  unfold Blk at h h'
  have h3 := h.symm.trans h'
  simp at h3
  exact h3.2.1
theorem own_apart {α β : Type} {E : Enc α} {F : Enc β} {w : World} {base base' : Nat} {v v' : Value} {l : List α} {l' : List β} (h : Own E w base v l) (h' : Own F w base' v' l') (hE : E.e ≠ F.e) : ∀ k, v.ownBlock = some k → v'.ownBlock ≠ some k := by
  intro k hk hk'
  obtain ⟨C, hC⟩ := own_blkE h k hk
  obtain ⟨C', hC'⟩ := own_blkE h' k hk'
  exact hE (blk_type hC hC')
/-- one option is appended -/
theorem OwnO.app {w w' : World} {base : Nat} {v v' : Value} {A : List Opt} {ps : List (Nat × (Option Addr × Nat × Nat))} {q : Nat × (Option Addr × Nat × Nat)} {o : Opt} (h1 : Own opE w base v ps) (h2 : ps.length = A.length)
    (h3 : ∀ (j : Nat) (p : Nat × (Option Addr × Nat × Nat)) (o : Opt), ps[j]? = some p → A[j]? = some o → p.1 = o.1 ∧ Own byteE w base (.slice p.2.1 p.2.2.1 p.2.2.2) o.2)
    (hq : q.1 = o.1 ∧ Own byteE w base (.slice q.2.1 q.2.2.1 q.2.2.2) o.2) (ho : Own opE w' base v' (ps ++ [q])) (hg : w.grownBy w' v.ownBlock) : OwnO w' base v' (A ++ [o]) := by
  have key : ∀ (p : Nat × (Option Addr × Nat × Nat)) (o : Opt), (p.1 = o.1 ∧ Own byteE w base (.slice p.2.1 p.2.2.1 p.2.2.2) o.2) → (p.1 = o.1 ∧ Own byteE w' base (.slice p.2.1 p.2.2.1 p.2.2.2) o.2) := by
    rintro p o ⟨r1, r2⟩
    exact ⟨r1, r2.keep fun k hk => hg.block k (r2.lt k hk).2 (fun e => own_apart r2 h1 (by decide) k hk e.symm)⟩
  refine ⟨ps ++ [q], ho, by simp [h2], fun j p x hp hx => ?_⟩
  rw [List.getElem?_append] at hp hx
  by_cases hj : j < ps.length
  · rw [if_pos hj] at hp
    rw [if_pos (by omega)] at hx
    exact key p x (h3 j p x hp hx)
  · rw [if_neg hj] at hp
    rw [if_neg (by omega), ← h2] at hx
    obtain ⟨m, hm⟩ : ∃ m, j - ps.length = m := ⟨_, rfl⟩
    rw [hm] at hp hx
    cases m with
    | succ m => simp at hp
    | zero =>
      simp only [List.getElem?_cons_zero, Option.some.injEq] at hp hx
      subst hp
      subst hx
      exact key q o hq
/-- what Read answers -/
def rdOK (n0 ty ttl n4 n5 n6 nr : Nat) : Prop := n0 = 0 ∧ ty = 41 ∧ ttl % 32768 = 0 ∧ n4 = 0 ∧ n5 = 0 ∧ n6 = 0 ∧ nr ≤ 65535
instance (n0 ty ttl n4 n5 n6 nr : Nat) : Decidable (rdOK n0 ty ttl n4 n5 n6 nr) := by unfold rdOK; infer_instance
def ReadB (base : Nat) (n0 ty cl ttl n4 n5 n6 : Nat) (raw : List UInt8) (e : Ending) (w' : World) : Prop :=
  if rdOK n0 ty ttl n4 n5 n6 raw.length then match prs raw 0 with
    | none => e = .returned (.tuple #[eV 0 0 0 false nilV, .int .i64 8])
    | some A => ∃ v, e = .returned (.tuple #[eV cl (ttl / 16777216 : Nat) (ttl / 65536 % 256 : Nat) (ttl / 32768 % 2 == 1) v, .int .i64 0]) ∧ OwnO w' base v A
  else e = .returned (.tuple #[eV 0 0 0 false nilV, .int .i64 8])
theorem ReadB.bad {base n0 ty cl ttl n4 n5 n6 : Nat} {raw : List UInt8} {e : Ending} {w' : World} (h : ¬ rdOK n0 ty ttl n4 n5 n6 raw.length ∨ prs raw 0 = none) (he : e = .returned (.tuple #[eV 0 0 0 false nilV, .int .i64 8])) : ReadB base n0 ty cl ttl n4 n5 n6 raw e w' := by
  unfold ReadB
  split
  · rcases h with h | h
    · exact absurd ‹_› h
    · rw [h]; exact he
  · exact he
theorem ReadB.ok {base n0 ty cl ttl n4 n5 n6 : Nat} {raw : List UInt8} {e : Ending} {w' : World} {A : List Opt} {v : Value} (h : rdOK n0 ty ttl n4 n5 n6 raw.length) (hA : prs raw 0 = some A)
    (he : e = .returned (.tuple #[eV cl (ttl / 16777216 : Nat) (ttl / 65536 % 256 : Nat) (ttl / 32768 % 2 == 1) v, .int .i64 0])) (ho : OwnO w' base v A) : ReadB base n0 ty cl ttl n4 n5 n6 raw e w' := by
  unfold ReadB
  rw [if_pos h, hA]
  exact ⟨v, he, ho⟩
end Go.Proofs.Ythgnlbdolilklaa
