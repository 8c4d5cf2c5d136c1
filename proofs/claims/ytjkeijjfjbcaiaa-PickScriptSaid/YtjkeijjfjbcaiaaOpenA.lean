/- How a slice of calls of a picker is opened. -/
import Derived.Test.YtjkeijjfjbcaiaaOpenN
import Derived.Deep.Slices
import Derived.Deep.Fields
import Derived.ChangeSame
namespace Go.Proofs.Ytjkeijjfjbcaiaa
open Go.RowKit Go.ChangeShapes Go.WideShapes Go.Deep
/-- a call as it came in -/
structure ActD where
  k : Int
  la : Option Addr
  ln : Nat
  lc : Nat
  y : Int
  t : Int
  n : Int
instance : Inhabited ActD := ⟨⟨0, none, 0, 0, 0, 0, 0⟩⟩
def actE : Enc ActD := ⟨45, 5, fun a => [.int .i64 a.k, .slice a.la a.ln a.lc, .int .u32 a.y, .int .i64 a.t, .int .i64 a.n], ⟨0, none, 0, 0, 0, 0, 0⟩, fun _ => rfl, fun x v hv => by simp at hv; rcases hv with rfl | rfl | rfl | rfl | rfl <;> rfl, by decide⟩
def fieldsOf (P : Program) (t : TypeId) : List (TypeId × Nat) := match P.underlying t with
  | some (.struct fs) => fs.toList.map fun f => (f.type, f.offset)
  | _ => []
def oneOf (P : Program) (t : TypeId) : Bool := match P.underlying t with
  | some (.struct fs) => oneCellFields P fs
  | _ => false
theorem five_fields {P : Program} {t a b c d e : Nat} {a' b' c' d' e' : Nat} (h : fieldsOf P t = [(a, a'), (b, b'), (c, c'), (d, d'), (e, e')]) : ∃ f0 f1 f2 f3 f4 : Field, P.underlying t = some (.struct #[f0, f1, f2, f3, f4]) ∧ f0.type = a ∧ f1.type = b ∧ f2.type = c ∧ f3.type = d ∧ f4.type = e := by
  unfold fieldsOf at h
  split at h
  · rename_i fs hfs
    obtain ⟨fl⟩ := fs
    match fl, h with
    | [f0, f1, f2, f3, f4], h =>
      simp at h
      exact ⟨f0, f1, f2, f3, f4, hfs, h.1.1, h.2.1.1, h.2.2.1.1, h.2.2.2.1.1, h.2.2.2.2.1⟩
  · cases h
section
variable {H : Type} {enc : TypeId × Value → H} {P : Program} {w : World} {base : Nat} {spare : Nat → Bool} {held : Bool}
theorem open_slice_fields {t e : TypeId} {fs : Array Field} {fuel : Nat} {cs : List Value} {x : DataW H × List MemPlace} (ht : P.underlying t = some (.slice e)) (he : P.underlying e = some (.struct fs))
    (hone : oneCellFields P fs = true) (hC : P.cellsOf e = fs.size) (h : DataW.trod enc P w base spare held fuel t cs = some x) :
    (cs = [.slice none 0 0] ∧ x = (.nil, [])) ∨
    ∃ (a : Addr) (len cap m : Nat) (D : Nat → DataW H) (Pl : Nat → List MemPlace), cs = [.slice (some a) len cap] ∧ base ≤ a.block ∧ len ≤ cap ∧ cap ≤ maxLen ∧ m = (if spare a.block then cap else len) ∧
      x = (.slice ((List.range len).map D) ((List.range (m - len)).map fun j => D (len + j)), MemPlace.row a (m * fs.size) ++ (List.range m).flatMap Pl) ∧
      ∀ i, i < m → ∃ (ys : List (DataW H × List MemPlace)) (n : Nat), D i = .agg (ys.map (·.1)) ∧ Pl i = ys.flatMap (·.2) ∧ ys.length = fs.size ∧
        ∀ (j : Nat) (f : Field), fs[j]? = some f → ∃ (v : Value) (y : DataW H × List MemPlace), w.cell? (a.add (i * fs.size + j)) = some v ∧ ys[j]? = some y ∧ DataW.trod enc P w base spare held n f.type [v] = some y := by
  rcases open_slice ht h with h0 | ⟨a, len, cap, m, n, D, Pl, hcs, hb, hl, hm, hmm, hx, hi⟩
  · exact .inl h0
  · refine .inr ⟨a, len, cap, m, D, Pl, hcs, hb, hl, hm, hmm, by rw [hC] at hx; exact hx, fun i him => ?_⟩
    obtain ⟨cs', hc, ht'⟩ := hi i him
    rw [hC] at hc
    obtain ⟨ys, n', hn', hy, hlen, hyl, hf⟩ := DataW.trod_struct he ht'
    obtain ⟨_, hcl, hat⟩ := World.cells?_some hc
    simp only [Prod.mk.injEq] at hy
    refine ⟨ys, n', hy.1, hy.2, hyl, fun j f hj => ?_⟩
    obtain ⟨ho, hk⟩ := hone_of hone j f hj
    have hjl : j < fs.size := (Array.getElem?_eq_some_iff.1 hj).1
    have hcell := hat j hjl
    have hv : cs'[j]? = some (cs'[j]'(by omega)) := List.getElem?_eq_getElem (by omega)
    have h1 := hf j f hj
    rw [ho, hk] at h1
    have hone' : (cs'.drop j).take 1 = [cs'[j]'(by omega)] := by
      rw [List.drop_eq_getElem_cons (by omega)]
      rfl
    rw [hone'] at h1
    have hys : ys[j]? = some (ys[j]'(by omega)) := List.getElem?_eq_getElem (by omega)
    refine ⟨_, _, ?_, hys, h1.trans hys⟩
    rw [← Go.Deep.add_add, hcell, hv]
end

theorem u32s_of {H : Type} {enc : TypeId × Value → H} {w : World} {t : TypeId} {v : Value} {fuel : Nat} {y : DataW H × List MemPlace} (ht : Try.prog.underlying t = some (.slice 28)) (hf : DataW.trod enc Try.prog w 0 (fun _ => true) true fuel t [v] = some y) :
    ∃ a n c l, v = .slice a n c ∧ Rd u32E w a n c l := by
  rcases open_ints ht Try.underlying28 (by kernel_rfl) hf with ⟨hcs, _⟩ | ⟨x, len, cap, zs, hcs, _, hl, hm, hz, hx, hcell, hwz⟩
  · simp at hcs
    exact ⟨none, 0, 0, [], hcs, Rd.nil _ _⟩
  · simp at hcs
    have hz' : zs.length = cap := by simpa using hz
    exact ⟨_, len, cap, _, hcs, rd_of (E := u32E) rfl (g := fun i => zs.getD i 0) (f := fun c => .int .u32 c) (fun _ => rfl) (m := cap) hl hl hm (fun i hi => hcell i (by omega))⟩
set_option maxRecDepth 100000 in
theorem open_acts {H : Type} {enc : TypeId × Value → H} {w : World} {v : Value} {d : DataW H} {p : List MemPlace} {r : Reach} {b0 : Nat} (hv : Value.okWide Try.prog w r b0 37 v) (h : DataW.Trod enc Try.prog w 0 (fun _ => true) true 37 v d p) :
    ∃ a n c l, v = .slice a n c ∧ Rd actE w a n c l ∧ ∀ q, q ∈ l → ∃ s, Rd u32E w q.la q.ln q.lc s := by
  obtain ⟨a0, n0, c0, rfl⟩ := okWide_slice (e := 45) (by kernel_rfl) hv
  obtain ⟨fuel, hf⟩ := h
  obtain ⟨f0, f1, f2, f3, f4, he, t0, t1, t2, t3, t4⟩ := five_fields (P := Try.prog) (t := 45) (a := 3) (a' := 0) (b := 23) (b' := 1) (c := 28) (c' := 2) (d := 3) (d' := 3) (e := 3) (e' := 4) (by kernel_rfl)
  have hone : oneCellFields Try.prog #[f0, f1, f2, f3, f4] = true := by
    have h : oneOf Try.prog 45 = true := by kernel_rfl
    unfold oneOf at h
    rw [he] at h
    exact h
  rcases open_slice_fields (t := 37) (e := 45) (by kernel_rfl) he hone (by kernel_rfl) hf with ⟨hcs, _⟩ | ⟨x, len, cap, m, D, Pl, hcs, _, hl, hm, hmm, _, hx⟩
  · simp [Value.cells] at hcs
    obtain ⟨rfl, rfl, rfl⟩ := hcs
    exact ⟨none, 0, 0, [], rfl, Rd.nil _ _, fun q hq => by cases hq⟩
  · simp [Value.cells] at hcs
    obtain ⟨rfl, rfl, rfl⟩ := hcs
    have hm' : m = c0 := by simpa using hmm
    have each : ∀ i, i < c0 → ∃ q : ActD, (∀ j u, (actE.f q)[j]? = some u → w.cell? (x.add (i * 5 + j)) = some u) ∧ ∃ s, Rd u32E w q.la q.ln q.lc s := by
      intro i hi
      obtain ⟨ys, k, _, _, _, hg⟩ := hx i (by omega)
      obtain ⟨v0, y0, h0, _, q0⟩ := hg 0 f0 rfl
      obtain ⟨v1, y1, h1, _, q1⟩ := hg 1 f1 rfl
      obtain ⟨v2, y2, h2, _, q2⟩ := hg 2 f2 rfl
      obtain ⟨v3, y3, h3, _, q3⟩ := hg 3 f3 rfl
      obtain ⟨v4, y4, h4, _, q4⟩ := hg 4 f4 rfl
      rw [t0] at q0
      rw [t1] at q1
      rw [t2] at q2
      rw [t3] at q3
      rw [t4] at q4
      obtain ⟨z0, e0, _, _⟩ := DataW.trod_int Try.underlying3 q0
      obtain ⟨la, ln, lc, s, e1, hs⟩ := u32s_of Try.underlying23 q1
      obtain ⟨z2, e2, _, _⟩ := DataW.trod_int Try.underlying28 q2
      obtain ⟨z3, e3, _, _⟩ := DataW.trod_int Try.underlying3 q3
      obtain ⟨z4, e4, _, _⟩ := DataW.trod_int Try.underlying3 q4
      simp at e0 e2 e3 e4
      refine ⟨⟨z0, la, ln, lc, z2, z3, z4⟩, fun j u hj => ?_, s, hs⟩
      match j, hj with
      | 0, hj => simp [actE] at hj; subst hj; rw [← e0]; exact h0
      | 1, hj => simp [actE] at hj; subst hj; rw [← e1]; exact h1
      | 2, hj => simp [actE] at hj; subst hj; rw [← e2]; exact h2
      | 3, hj => simp [actE] at hj; subst hj; rw [← e3]; exact h3
      | 4, hj => simp [actE] at hj; subst hj; rw [← e4]; exact h4
      | j + 5, hj => simp [actE] at hj
    obtain ⟨q, hq⟩ := choose_lt each
    refine ⟨_, n0, c0, (List.range n0).map q, rfl, ⟨by simp, hl, hm, fun j hj i hi => ?_⟩, fun z hz => ?_⟩
    · have hj' : j < n0 := by simpa using hj
      obtain ⟨u0, hu0⟩ := actE.get_some (q 0) 0 (by decide)
      obtain ⟨b, o, rfl⟩ := spot_none (by simpa [Addr.add] using (hq 0 (by omega)).1 0 u0 hu0)
      refine ⟨b, o, rfl, ?_⟩
      obtain ⟨u1, hu1⟩ := actE.get_some (q j) i hi
      have h1 := (hq j (by omega)).1 i u1 hu1
      rw [Addr.add_lit] at h1
      have e : o + (j * actE.k + i) = o + (j * 5 + i) := rfl
      rw [e, h1]
      simp only [List.getElem_map, List.getElem_range]
      exact hu1.symm
    · simp only [List.mem_map, List.mem_range] at hz
      obtain ⟨j, hj, rfl⟩ := hz
      exact (hq j (by omega)).2
end Go.Proofs.Ytjkeijjfjbcaiaa
