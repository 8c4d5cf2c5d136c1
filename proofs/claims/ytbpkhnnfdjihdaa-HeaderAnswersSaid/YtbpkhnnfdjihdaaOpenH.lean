/- How a message's head and four counts that came in are opened; printed by gen_openh.py. -/
import Derived.Test.YtbpkhnnfdjihdaaOpenB
import Derived.Test.YtbpkhnnfdjihdaaHdBy
import Derived.Lib.SmallJoins
import Derived.OpenShut
namespace Go.Proofs.Ytbpkhnnfdjihdaa
open Go.Joins Go.ChangeShapes Go.WideShapes Go.RowKit Go.Deep
section
variable {H : Type} {enc : TypeId × Value → H} {P : Program} {w : World} {base : Nat} {spare : Nat → Bool} {held : Bool}
set_option maxRecDepth 100000 in
theorem open_agg14 {r : Reach} {b0 : Nat} {t : TypeId} {f0 f1 f2 f3 f4 f5 f6 f7 f8 f9 f10 f11 f12 f13 : Field} {v : Value} {d : DataW H} {p : List MemPlace} (hs : P.underlying t = some (.struct #[f0, f1, f2, f3, f4, f5, f6, f7, f8, f9, f10, f11, f12, f13])) (hone : oneCellFields P #[f0, f1, f2, f3, f4, f5, f6, f7, f8, f9, f10, f11, f12, f13] = true) (hC : P.cellsOf t = 14)
    (hv : Value.okWide P w r b0 t v) (h : DataW.Trod enc P w base spare held t v d p) :
    ∃ (v0 v1 v2 v3 v4 v5 v6 v7 v8 v9 v10 v11 v12 v13 : Value) (y0 y1 y2 y3 y4 y5 y6 y7 y8 y9 y10 y11 y12 y13 : DataW H × List MemPlace) (n : Nat), v = .agg #[v0, v1, v2, v3, v4, v5, v6, v7, v8, v9, v10, v11, v12, v13] ∧ DataW.trod enc P w base spare held n f0.type [v0] = some y0 ∧ DataW.trod enc P w base spare held n f1.type [v1] = some y1 ∧ DataW.trod enc P w base spare held n f2.type [v2] = some y2 ∧ DataW.trod enc P w base spare held n f3.type [v3] = some y3 ∧ DataW.trod enc P w base spare held n f4.type [v4] = some y4 ∧ DataW.trod enc P w base spare held n f5.type [v5] = some y5 ∧ DataW.trod enc P w base spare held n f6.type [v6] = some y6 ∧ DataW.trod enc P w base spare held n f7.type [v7] = some y7 ∧ DataW.trod enc P w base spare held n f8.type [v8] = some y8 ∧ DataW.trod enc P w base spare held n f9.type [v9] = some y9 ∧ DataW.trod enc P w base spare held n f10.type [v10] = some y10 ∧ DataW.trod enc P w base spare held n f11.type [v11] = some y11 ∧ DataW.trod enc P w base spare held n f12.type [v12] = some y12 ∧ DataW.trod enc P w base spare held n f13.type [v13] = some y13 := by
  obtain ⟨cs, rfl, hsz⟩ := okWide_struct hs hv
  obtain ⟨l⟩ := cs
  match l, hsz.trans hC with
  | [c0, c1, c2, c3, c4, c5, c6, c7, c8, c9, c10, c11, c12, c13], _ =>
    obtain ⟨fuel, hf⟩ := h
    obtain ⟨xs, n, _, hx, _, hlen, hg⟩ := DataW.trod_struct hs hf
    obtain ⟨o0, k0⟩ := hone_of hone 0 f0 rfl
    obtain ⟨o1, k1⟩ := hone_of hone 1 f1 rfl
    obtain ⟨o2, k2⟩ := hone_of hone 2 f2 rfl
    obtain ⟨o3, k3⟩ := hone_of hone 3 f3 rfl
    obtain ⟨o4, k4⟩ := hone_of hone 4 f4 rfl
    obtain ⟨o5, k5⟩ := hone_of hone 5 f5 rfl
    obtain ⟨o6, k6⟩ := hone_of hone 6 f6 rfl
    obtain ⟨o7, k7⟩ := hone_of hone 7 f7 rfl
    obtain ⟨o8, k8⟩ := hone_of hone 8 f8 rfl
    obtain ⟨o9, k9⟩ := hone_of hone 9 f9 rfl
    obtain ⟨o10, k10⟩ := hone_of hone 10 f10 rfl
    obtain ⟨o11, k11⟩ := hone_of hone 11 f11 rfl
    obtain ⟨o12, k12⟩ := hone_of hone 12 f12 rfl
    obtain ⟨o13, k13⟩ := hone_of hone 13 f13 rfl
    match xs, hlen with
    | [y0, y1, y2, y3, y4, y5, y6, y7, y8, y9, y10, y11, y12, y13], _ =>
      refine ⟨c0, c1, c2, c3, c4, c5, c6, c7, c8, c9, c10, c11, c12, c13, y0, y1, y2, y3, y4, y5, y6, y7, y8, y9, y10, y11, y12, y13, n, rfl, ?_, ?_, ?_, ?_, ?_, ?_, ?_, ?_, ?_, ?_, ?_, ?_, ?_, ?_⟩
      · simpa [Value.cells, o0, k0] using hg 0 f0 rfl
      · simpa [Value.cells, o1, k1] using hg 1 f1 rfl
      · simpa [Value.cells, o2, k2] using hg 2 f2 rfl
      · simpa [Value.cells, o3, k3] using hg 3 f3 rfl
      · simpa [Value.cells, o4, k4] using hg 4 f4 rfl
      · simpa [Value.cells, o5, k5] using hg 5 f5 rfl
      · simpa [Value.cells, o6, k6] using hg 6 f6 rfl
      · simpa [Value.cells, o7, k7] using hg 7 f7 rfl
      · simpa [Value.cells, o8, k8] using hg 8 f8 rfl
      · simpa [Value.cells, o9, k9] using hg 9 f9 rfl
      · simpa [Value.cells, o10, k10] using hg 10 f10 rfl
      · simpa [Value.cells, o11, k11] using hg 11 f11 rfl
      · simpa [Value.cells, o12, k12] using hg 12 f12 rfl
      · simpa [Value.cells, o13, k13] using hg 13 f13 rfl
theorem okWide_array {m : Nat} {e t : TypeId} {r : Reach} {b0 : Nat} {v : Value} (ht : P.underlying t = some (.array m e)) (h : Value.okWide P w r b0 t v) : ∃ cs, v = .agg cs ∧ cs.size = P.cellsOf t := by
  simp only [Value.okWide, ht] at h
  obtain ⟨cs, h1, h2, _⟩ := h
  exact ⟨cs, h1, h2⟩
end
def fieldsOf (P : Program) (t : TypeId) : List TypeId := match P.underlying t with
  | some (.struct fs) => fs.toList.map fun f => f.type
  | _ => []
def oneOf (P : Program) (t : TypeId) : Bool := match P.underlying t with
  | some (.struct fs) => oneCellFields P fs
  | _ => false
theorem fields14 {P : Program} {t : TypeId} {a0 a1 a2 a3 a4 a5 a6 a7 a8 a9 a10 a11 a12 a13 : Nat} (h : fieldsOf P t = [a0, a1, a2, a3, a4, a5, a6, a7, a8, a9, a10, a11, a12, a13]) : ∃ f0 f1 f2 f3 f4 f5 f6 f7 f8 f9 f10 f11 f12 f13 : Field, P.underlying t = some (.struct #[f0, f1, f2, f3, f4, f5, f6, f7, f8, f9, f10, f11, f12, f13]) ∧ f0.type = a0 ∧ f1.type = a1 ∧ f2.type = a2 ∧ f3.type = a3 ∧ f4.type = a4 ∧ f5.type = a5 ∧ f6.type = a6 ∧ f7.type = a7 ∧ f8.type = a8 ∧ f9.type = a9 ∧ f10.type = a10 ∧ f11.type = a11 ∧ f12.type = a12 ∧ f13.type = a13 := by
  unfold fieldsOf at h
  split at h
  · rename_i fs hfs
    obtain ⟨fl⟩ := fs
    match fl, h with
    | [f0, f1, f2, f3, f4, f5, f6, f7, f8, f9, f10, f11, f12, f13], h =>
      simp at h
      exact ⟨f0, f1, f2, f3, f4, f5, f6, f7, f8, f9, f10, f11, f12, f13, hfs, h⟩
  · cases h
set_option maxRecDepth 100000 in
theorem open_head {H : Type} {enc : TypeId × Value → H} {w : World} {v : Value} {d : DataW H} {p : List MemPlace} {r : Reach} {b0 : Nat} (hv : Value.okWide Try.prog w r b0 28 v) (h : DataW.Trod enc Try.prog w 0 (fun _ => true) true 28 v d p) :
    ∃ (id : Nat) (op rc : Int) (F : Nat → Bool) (s0 s1 s2 s3 : Value), id < 65536 ∧ v = mV id op rc F s0 s1 s2 s3 := by
  obtain ⟨f0, f1, f2, f3, f4, f5, f6, f7, f8, f9, f10, f11, f12, f13, he, t0, t1, t2, t3, t4, t5, t6, t7, t8, t9, t10, t11, t12, t13⟩ := fields14 (P := Try.prog) (t := 28) (a0 := 24) (a1 := 4) (a2 := 3) (a3 := 4) (a4 := 4) (a5 := 4) (a6 := 4) (a7 := 4) (a8 := 4) (a9 := 3) (a10 := 25) (a11 := 26) (a12 := 26) (a13 := 26) (by kernel_rfl)
  have hone : oneCellFields Try.prog #[f0, f1, f2, f3, f4, f5, f6, f7, f8, f9, f10, f11, f12, f13] = true := by
    have h : oneOf Try.prog 28 = true := by kernel_rfl
    unfold oneOf at h
    rw [he] at h
    exact h
  obtain ⟨v0, v1, v2, v3, v4, v5, v6, v7, v8, v9, v10, v11, v12, v13, y0, y1, y2, y3, y4, y5, y6, y7, y8, y9, y10, y11, y12, y13, n, rfl, q0, q1, q2, q3, q4, q5, q6, q7, q8, q9, q10, q11, q12, q13⟩ := open_agg14 he hone (by kernel_rfl) hv h
  rw [t0] at q0
  rw [t1] at q1
  rw [t2] at q2
  rw [t3] at q3
  rw [t4] at q4
  rw [t5] at q5
  rw [t6] at q6
  rw [t7] at q7
  rw [t8] at q8
  rw [t9] at q9
  obtain ⟨b0, e0, _, w0⟩ := DataW.trod_int Try.underlying24 q0
  obtain ⟨b1, e1, _⟩ := DataW.trod_bool Try.underlying4 q1
  obtain ⟨b2, e2, _, w2⟩ := DataW.trod_int Try.underlying3 q2
  obtain ⟨b3, e3, _⟩ := DataW.trod_bool Try.underlying4 q3
  obtain ⟨b4, e4, _⟩ := DataW.trod_bool Try.underlying4 q4
  obtain ⟨b5, e5, _⟩ := DataW.trod_bool Try.underlying4 q5
  obtain ⟨b6, e6, _⟩ := DataW.trod_bool Try.underlying4 q6
  obtain ⟨b7, e7, _⟩ := DataW.trod_bool Try.underlying4 q7
  obtain ⟨b8, e8, _⟩ := DataW.trod_bool Try.underlying4 q8
  obtain ⟨b9, e9, _, w9⟩ := DataW.trod_int Try.underlying3 q9
  simp at e0 e1 e2 e3 e4 e5 e6 e7 e8 e9
  subst e0 e1 e2 e3 e4 e5 e6 e7 e8 e9
  have hb : 0 ≤ b0 ∧ b0 < 65536 := by
    simp [Lit.wf, IntKind.min, IntKind.max, IntKind.signed, IntKind.bits] at w0
    omega
  refine ⟨b0.toNat, b2, b9, fun j => match j with | 0 => b8 | 1 => b7 | 2 => b6 | 3 => b5 | 4 => b4 | 5 => b3 | _ => b1, v10, v11, v12, v13, by omega, ?_⟩
  unfold mV
  rw [Int.toNat_of_nonneg hb.1]
  rfl
theorem open_counts {H : Type} {enc : TypeId × Value → H} {w : World} {v : Value} {d : DataW H} {p : List MemPlace} {r : Reach} {b0 : Nat} (hv : Value.okWide Try.prog w r b0 29 v) (h : DataW.Trod enc Try.prog w 0 (fun _ => true) true 29 v d p) :
    ∃ c0 c1 c2 c3 : Int, v = cV c0 c1 c2 c3 := by
  have ht : Try.prog.underlying 29 = some (.array 4 3) := by kernel_rfl
  obtain ⟨cs, rfl, hsz⟩ := okWide_array ht hv
  obtain ⟨l⟩ := cs
  have hC : Try.prog.cellsOf 29 = 4 := by kernel_rfl
  have hC3 : Try.prog.cellsOf 3 = 1 := by kernel_rfl
  match l, hsz.trans hC with
  | [x0, x1, x2, x3], _ =>
    obtain ⟨fuel, hf⟩ := h
    obtain ⟨xs, n, _, hx, _, hlen, hg⟩ := DataW.trod_array ht hf
    match xs, hlen with
    | [y0, y1, y2, y3], _ =>
      have g0 := hg 0 (by decide)
      have g1 := hg 1 (by decide)
      have g2 := hg 2 (by decide)
      have g3 := hg 3 (by decide)
      rw [hC3] at g0 g1 g2 g3
      simp [Value.cells] at g0 g1 g2 g3
      obtain ⟨z0, e0, _⟩ := DataW.trod_int Try.underlying3 g0
      obtain ⟨z1, e1, _⟩ := DataW.trod_int Try.underlying3 g1
      obtain ⟨z2, e2, _⟩ := DataW.trod_int Try.underlying3 g2
      obtain ⟨z3, e3, _⟩ := DataW.trod_int Try.underlying3 g3
      simp at e0 e1 e2 e3
      exact ⟨z0, z1, z2, z3, by rw [e0, e1, e2, e3]; rfl⟩
end Go.Proofs.Ytbpkhnnfdjihdaa
