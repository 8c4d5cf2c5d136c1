/- How slices of ints and slices of texts of bytes that came in are opened. -/
import Derived.Test.YtmimbfikjnfhdaaOpenB
import Derived.Test.YtmimbfikjnfhdaaStC
import Derived.Deep.Matrix
namespace Go.Proofs.Ytmimbfikjnfhdaa
open Go.RowKit Go.ChangeShapes Go.WideShapes
section
variable {H : Type} {enc : TypeId × Value → H} {w : World}
theorem open_nums {t : TypeId} {v : Value} {d : DataW H} {p : List MemPlace} {r : Reach} {b0 : Nat} (ht : Try.prog.underlying t = some (.slice 3)) (hv : Value.okWide Try.prog w r b0 t v)
    (h : DataW.Trod enc Try.prog w 0 (fun _ => true) true t v d p) : ∃ a n c l, v = .slice a n c ∧ Rd intE w a n c l ∧ ∀ z ∈ l, -9223372036854775808 ≤ z ∧ z ≤ 9223372036854775807 := by
  obtain ⟨a0, n0, c0, rfl⟩ := okWide_slice ht hv
  obtain ⟨fuel, hf⟩ := h
  rcases open_ints ht Try.underlying3 (by kernel_rfl) hf with ⟨hcs, _⟩ | ⟨x, len, cap, zs, hcs, _, hl, hm, hz, hx, hcell, hwz⟩
  · simp [Value.cells] at hcs
    obtain ⟨rfl, rfl, rfl⟩ := hcs
    exact ⟨none, 0, 0, [], rfl, Rd.nil _ _, fun z hz => by cases hz⟩
  · simp [Value.cells] at hcs
    obtain ⟨rfl, rfl, rfl⟩ := hcs
    have hz' : zs.length = c0 := by simpa using hz
    have hmem : ∀ i, i < c0 → zs.getD i 0 ∈ zs := fun i hi => by
      rw [List.getD_eq_getElem?_getD, List.getElem?_eq_getElem (by omega : i < zs.length)]
      exact List.getElem_mem _
    refine ⟨_, n0, c0, _, rfl, rd_of (E := intE) rfl (g := fun i => zs.getD i 0) (f := fun c => .int .i64 c) (fun _ => rfl) (m := c0) hl hl hm (fun i hi => hcell i (by omega)), ?_⟩
    intro s hs
    simp only [List.mem_map, List.mem_range] at hs
    obtain ⟨j, hj, rfl⟩ := hs
    have hw := hwz _ (hmem j (by omega))
    generalize zs.getD j 0 = q at hw ⊢
    simp [Lit.wf, IntKind.min, IntKind.max, IntKind.signed, IntKind.bits] at hw
    omega
set_option maxRecDepth 100000 in
theorem open_rows {t : TypeId} {v : Value} {d : DataW H} {p : List MemPlace} {r : Reach} {b0 : Nat} (ht : Try.prog.underlying t = some (.slice 41)) (hv : Value.okWide Try.prog w r b0 t v)
    (h : DataW.Trod enc Try.prog w 0 (fun _ => true) true t v d p) : ∃ a n c XS, v = .slice a n c ∧ RdL w a n c XS ∧ c ≤ maxLen := by
  obtain ⟨a0, n0, c0, rfl⟩ := okWide_slice ht hv
  obtain ⟨fuel, hf⟩ := h
  rcases Deep.open_int_rows ht Try.underlying41 Try.underlying5 (by kernel_rfl) (by kernel_rfl) hf with ⟨hcs, _⟩ | ⟨x, len, cap, A, L, C, Z, hcs, _, hl, hm, _, hr⟩
  · simp [Value.cells] at hcs
    obtain ⟨rfl, rfl, rfl⟩ := hcs
    exact ⟨none, 0, 0, [], rfl, ⟨[], Rd.nil _ _, rfl, fun j p X hp => by simp at hp⟩, Nat.zero_le _⟩
  · simp [Value.cells] at hcs
    obtain ⟨rfl, rfl, rfl⟩ := hcs
    refine ⟨some x, n0, c0, (List.range n0).map fun i => (List.range (L i)).map fun c => UInt8.ofNat ((Z i).getD c 0).toNat, rfl, ⟨(List.range n0).map fun i => (A i, L i, C i), ?_, by simp, fun j p X hp hX => ?_⟩, hm⟩
    · exact rd_of (E := slE) rfl (g := fun i => (A i, L i, C i)) (f := fun p => .slice p.1 p.2.1 p.2.2) (fun _ => rfl) (m := n0) (Nat.le_refl _) hl hm (fun i hi => (hr i (by omega)).1)
    · simp only [List.getElem?_map, Option.map_eq_some_iff] at hp hX
      obtain ⟨j1, h1, rfl⟩ := hp
      obtain ⟨j2, h2, rfl⟩ := hX
      rw [h1] at h2
      cases h2
      have hj : j1 = j ∧ j < n0 := by
        by_cases hlt : j < n0
        · simp [hlt] at h1; exact ⟨h1.symm, hlt⟩
        · rw [List.getElem?_eq_none (by simp; omega)] at h1; cases h1
      obtain ⟨rfl, hj⟩ := hj
      obtain ⟨_, q1, q2, q3, q4, q5, q6⟩ := hr j1 (by omega)
      cases hA : A j1 with
      | none =>
        have e0 := q5 hA
        have e1 : L j1 = 0 := by omega
        rw [e0, e1]
        exact Rd.nil _ _
      | some a' =>
        refine rd_of (E := byteE) rfl (g := fun c => UInt8.ofNat ((Z j1).getD c 0).toNat) (f := fun c => .int .u8 c.toNat) (fun _ => rfl) (m := C j1) q1 q1 q2 (fun c hc => ?_)
        rw [(q6 a' hA).2 c hc]
        have hmem : (Z j1).getD c 0 ∈ Z j1 := by
          rw [List.getD_eq_getElem?_getD, List.getElem?_eq_getElem (by omega : c < (Z j1).length)]
          exact List.getElem_mem _
        have hw := q4 _ hmem
        generalize (Z j1).getD c 0 = q at hw ⊢
        have hr : 0 ≤ q ∧ q < 256 := wf_range hw
        congr 2
        simp
        omega
end
end Go.Proofs.Ytmimbfikjnfhdaa
