/- How slices of numbers that came in are opened. -/
import Derived.Test.YtjkeijjfjbcaiaaOpenB
import Derived.Test.YtjkeijjfjbcaiaaPkH
namespace Go.Proofs.Ytjkeijjfjbcaiaa
open Go.RowKit Go.ChangeShapes Go.WideShapes
section
variable {H : Type} {enc : TypeId × Value → H} {w : World}
theorem open_nums {t : TypeId} {v : Value} {d : DataW H} {p : List MemPlace} {r : Reach} {b0 : Nat} (ht : Try.prog.underlying t = some (.slice 3)) (hv : Value.okWide Try.prog w r b0 t v)
    (h : DataW.Trod enc Try.prog w 0 (fun _ => true) true t v d p) : ∃ a n c l, v = .slice a n c ∧ Rd intE w a n c l ∧ ∀ z ∈ l, -9223372036854775808 ≤ z ∧ z ≤ 9223372036854775807 := by
  obtain ⟨a0, n0, c0, rfl⟩ := okWide_slice ht hv
  obtain ⟨fuel, hf⟩ := h
  rcases open_ints ht Try.underlying3 (by kernel_rfl) hf with ⟨hcs, _⟩ | ⟨x, len, cap, zs, hcs, _, hl, hm, hz, hx, hcell, hwz⟩
  · simp [Value.cells] at hcs
    obtain ⟨rfl, rfl, rfl⟩ := hcs
    exact ⟨none, 0, 0, [], rfl, Rd.nil _ _, fun z hz => by cases hz⟩
  · simp [Value.cells] at hcs
    obtain ⟨rfl, rfl, rfl⟩ := hcs
    have hz' : zs.length = c0 := by simpa using hz
    have hmem : ∀ i, i < c0 → zs.getD i 0 ∈ zs := fun i hi => by
      rw [List.getD_eq_getElem?_getD, List.getElem?_eq_getElem (by omega : i < zs.length)]
      exact List.getElem_mem _
    refine ⟨_, n0, c0, _, rfl, rd_of (E := intE) rfl (g := fun i => zs.getD i 0) (f := fun c => .int .i64 c) (fun _ => rfl) (m := c0) hl hl hm (fun i hi => hcell i (by omega)), ?_⟩
    intro s hs
    simp only [List.mem_map, List.mem_range] at hs
    obtain ⟨j, hj, rfl⟩ := hs
    have hw := hwz _ (hmem j (by omega))
    generalize zs.getD j 0 = q at hw ⊢
    simp [Lit.wf, IntKind.min, IntKind.max, IntKind.signed, IntKind.bits] at hw
    omega
theorem open_u32s {t : TypeId} {v : Value} {d : DataW H} {p : List MemPlace} {r : Reach} {b0 : Nat} (ht : Try.prog.underlying t = some (.slice 28)) (hv : Value.okWide Try.prog w r b0 t v)
    (h : DataW.Trod enc Try.prog w 0 (fun _ => true) true t v d p) : ∃ a n c l, v = .slice a n c ∧ Rd u32E w a n c l ∧ ∀ z ∈ l, 0 ≤ z ∧ z < 4294967296 := by
  obtain ⟨a0, n0, c0, rfl⟩ := okWide_slice ht hv
  obtain ⟨fuel, hf⟩ := h
  rcases open_ints ht Try.underlying28 (by kernel_rfl) hf with ⟨hcs, _⟩ | ⟨x, len, cap, zs, hcs, _, hl, hm, hz, hx, hcell, hwz⟩
  · simp [Value.cells] at hcs
    obtain ⟨rfl, rfl, rfl⟩ := hcs
    exact ⟨none, 0, 0, [], rfl, Rd.nil _ _, fun z hz => by cases hz⟩
  · simp [Value.cells] at hcs
    obtain ⟨rfl, rfl, rfl⟩ := hcs
    have hz' : zs.length = c0 := by simpa using hz
    have hmem : ∀ i, i < c0 → zs.getD i 0 ∈ zs := fun i hi => by
      rw [List.getD_eq_getElem?_getD, List.getElem?_eq_getElem (by omega : i < zs.length)]
      exact List.getElem_mem _
    refine ⟨_, n0, c0, _, rfl, rd_of (E := u32E) rfl (g := fun i => zs.getD i 0) (f := fun c => .int .u32 c) (fun _ => rfl) (m := c0) hl hl hm (fun i hi => hcell i (by omega)), ?_⟩
    intro s hs
    simp only [List.mem_map, List.mem_range] at hs
    obtain ⟨j, hj, rfl⟩ := hs
    have hw := hwz _ (hmem j (by omega))
    generalize zs.getD j 0 = q at hw ⊢
    simp [Lit.wf, IntKind.min, IntKind.max, IntKind.signed, IntKind.bits] at hw
    omega
end
end Go.Proofs.Ytjkeijjfjbcaiaa
