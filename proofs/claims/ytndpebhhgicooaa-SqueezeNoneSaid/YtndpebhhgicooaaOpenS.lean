/- How slices of strings that came in are opened. -/
import Derived.Test.YtndpebhhgicooaaOpenB
namespace Go.Proofs.Ytndpebhhgicooaa
open Go.RowKit Go.ChangeShapes Go.WideShapes
structure RT (w : World) (a : Option Addr) (n c : Nat) (l : List (List UInt8)) : Prop where
  rd : Rd strE w a n c l
  most : c * 16 ≤ reachBytes
  texts : ∀ s ∈ l, s.length ≤ maxLen
section
variable {H : Type} {enc : TypeId × Value → H} {P : Program} {w : World} {ts : List TypeId} {ds : List (DataW H)}
theorem open_strs {i : Nat} {t : TypeId} {v : Value} {d : DataW H} {p : List MemPlace} {r : Reach} {b0 : Nat} (ht : P.underlying t = some (.slice 9)) (he : P.underlying 9 = some .string) (hc : P.cellsOf 9 = 1) (hb : P.bytesOf 9 = 16) (hv : Value.okWide P w r b0 t v)
    (h : DataW.Trod enc P w 0 (fun _ => true) true t v d p) (hsz : (DataW.weightsEach P ts ds).all (· ≤ reachBytes) = true) (h1 : ts[i]? = some t) (h2 : ds[i]? = some d) : ∃ a n c l, v = .slice a n c ∧ RT w a n c l := by
  obtain ⟨a0, n0, c0, rfl⟩ := okWide_slice ht hv
  obtain ⟨fuel, hf⟩ := h
  rcases open_strings ht he hc hf with ⟨hcs, _⟩ | ⟨x, len, cap, ss, hcs, _, hl, hm, hz, hx, hcell, hwz⟩
  · simp [Value.cells] at hcs
    obtain ⟨rfl, rfl, rfl⟩ := hcs
    exact ⟨none, 0, 0, [], rfl, Rd.nil _ _, Nat.zero_le _, fun s hs => by cases hs⟩
  · simp [Value.cells] at hcs
    obtain ⟨rfl, rfl, rfl⟩ := hcs
    simp only [Prod.mk.injEq] at hx
    have hsl := sized_slice hsz h1 (hx.1 ▸ h2) ht
    have hz' : ss.length = c0 := by simpa using hz
    have hmem : ∀ i, i < c0 → ss.getD i ByteArray.empty ∈ ss := fun i hi => by
      rw [List.getD_eq_getElem?_getD, List.getElem?_eq_getElem (by omega : i < ss.length)]
      exact List.getElem_mem _
    refine ⟨_, n0, c0, _, rfl, rd_of (E := strE) rfl (g := fun i => bs (ss.getD i ByteArray.empty)) (f := fun l => .string (mk l)) (fun _ => rfl) (m := c0) hl hl hm (fun i hi => ?_), ?_, ?_⟩
    · rw [hcell i (by omega), mk_bs]
    · have e : (strs (H := H) (ss.take n0)).length + (strs (H := H) (ss.drop n0)).length = c0 := by simp [strs]; omega
      rw [e, hb] at hsl
      exact hsl
    · intro s hs
      simp only [List.mem_map, List.mem_range] at hs
      obtain ⟨j, hj, rfl⟩ := hs
      rw [length_bs]; exact hwz _ (hmem j (by omega))
end
end Go.Proofs.Ytndpebhhgicooaa
