/- Openers where the arguments' bulk is bounded. -/
import Derived.Test.YtffdcfannnmjnaaOpenB
import Derived.Test.YtffdcfannnmjnaaRows
namespace Go.Proofs.Ytffdcfannnmjnaa
open Go.RowKit Go.ChangeShapes Go.WideShapes
section
variable {H : Type} {enc : TypeId × Value → H} {P : Program} {w : World}
theorem bulk_lits : ∀ (zs : List Int), Rows.uptoBulkAll (lits (H := H) .u8 zs) = zs.length
  | [] => by simp [lits, Rows.uptoBulkAll]
  | z :: r => by
    have := bulk_lits r
    simp only [lits, List.map_cons, Rows.uptoBulkAll, Rows.uptoBulk, List.length_cons] at this ⊢
    omega
theorem bytes_bulk {t : TypeId} {a : Option Addr} {n c : Nat} {d : DataW H} {p : List MemPlace} (ht : P.underlying t = some (.slice 5)) (he : P.underlying 5 = some (.int .u8)) (hc : P.cellsOf 5 = 1)
    (h : DataW.Trod enc P w 0 (fun _ => true) true t (.slice a n c) d p) : n ≤ Rows.uptoBulk d := by
  obtain ⟨fuel, hf⟩ := h
  rcases open_ints ht he hc hf with ⟨hcs, _⟩ | ⟨x, len, cap, zs, hcs, _, hl, hm, hz, hx, hcell, hwz⟩
  · simp [Value.cells] at hcs
    obtain ⟨rfl, rfl, rfl⟩ := hcs
    exact Nat.zero_le _
  · simp [Value.cells] at hcs
    obtain ⟨rfl, rfl, rfl⟩ := hcs
    simp only [Prod.mk.injEq] at hx
    rw [hx.1]
    simp only [Rows.uptoBulk, bulk_lits, List.length_take]
    have hz' : zs.length = c := by simpa using hz
    have hmin : min n zs.length = n := Nat.min_eq_left (by omega)
    rw [hmin]; omega
end
end Go.Proofs.Ytffdcfannnmjnaa
