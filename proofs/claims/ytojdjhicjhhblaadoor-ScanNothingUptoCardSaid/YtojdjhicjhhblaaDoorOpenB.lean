/- How slices that came in are opened. -/
import Derived.Test.YtojdjhicjhhblaaDoorRd
import Derived.ChangeSlices
import Derived.SliceStrings
import Derived.SizedLaws
import Derived.Deep.SlicePairs
namespace Go.Proofs.YtojdjhicjhhblaaDoor
open Go.RowKit Go.ChangeShapes Go.WideShapes
structure RB (w : World) (a : Option Addr) (n c : Nat) (l : List UInt8) : Prop where
  rd : Rd byteE w a n c l
  most : c ≤ reachBytes
structure RS (w : World) (a : Option Addr) (n c : Nat) (l : List (List UInt8)) : Prop where
  rd : Rd strE w a n c l
  most : c * 16 ≤ reachBytes
  texts : ∀ s ∈ l, s.length ≤ reachBytes
theorem wf_range {q : Int} (h : (Lit.int .u8 q).wf = true) : 0 ≤ q ∧ q < 256 := by
  simp [Lit.wf, IntKind.min, IntKind.max, IntKind.signed, IntKind.bits] at h
  omega
theorem spot_none {w : World} {x : Addr} {v : Value} (h : w.cell? x = some v) : ∃ b o, x = ⟨b, o, none⟩ := by
  obtain ⟨b, o, s⟩ := x
  have : s = none := by simpa using World.cell?_spot h
  subst this; exact ⟨b, o, rfl⟩
theorem rd_of {α : Type} {E : Enc α} (hk : E.k = 1) {w : World} {x : Addr} {n c m : Nat} {g : Nat → α} {f : α → Value} (hf : ∀ y, E.f y = [f y]) (hn : n ≤ m) (hm : n ≤ c) (hc : c ≤ maxLen) (h : ∀ i, i < m → w.cell? (x.add i) = some (f (g i))) :
    Rd E w (some x) n c ((List.range n).map g) := by
  refine ⟨by simp, hm, hc, fun j hj i hi => ?_⟩
  have hj' : j < n := by simpa using hj
  have h0 := h 0 (by omega)
  obtain ⟨b, o, rfl⟩ := spot_none (by simpa [Addr.add] using h0)
  refine ⟨b, o, rfl, ?_⟩
  have h1 := h j (by omega)
  rw [Addr.add_lit] at h1
  have hi0 : i = 0 := by omega
  subst hi0
  rw [hk, Nat.mul_one, Nat.add_zero, h1]
  simp [hf]
section
variable {H : Type} {enc : TypeId × Value → H} {P : Program} {w : World} {ts : List TypeId} {ds : List (DataW H)}
theorem open_bytes {i : Nat} {t : TypeId} {v : Value} {d : DataW H} {p : List MemPlace} {r : Reach} {b0 : Nat} (ht : P.underlying t = some (.slice 5)) (he : P.underlying 5 = some (.int .u8)) (hc : P.cellsOf 5 = 1) (hb : P.bytesOf 5 = 1) (hv : Value.okWide P w r b0 t v)
    (h : DataW.Trod enc P w 0 (fun _ => true) true t v d p) (hsz : (DataW.weightsEach P ts ds).all (· ≤ reachBytes) = true) (h1 : ts[i]? = some t) (h2 : ds[i]? = some d) : ∃ a n c l, v = .slice a n c ∧ RB w a n c l := by
  obtain ⟨a0, n0, c0, rfl⟩ := okWide_slice ht hv
  obtain ⟨fuel, hf⟩ := h
  rcases open_ints ht he hc hf with ⟨hcs, _⟩ | ⟨x, len, cap, zs, hcs, _, hl, hm, hz, hx, hcell, hwz⟩
  · simp [Value.cells] at hcs
    obtain ⟨rfl, rfl, rfl⟩ := hcs
    exact ⟨none, 0, 0, [], rfl, Rd.nil _ _, Nat.zero_le _⟩
  · simp [Value.cells] at hcs
    obtain ⟨rfl, rfl, rfl⟩ := hcs
    simp only [Prod.mk.injEq] at hx
    have hsl := sized_slice hsz h1 (hx.1 ▸ h2) ht
    have hz' : zs.length = c0 := by simpa using hz
    refine ⟨_, n0, c0, _, rfl, rd_of (E := byteE) rfl (g := fun i => UInt8.ofNat (zs.getD i 0).toNat) (f := fun c => .int .u8 c.toNat) (fun _ => rfl) (m := c0) hl hl hm (fun i hi => ?_), ?_⟩
    · rw [hcell i (by omega)]
      have hmem : zs.getD i 0 ∈ zs := by
        rw [List.getD_eq_getElem?_getD, List.getElem?_eq_getElem (by omega : i < zs.length)]
        exact List.getElem_mem _
      have hw := hwz _ hmem
      generalize zs.getD i 0 = q at hw ⊢
      have hr : 0 ≤ q ∧ q < 256 := wf_range hw
      congr 2
      simp
      omega
    · have e : (lits (H := H) .u8 (zs.take n0)).length + (lits (H := H) .u8 (zs.drop n0)).length = c0 := by simp [lits]; omega
      rw [e, hb, Nat.mul_one] at hsl
      exact hsl
end
end Go.Proofs.YtojdjhicjhhblaaDoor
