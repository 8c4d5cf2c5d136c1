/- Openers: rows of bytes, slices that are parameters. -/
import Derived.Test.YthdnbipfdahnlaaOpenK
namespace Go.Proofs.Ythdnbipfdahnlaa
open Go Go.ChangeShapes Go.WideShapes Go.RowKit Go.Deep
variable {H : Type} {enc : TypeId × Value → H} {w : World}
/-- a slice of bytes as an element -/
def slE : Enc (Option Addr × Nat × Nat) := ⟨30, 1, fun p => [.slice p.1 p.2.1 p.2.2], (none, 0, 0), fun _ => rfl, fun x v hv => by simp at hv; subst hv; rfl, by decide⟩
/-- rows of bytes as they read -/
def RdB (w : World) (a : Option Addr) (n c : Nat) (L : List (List UInt8)) : Prop := ∃ R : List (Option Addr × Nat × Nat), Rd slE w a n c R ∧ R.length = L.length ∧ ∀ (j : Nat) (p : Option Addr × Nat × Nat) (l : List UInt8), R[j]? = some p → L[j]? = some l → Rd byteE w p.1 p.2.1 p.2.2 l ∧ p.2.1 ≤ 140737488355328
theorem RdB.ext {w w' : World} {a : Option Addr} {n c : Nat} {L : List (List UInt8)} (h : RdB w a n c L) (hb : Below w.heap.size w w') : RdB w' a n c L := by
  obtain ⟨R, h1, h2, h3⟩ := h
  exact ⟨R, h1.ext hb, h2, fun j p l hp hl => ⟨(h3 j p l hp hl).1.ext hb, (h3 j p l hp hl).2⟩⟩
theorem RdB.len {w : World} {a : Option Addr} {n c : Nat} {L : List (List UInt8)} (h : RdB w a n c L) : L.length = n := by
  obtain ⟨R, h1, h2, h3⟩ := h
  have := h1.len
  omega
theorem RdB.at_ {w : World} {a : Option Addr} {n c : Nat} {L : List (List UInt8)} (h : RdB w a n c L) {k : Nat} (hk : k < n) : ∃ (b o : Nat) (da : Option Addr) (dn dc : Nat) (l : List UInt8), a = some ⟨b, o, none⟩ ∧ b < w.heap.size ∧ w.cell? ⟨b, o + k, none⟩ = some (.slice da dn dc) ∧ L[k]? = some l ∧ Rd byteE w da dn dc l ∧ dn ≤ 140737488355328 := by
  obtain ⟨R, h1, h2, h3⟩ := h
  have hl := h1.len
  obtain ⟨b, o, e, hb, hc⟩ := h1.addr (by omega)
  have hk' : k < R.length := by omega
  have c0 := hc k hk' 0 (by decide)
  obtain ⟨x, hx⟩ : ∃ x, L[k]? = some x := ⟨L[k]'(by omega), List.getElem?_eq_getElem _⟩
  have h4 := h3 k _ x (List.getElem?_eq_getElem hk') hx
  exact ⟨b, o, _, _, _, x, e, hb, by simpa [slE] using c0, hx, h4.1, h4.2⟩
set_option maxRecDepth 100000 in
theorem in_rows {fuel : Nat} {v : Value} {y : DataW H × List MemPlace} (hf : DataW.trod enc Try.prog w 0 (fun _ => true) true fuel 41 [v] = some y) (hz : Sz Try.prog 41 y.1) : ∃ a n c L, v = .slice a n c ∧ RdB w a n c L ∧ n ≤ 100000000000000 := by
  obtain ⟨a, n, c, R, h1, h2, h3, h4⟩ := open_elems (E := slE) (G := fun p => ∃ l : List UInt8, Rd byteE w p.1 p.2.1 p.2.2 l ∧ p.2.1 ≤ 140737488355328) (t := 41) (by kernel_rfl) (by kernel_rfl) (fun n cs x hx hz hl => by
    match cs, hl with
    | [c0], _ =>
      obtain ⟨a, n, c, l, e, h5, hc⟩ := in_bytes (t := 30) (by kernel_rfl) Try.underlying5 (by kernel_rfl) (by kernel_rfl) (v := c0) hx hz
      subst e
      have h6 := h5.cap
      exact ⟨(a, n, c), rfl, l, h5, by unfold reachBytes at hc; dsimp only; omega⟩) hf hz
  have e : Try.prog.bytesOf slE.e = 24 := by kernel_rfl
  rw [e] at h4
  have h5 := h2.cap
  obtain ⟨XS, h6, h7⟩ := lists_of R h3
  exact ⟨a, n, c, XS, h1, ⟨R, h2, h6, h7⟩, by unfold reachBytes at h4; omega⟩
end Go.Proofs.Ythdnbipfdahnlaa
