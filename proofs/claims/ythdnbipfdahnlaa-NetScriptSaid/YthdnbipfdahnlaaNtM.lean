/- Packets that were told stay, whatever the network does later. -/
import Derived.Test.YthdnbipfdahnlaaNtK
namespace Go.Proofs.Ythdnbipfdahnlaa
open Go Go.RowKit
/-- packets that were told, in memory that is none of S -/
def Told (w : World) (S : Nat → Prop) (v : Value) (L : List Pk) : Prop := ∃ (b : Nat) (A : List Fl) (T : Nat → Prop) (OP : List PD), OutP w b v A T OP ∧ A.map (fun f => (f.h, f.d)) = L ∧ ∀ g, (T g ∨ v.ownBlock = some g) → g < w.heap.size ∧ ¬ S g
theorem Told.step {w w' : World} {S S' Q : Nat → Prop} {v : Value} {L : List Pk} (h : Told w S v L) (t : Tch Q w w') (hQ : ∀ g, Q g → S g) (hS : ∀ g, S' g → S g ∨ w.heap.size ≤ g) : Told w' S' v L := by
  obtain ⟨b, A, T, OP, h1, h2, h3⟩ := h
  refine ⟨b, A, T, OP, ⟨t.own h1.own (fun g hg hq => (h3 g (.inr hg)).2 (hQ g hq)), h1.len, fun j q f hq hf => ⟨(h1.rep j q f hq hf).1, t.own (h1.rep j q f hq hf).2 (fun g hg hx => (h3 g (.inl (h1.st q (List.mem_of_getElem? hq) g hg))).2 (hQ g hx))⟩, h1.ap, h1.st⟩, h2, fun g hg => ?_⟩
  have h4 := h3 g hg
  have h5 := t.size
  refine ⟨by omega, fun hs => ?_⟩
  rcases hS g hs with h6 | h6
  · exact h4.2 h6
  · omega
theorem Told.ext {w w' : World} {S : Nat → Prop} {v : Value} {L : List Pk} (h : Told w S v L) (hb : Below w.heap.size w w') : Told w' S v L := h.step (Tch.of_below (S := fun _ => False) hb) (fun _ hg => hg.elim) (fun _ hg => .inl hg)
theorem Told.rdP {w : World} {S : Nat → Prop} {a : Option Addr} {n c : Nat} {L : List Pk} (h : Told w S (.slice a n c) L) : RdP w a n c L := by
  obtain ⟨b, A, T, OP, h1, rfl, h3⟩ := h
  obtain ⟨a', n', c', e, hr⟩ := h1.rdP
  injection e with e1 e2 e3
  subst e1 e2 e3
  exact hr
theorem due_told {w : World} {n B m : Nat} {S : Nat → Prop} {s : NS} (hA : NetA w n B m S s) (hok : s.ok) (y : Int) :
    Calls Try.prog 12 #[.pointer (some ⟨n, 0, none⟩), .int .i64 y] w fun e w' => ∃ a k c S', e = .returned (.tuple #[.slice a k c, .int .i64 (dueS s y).2.1]) ∧ k = (dueS s y).1.length ∧ Told w' S' (.slice a k c) ((dueS s y).1.map fun f => (f.h, f.d)) ∧ NetA w' n B m S' (dueS s y).2.2 ∧ (∀ g, S' g → S g) ∧ Tch (fun g => g = n) w w' := by
  refine (due_at hA hok y).mono ?_
  rintro e w' ⟨a, k, c, OP, T, h1, h2, h3, h4, h5, h6, h7⟩
  refine ⟨a, k, c, _, h1, h2, ⟨w.heap.size, (dueS s y).1, T, OP, h3, rfl, fun g hg => ?_⟩, h6, fun g hg => hg.1, h7⟩
  have hm := hA.mw
  have hz := h7.size
  rcases hg with hg | hg
  · exact ⟨Nat.lt_of_lt_of_le (h4 g hg).2.2 hz, fun hs => hs.2 hg⟩
  · have hl := h3.own.lt g hg
    exact ⟨hl.2, fun hs => by have := hA.hi g hs.1; omega⟩
end Go.Proofs.Ythdnbipfdahnlaa
