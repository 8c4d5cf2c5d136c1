/- Both pickers side by side, and a block beside them. -/
import Derived.Test.YtjkeijjfjbcaiaaPkT
namespace Go.Proofs.Ytjkeijjfjbcaiaa
open Go.RowKit
/-- the program's picker at p knows L, the document's at q knows M; both are new since u; block x holds C -/
def PR (u w : World) (p q : Nat) (room : Int) (L M : List Kn) (x : Nat) (t : TypeId) (C : List Value) : Prop :=
  ∃ v a c, Pk w p room v L ∧ Rk w q room a c M ∧ p ≠ q ∧ v.ownBlock ≠ some q ∧ (∀ b o s, a = some ⟨b, o, s⟩ → b ≠ p ∧ v.ownBlock ≠ some b ∧ b < w.heap.size) ∧
    Blk w x t (0, 0) C ∧ x ≠ p ∧ x ≠ q ∧ v.ownBlock ≠ some x ∧ Below u.heap.size u w ∧ u.heap.size ≤ p ∧ u.heap.size ≤ q ∧ (∀ b, v.ownBlock = some b → u.heap.size ≤ b) ∧ ∀ b o s, a = some ⟨b, o, s⟩ → b ≠ x
theorem hrd_pos {room : Int} {L : List Kn} {k : Kn} (h : 1 ≤ room) : 0 < (hrd room L k).length := by
  unfold hrd
  split
  · rename_i hr
    rw [List.length_drop]
    omega
  · simp
section
variable {u w : World} {p q : Nat} {room : Int} {L M : List Kn} {x : Nat} {t : TypeId} {C : List Value}
theorem PR.below (h : PR u w p q room L M x t C) : Below u.heap.size u w := by obtain ⟨_, _, _, _, _, _, _, _, _, _, _, _, h, _⟩ := h; exact h
theorem PR.blk (h : PR u w p q room L M x t C) : Blk w x t (0, 0) C := by obtain ⟨_, _, _, _, _, _, _, _, h, _⟩ := h; exact h
theorem PR.pcell (h : PR u w p q room L M x t C) : w.cell? ⟨p, 0, none⟩ = some (.int .i64 room) := by obtain ⟨v, a, c, h, _⟩ := h; exact h.blk.cell 0
theorem PR.ext {w' : World} (h : PR u w p q room L M x t C) (hb : Below w.heap.size w w') : PR u w' p q room L M x t C := by
  obtain ⟨v, a, c, h1, h2, h3, h4, h5, h6, h7, h8, h9, h10, h11, h12, h13, h14⟩ := h
  exact ⟨v, a, c, h1.ext hb, h2.ext hb, h3, h4, fun b o s e => ⟨(h5 b o s e).1, (h5 b o s e).2.1, Nat.lt_of_lt_of_le (h5 b o s e).2.2 hb.size⟩, h6.below hb h6.lt, h7, h8, h9, h10.trans (hb.mono h10.size), h11, h12, h13, h14⟩
theorem PR.same {w' : World} (h : PR u w p q room L M x t C) (e1 : w'.heap = w.heap) (e2 : w'.os = w.os) (e3 : w'.tape = w.tape) (e4 : w'.output = w.output) : PR u w' p q room L M x t C :=
  h.ext ⟨e2, e3, e4, by rw [e1]; exact Nat.le_refl _, fun b _ => by rw [e1]⟩
theorem PR.castP {L' : List Kn} (h : PR u w p q room L M x t C) (e : L = L') : PR u w p q room L' M x t C := e ▸ h
theorem PR.castR {M' : List Kn} (h : PR u w p q room L M x t C) (e : M = M') : PR u w p q room L M' x t C := e ▸ h
/-- the program's call -/
theorem PR.prog {P : Program} {f : FuncId} {args : Array Value} {r : Value} {L' : List Kn} (h : PR u w p q room L M x t C)
    (hc : ∀ v, Pk w p room v L → Calls P f args w fun e w' => e = .returned r ∧ ∃ v', Pk w' p room v' L' ∧ Hd w w' p v v') :
    Calls P f args w fun e w' => e = .returned r ∧ PR u w' p q room L' M x t C := by
  obtain ⟨v, a, c, h1, h2, h3, h4, h5, h6, h7, h8, h9, h10, h11, h12, h13, h14⟩ := h
  refine (hc v h1).mono ?_
  rintro e w' ⟨rfl, v', hP, hH⟩
  have hq := h2.blk.lt
  have hx := h6.lt
  refine ⟨rfl, v', a, c, hP, h2.tch hH.tch ?_ ?_, h3, ?_, ?_, hH.tch.blk h6 ?_, h7, h8, ?_, hH.below h10 h11 h13, h11, h12, hH.keeps h10.size h13, h14⟩
  · rintro (e | e)
    · exact h3 e.symm
    · exact h4 e
  · intro b o s e
    rintro (e2 | e2)
    · exact (h5 b o s e).1 e2
    · exact (h5 b o s e).2.1 e2
  · rcases hH.own with e | ⟨b, hb, e⟩
    · rw [e]; exact h4
    · rw [e]; intro e2; cases e2; omega
  · intro b o s e
    refine ⟨(h5 b o s e).1, ?_, Nat.lt_of_lt_of_le (h5 b o s e).2.2 hH.tch.size⟩
    rcases hH.own with e2 | ⟨b', hb', e2⟩
    · rw [e2]; exact (h5 b o s e).2.1
    · rw [e2]; intro e3; cases e3; have := (h5 _ o s e).2.2; omega
  · rintro (e | e)
    · exact h7 e
    · exact h9 e
  · rcases hH.own with e | ⟨b, hb, e⟩
    · rw [e]; exact h9
    · rw [e]; intro e2; cases e2; omega
/-- the document's call -/
theorem PR.ref {P : Program} {f : FuncId} {args : Array Value} {r : Value} {M' : List Kn} (h : PR u w p q room L M x t C) (hpos : 0 < M'.length)
    (hc : ∀ a c, Rk w q room a c M → Calls P f args w fun e w' => e = .returned r ∧ Rn w w' q room M') :
    Calls P f args w fun e w' => e = .returned r ∧ PR u w' p q room L M' x t C := by
  obtain ⟨v, a, c, h1, h2, h3, h4, h5, h6, h7, h8, h9, h10, h11, h12, h13, h14⟩ := h
  refine (hc a c h2).mono ?_
  rintro e w' ⟨rfl, a', c', hR, hT, hf⟩
  have hp := h1.blk.lt
  refine ⟨rfl, v, a', c', h1.tch hT h3 ?_, hR, h3, h4, ?_, hT.blk h6 h8, h7, h8, h9, ?_, h11, h12, h13, fun b o s e => by have := hf b o s e; have := h6.lt; omega⟩
  · rintro b e rfl; exact h4 e
  · intro b o s e
    have hb := hf b o s e
    refine ⟨by omega, ?_, ?_⟩
    · intro e2
      have := (h1.own.lt b e2).2
      omega
    · obtain ⟨b', o', e', hlt, _⟩ := hR.rd.addr hpos
      rw [e] at e'
      cases e'
      exact hlt
  · exact h10.trans (hT.below h10.size (fun b _ e => by rw [e]; exact h12))
/-- a call that only makes new blocks -/
theorem PR.look {P : Program} {f : FuncId} {args : Array Value} {R : Ending → World → Prop} (h : PR u w p q room L M x t C) (hc : ∀ v a c, Pk w p room v L → Rk w q room a c M → Calls P f args w fun e w' => R e w' ∧ Below w.heap.size w w') :
    Calls P f args w fun e w' => R e w' ∧ Below w.heap.size w w' ∧ PR u w' p q room L M x t C := by
  obtain ⟨v, a, c, h1, h2, _⟩ := id h
  refine (hc v a c h1 h2).mono ?_
  rintro e w' ⟨hr, hb⟩
  exact ⟨hr, hb, h.ext hb⟩
end
theorem kb_good {L : List Kn} (hL : ∀ k ∈ L, KB k) (a : Int) {t now : Int} (ht : 0 ≤ t) : KB (knGood L a t now) := by
  have e1 := mn_le2 t 10000
  have e2 : 0 ≤ mn t 10000 := mn_ge ht (by decide)
  unfold knGood
  cases h : ofK L a with
  | none => exact ⟨e2, e1, Int.le_refl 0, (by decide : (0 : Int) ≤ 10)⟩
  | some k =>
    obtain ⟨h1, h2, -, -⟩ := hL k (ofK_mem h).1
    exact ⟨by show 0 ≤ (7 * k.t + mn t 10000) / 8; omega, by show (7 * k.t + mn t 10000) / 8 ≤ 10000; omega, Int.le_refl 0, (by decide : (0 : Int) ≤ 10)⟩
theorem kb_bad {L : List Kn} (hL : ∀ k ∈ L, KB k) (a now : Int) : KB (knBad L a now) := by
  obtain ⟨h1, h2, h3, h4⟩ := ofD_kb hL a
  exact ⟨mn_ge (by omega) (by decide), mn_le2 _ _, mn_ge (by omega) (by decide), mn_le2 _ _⟩
theorem kb_lame {L : List Kn} (hL : ∀ k ∈ L, KB k) (a now : Int) : KB (knLame L a now) := ofD_kb hL a
theorem kb_hrd {room : Int} {L : List Kn} {k : Kn} (hL : ∀ k ∈ L, KB k) (hk : KB k) : ∀ x ∈ hrd room L k, KB x := by
  intro x hx
  rcases hrd_mem hx with h | rfl
  · exact hL x h
  · exact hk
end Go.Proofs.Ytjkeijjfjbcaiaa
