/- The scanner: what word does to it. -/
import Derived.Test.YtojdjhicjhhblaaDoorScH
namespace Go.Proofs.YtojdjhicjhhblaaDoor
open Go Go.RowKit
/-- a step's outcome: the scanner goes on, or bears a fault -/
def Oc (B g : Nat) (s : List UInt8) (i : Nat) (r : Except (Int × Int) Sc) (e : Ending) (w' : World) : Prop :=
  (∃ c' q', r = .ok c' ∧ e = .returned (.bool true) ∧ SM B g s i c' q' w') ∨ (∃ x, r = .error x ∧ e = .returned (.bool false) ∧ SF g x w')
theorem nat_beq2 (n : Nat) : ((n : Int) == 2) = (n == 2) := by
  rw [Bool.eq_iff_iff]
  simp only [beq_iff_eq]
  omega
theorem word_sm {B g : Nat} {s : List UInt8} {i : Nat} {c : Sc} {q : SV} {w : World} (h : SM B g s i c q w) (hst : c.st = 1 ∨ c.st = 2) (hi2 : i ≤ s.length) (h64 : c.words.length ≤ 64) :
    Calls Tryd.prog 34 #[.pointer (some ⟨g, 0, none⟩), .int .i64 i] w fun e w' => Below B w w' ∧ Oc B g s i c.word e w' := by
  obtain ⟨line, st, deep, cur, begun, eline, blank, words, fresh, out⟩ := c
  obtain ⟨frm, wa, wn, wc, oa, on, oc, eds, m⟩ := q
  obtain ⟨hB, blk, hw, wl, ho, ol, ents, lo, hi, hcur⟩ := h
  dsimp only at *
  unfold scC at blk
  dsimp only at blk
  have hBw : B ≤ w.heap.size := Nat.le_trans lo hi
  obtain ⟨hf, rfl⟩ := hcur hst
  have keepE : ∀ {V0 V w' : World} {C0 : List Value}, Own trE V0 m (.slice wa wn wc) words → V0.grownBy V (Value.slice wa wn wc).ownBlock → V.grownBy w' (some g) → Blk V0 g 62 (0, 0) C0 → ∀ k C, k < m → Blk V0 k 44 (0, 0) C → w'.heap[k]? = V0.heap[k]? := by
    intro V0 V w' C0 hw hg1 hg2 hb k C hk hC
    have e1 : V.heap[k]? = V0.heap[k]? := hg1.block k hC.lt (fun e => by have := (hw.lt k e.symm).1; omega)
    have bV := blk_own hb hw (by decide) hg1
    rw [keep_g bV hg2 (t := 44) (by decide) (C := C) (e1.trans hC), e1]
  by_cases hfull : words.length = 64
  · have wn64 : wn = 64 := by omega
    subst wn64
    refine (word_full blk i).mono ?_
    rintro e w' ⟨rfl, hg, hB2⟩
    refine ⟨(Below.refl B w).grown hg hBw (fun k hk => by cases hk; exact hB), .inr ⟨(3, begun), ?_, rfl, ⟨_, _, _, _, _, _, _, _, _, _, _, hB2⟩⟩⟩
    show (if words.length = 64 then _ else _) = _
    rw [if_pos hfull]
  have hwd : ∀ c', c' = Sc.mk line st deep ((s.take i).drop frm) begun (if words.isEmpty then begun else eline) blank (words ++ [((s.take i).drop frm, st == 2)]) fresh out → Sc.word ⟨line, st, deep, (s.take i).drop frm, begun, eline, blank, words, fresh, out⟩ = .ok c' := by
    rintro c' rfl
    show (if words.length = 64 then _ else _) = _
    rw [if_neg hfull]
  cases words with
  | nil =>
    have wn0 : wn = 0 := wl.symm
    subst wn0
    refine (word_first blk hw hi hf hi2).mono ?_
    rintro e w' ⟨rfl, a, c, V, V0, C0, hg0, bk0, hg1, hg2, hB2, hO2⟩
    rw [nat_beq2] at hO2
    have b0 : Below B w V0 := (Below.refl B w).grown hg0 hBw (fun k hk => by cases hk; exact hB)
    have w0 := own_store hw blk (by decide) hg0
    have b1 : Below B w V := own_below b0 hg1 w0 (Nat.le_trans hBw hg0.size) lo
    have b2 : Below B w w' := b1.grown hg2 (Nat.le_trans hBw b1.size) (fun k hk => by cases hk; exact hB)
    have o0 := own_store ho blk (by decide) hg0
    have o1 := own_grown o0 w0 (by decide) hg1
    have o2 := own_store o1 (blk_own bk0 w0 (by decide) hg1) (by decide) hg2
    refine ⟨b2, .inl ⟨_, ⟨frm, a, 1, c, oa, on, oc, eds, m⟩, hwd _ rfl, rfl, hB, hB2, hO2, rfl, o2, ol, ?_, lo, Nat.le_trans hi b2.size, fun _ => ⟨hf, rfl⟩⟩⟩
    refine ents.keep fun k C hk hC => ?_
    have e0 := keep_g blk hg0 (t := 44) (by decide) hC
    rw [keepE w0 hg1 hg2 bk0 k C hk (e0.trans hC), e0]
  | cons x r =>
    have hw0 : 0 < wn := by rw [← wl]; simp
    refine (word_some blk hw wl hi (by omega) hw0 hf hi2).mono ?_
    rintro e w' ⟨rfl, a, c, V, hg1, hg2, hB2, hO2⟩
    rw [nat_beq2] at hO2
    have b1 : Below B w V := own_below (Below.refl B w) hg1 hw hBw lo
    have b2 : Below B w w' := b1.grown hg2 (Nat.le_trans hBw b1.size) (fun k hk => by cases hk; exact hB)
    have o1 := own_grown ho hw (by decide) hg1
    have o2 := own_store o1 (blk_own blk hw (by decide) hg1) (by decide) hg2
    refine ⟨b2, .inl ⟨_, ⟨frm, a, wn + 1, c, oa, on, oc, eds, m⟩, hwd _ rfl, rfl, hB, hB2, hO2, by show ((x :: r) ++ [_]).length = _; rw [List.length_append, wl]; rfl, o2, ol, ?_, lo, Nat.le_trans hi b2.size, fun _ => ⟨hf, rfl⟩⟩⟩
    exact ents.keep fun k C hk hC => keepE hw hg1 hg2 blk k C hk hC
end Go.Proofs.YtojdjhicjhhblaaDoor
