/- Lists of texts of bytes; the reader of a stream; frames in bytes (plain). -/
import Derived.Test.YtmimbfikjnfhdaaStB
namespace Go.Proofs.Ytmimbfikjnfhdaa
open Go.RowKit
theorem own_addr {α : Type} {E : Enc α} {w : World} {base : Nat} {a : Option Addr} {n c : Nat} {l : List α} (h : Own E w base (.slice a n c) l) : ∀ b o s, a = some ⟨b, o, s⟩ → base ≤ b ∧ b < w.heap.size := by
  rintro b o s rfl
  exact h.lt b rfl
/-- slices as elements -/
def slE : Enc (Option Addr × Nat × Nat) := ⟨41, 1, fun p => [.slice p.1 p.2.1 p.2.2], (none, 0, 0), fun _ => rfl, fun x v hv => by simp at hv; subst hv; rfl, by decide⟩
/-- a slice of slices reads as these -/
def RdL (w : World) (a : Option Addr) (n c : Nat) (XS : List (List UInt8)) : Prop :=
  ∃ ps : List (Option Addr × Nat × Nat), Rd slE w a n c ps ∧ ps.length = XS.length ∧ ∀ (j : Nat) (p : Option Addr × Nat × Nat) (X : List UInt8), ps[j]? = some p → XS[j]? = some X → Rd byteE w p.1 p.2.1 p.2.2 X
theorem RdL.ext {w w' : World} {a : Option Addr} {n c : Nat} {XS : List (List UInt8)} (h : RdL w a n c XS) (hb : Below w.heap.size w w') : RdL w' a n c XS := by
  obtain ⟨ps, h1, h2, h3⟩ := h
  exact ⟨ps, h1.ext hb, h2, fun j p X hp hX => (h3 j p X hp hX).ext hb⟩
theorem RdL.len {w : World} {a : Option Addr} {n c : Nat} {XS : List (List UInt8)} (h : RdL w a n c XS) : XS.length = n := by
  obtain ⟨ps, h1, h2, _⟩ := h
  rw [← h2, h1.len]
theorem RdL.at_ {w : World} {a : Option Addr} {n c : Nat} {XS : List (List UInt8)} (h : RdL w a n c XS) (h0 : 0 < n) : ∃ b o, a = some ⟨b, o, none⟩ ∧ ∀ j (hj : j < XS.length), ∃ a' n' c', w.cell? ⟨b, o + j, none⟩ = some (.slice a' n' c') ∧ Rd byteE w a' n' c' XS[j] := by
  obtain ⟨ps, h1, h2, h3⟩ := h
  obtain ⟨b, o, hab, _, hc⟩ := h1.addr h0
  refine ⟨b, o, hab, fun j hj => ?_⟩
  have hj' : j < ps.length := by omega
  have h := hc j hj' 0 (by decide)
  have e : o + (j * slE.k + 0) = o + j := by show o + (j * 1 + 0) = o + j; omega
  rw [e] at h
  exact ⟨_, _, _, h, h3 j ps[j] XS[j] (List.getElem?_eq_getElem hj') (List.getElem?_eq_getElem hj)⟩
/-- a list of texts of bytes of the call's own -/
def OwnL (w : World) (base : Nat) (v : Value) (XS : List (List UInt8)) : Prop :=
  ∃ ps : List (Option Addr × Nat × Nat), Own slE w base v ps ∧ ps.length = XS.length ∧ ∀ (j : Nat) (p : Option Addr × Nat × Nat) (X : List UInt8), ps[j]? = some p → XS[j]? = some X →
    Rd byteE w p.1 p.2.1 p.2.2 X ∧ ∀ b o s, p.1 = some ⟨b, o, s⟩ → base ≤ b ∧ b < w.heap.size ∧ v.ownBlock ≠ some b
theorem OwnL.nil (w : World) (base : Nat) : OwnL w base (.slice none 0 0) [] := ⟨[], Own.nil _ _ _, rfl, fun j p X hp => by simp at hp⟩
theorem OwnL.keep {w w' : World} {base : Nat} {v : Value} {XS : List (List UInt8)} (h : OwnL w base v XS) (hk : ∀ b, base ≤ b → b < w.heap.size → w'.heap[b]? = w.heap[b]?) (hs : w.heap.size ≤ w'.heap.size) : OwnL w' base v XS := by
  obtain ⟨ps, h1, h2, h3⟩ := h
  refine ⟨ps, h1.keep fun k hk' => hk k (h1.lt k hk').1 (h1.lt k hk').2, h2, fun j p X hp hX => ?_⟩
  obtain ⟨r, ra⟩ := h3 j p X hp hX
  exact ⟨r.keep fun b o s e hb => hk b (ra b o s e).1 hb, fun b o s e => ⟨(ra b o s e).1, Nat.lt_of_lt_of_le (ra b o s e).2.1 hs, (ra b o s e).2.2⟩⟩
theorem OwnL.mono {w : World} {base base' : Nat} {v : Value} {XS : List (List UInt8)} (h : OwnL w base v XS) (hb : base' ≤ base) : OwnL w base' v XS := by
  obtain ⟨ps, h1, h2, h3⟩ := h
  exact ⟨ps, h1.mono hb, h2, fun j p X hp hX => ⟨(h3 j p X hp hX).1, fun b o s e => ⟨Nat.le_trans hb ((h3 j p X hp hX).2 b o s e).1, ((h3 j p X hp hX).2 b o s e).2⟩⟩⟩
theorem OwnL.ext {w w' : World} {base : Nat} {v : Value} {XS : List (List UInt8)} (h : OwnL w base v XS) (hb : Below w.heap.size w w') : OwnL w' base v XS := h.keep (fun b _ hlt => hb.block b hlt) hb.size
theorem OwnL.shape {w : World} {base : Nat} {v : Value} {XS : List (List UInt8)} (h : OwnL w base v XS) : ∃ a c, v = .slice a XS.length c := by
  obtain ⟨ps, h1, h2, _⟩ := h
  obtain ⟨a, c, e⟩ := h1.shape
  exact ⟨a, c, by rw [← h2]; exact e⟩
theorem OwnL.rdL {w : World} {base : Nat} {a : Option Addr} {n c : Nat} {XS : List (List UInt8)} (h : OwnL w base (.slice a n c) XS) : RdL w a n c XS := by
  obtain ⟨ps, h1, h2, h3⟩ := h
  obtain ⟨a', c', e, r⟩ := h1.rd
  cases e
  exact ⟨ps, r, h2, fun j p X hp hX => (h3 j p X hp hX).1⟩
theorem OwnL.app {w w' : World} {base : Nat} {v v' : Value} {XS YS : List (List UInt8)} {ps qs : List (Option Addr × Nat × Nat)} (h2 : ps.length = XS.length) (q2 : qs.length = YS.length)
    (h3 : ∀ (j : Nat) (p : Option Addr × Nat × Nat) (X : List UInt8), ps[j]? = some p → XS[j]? = some X → Rd byteE w p.1 p.2.1 p.2.2 X ∧ ∀ b o s, p.1 = some ⟨b, o, s⟩ → base ≤ b ∧ b < w.heap.size ∧ v.ownBlock ≠ some b)
    (q3 : ∀ (j : Nat) (p : Option Addr × Nat × Nat) (X : List UInt8), qs[j]? = some p → YS[j]? = some X → Rd byteE w p.1 p.2.1 p.2.2 X ∧ ∀ b o s, p.1 = some ⟨b, o, s⟩ → base ≤ b ∧ b < w.heap.size ∧ v.ownBlock ≠ some b)
    (ho : Own slE w' base v' (ps ++ qs)) (hg : w.grownBy w' v.ownBlock) (hv : v'.ownBlock = v.ownBlock ∨ v'.ownBlock = some w.heap.size) : OwnL w' base v' (XS ++ YS) := by
  have key : ∀ (p : Option Addr × Nat × Nat) (X : List UInt8), (Rd byteE w p.1 p.2.1 p.2.2 X ∧ ∀ b o s, p.1 = some ⟨b, o, s⟩ → base ≤ b ∧ b < w.heap.size ∧ v.ownBlock ≠ some b) →
      Rd byteE w' p.1 p.2.1 p.2.2 X ∧ ∀ b o s, p.1 = some ⟨b, o, s⟩ → base ≤ b ∧ b < w'.heap.size ∧ v'.ownBlock ≠ some b := by
    rintro p X ⟨r, ra⟩
    refine ⟨r.keep fun b o s e hb => hg.block b hb (fun e' => (ra b o s e).2.2 e'.symm), fun b o s e => ⟨(ra b o s e).1, Nat.lt_of_lt_of_le (ra b o s e).2.1 hg.size, ?_⟩⟩
    rcases hv with hv | hv
    · rw [hv]; exact (ra b o s e).2.2
    · rw [hv]; intro e'; have := (ra b o s e).2.1; simp at e'; omega
  refine ⟨ps ++ qs, ho, by simp [h2, q2], fun j p X hp hX => ?_⟩
  rw [List.getElem?_append] at hp hX
  by_cases hj : j < ps.length
  · rw [if_pos hj] at hp
    rw [if_pos (by omega)] at hX
    exact key p X (h3 j p X hp hX)
  · rw [if_neg hj] at hp
    rw [if_neg (by omega), ← h2] at hX
    exact key p X (q3 _ p X hp hX)
/-- frames in bytes: the messages, what is left, and whether a length is too small -/
def frames (l : List UInt8) : List (List UInt8) × List UInt8 × Bool :=
  if h : 2 ≤ l.length then
    if numL (l.take 2) < 12 then ([], l, true)
    else if l.length < 2 + numL (l.take 2) then ([], l, false)
    else ((l.drop 2).take (numL (l.take 2)) :: (frames (l.drop (2 + numL (l.take 2)))).1, (frames (l.drop (2 + numL (l.take 2)))).2)
  else ([], l, false)
termination_by l.length
decreasing_by all_goals simp; omega
theorem frames_few {l : List UInt8} (h : l.length < 2) : frames l = ([], l, false) := by rw [frames, dif_neg (by omega)]
theorem frames_bad {l : List UInt8} (h : 2 ≤ l.length) (h12 : numL (l.take 2) < 12) : frames l = ([], l, true) := by rw [frames, dif_pos h, if_pos h12]
theorem frames_wait {l : List UInt8} (h : 2 ≤ l.length) (h12 : 12 ≤ numL (l.take 2)) (hw : l.length < 2 + numL (l.take 2)) : frames l = ([], l, false) := by rw [frames, dif_pos h, if_neg (by omega), if_pos hw]
theorem frames_one {l : List UInt8} (h : 2 ≤ l.length) (h12 : 12 ≤ numL (l.take 2)) (hw : 2 + numL (l.take 2) ≤ l.length) :
    frames l = ((l.drop 2).take (numL (l.take 2)) :: (frames (l.drop (2 + numL (l.take 2)))).1, (frames (l.drop (2 + numL (l.take 2)))).2) := by rw [frames, dif_pos h, if_neg (by omega), if_neg (by omega)]
/-- the reader at g: what waits, and whether it is broken -/
def StR (w : World) (g : Nat) (buf : List UInt8) (br : Bool) : Prop :=
  ∃ a c, Blk w g 63 (0, 0) [.slice a buf.length c, .bool br, .bool true] ∧ Rd byteE w a buf.length c buf ∧ ∀ b o s, a = some ⟨b, o, s⟩ → b ≠ g
theorem StR.lt {w : World} {g : Nat} {buf : List UInt8} {br : Bool} (h : StR w g buf br) : g < w.heap.size := by obtain ⟨_, _, h, _⟩ := h; exact h.lt
theorem StR.ext {w w' : World} {g : Nat} {buf : List UInt8} {br : Bool} (h : StR w g buf br) (hb : Below w.heap.size w w') : StR w' g buf br := by
  obtain ⟨a, c, h1, h2, h3⟩ := h
  exact ⟨a, c, h1.below hb h1.lt, h2.ext hb, h3⟩
/-- the same, what waits lying from lo on -/
def StRL (w : World) (g : Nat) (buf : List UInt8) (br : Bool) (lo : Nat) : Prop :=
  ∃ a c, Blk w g 63 (0, 0) [.slice a buf.length c, .bool br, .bool true] ∧ Rd byteE w a buf.length c buf ∧ ∀ b o s, a = some ⟨b, o, s⟩ → b ≠ g ∧ lo ≤ b
theorem StRL.toR {w : World} {g lo : Nat} {buf : List UInt8} {br : Bool} (h : StRL w g buf br lo) : StR w g buf br := by
  obtain ⟨a, c, h1, h2, h3⟩ := h
  exact ⟨a, c, h1, h2, fun b o s e => (h3 b o s e).1⟩
theorem StRL.mono {w : World} {g lo lo' : Nat} {buf : List UInt8} {br : Bool} (h : StRL w g buf br lo) (hl : lo' ≤ lo) : StRL w g buf br lo' := by
  obtain ⟨a, c, h1, h2, h3⟩ := h
  exact ⟨a, c, h1, h2, fun b o s e => ⟨(h3 b o s e).1, Nat.le_trans hl (h3 b o s e).2⟩⟩
theorem StRL.grown {w w' : World} {g lo : Nat} {row : Option Nat} {buf : List UInt8} {br : Bool} (h : StRL w g buf br lo) (hg : w.grownBy w' row) (hr : ∀ k, row = some k → k ≠ g ∧ k < lo) : StRL w' g buf br lo := by
  obtain ⟨a, c, h1, h2, h3⟩ := h
  refine ⟨a, c, (hg.block g h1.lt (fun e => (hr g e.symm).1 rfl)).trans h1, h2.keep fun b o s e hb => hg.block b hb (fun e' => ?_), h3⟩
  have := (hr b e'.symm).2
  have := (h3 b o s e).2
  omega
theorem new_any (w : World) : Calls Try.prog 22 #[] w fun e w' => e = .returned (.pointer (some ⟨w.heap.size, 0, none⟩)) ∧ StR w' w.heap.size [] false ∧ Below w.heap.size w w' := by
  go_enter Try.func22, Try.ntmps22
  go_wp2_with fail
  go_ret
  exact ⟨rfl, ⟨none, 0, Blk.new w 63 (0, 0) #[.slice none 0 0, .bool false, .bool true], Rd.nil _ _, fun b o s e => by cases e⟩, (Below.refl _ _).alloc (Nat.le_refl _) _⟩
theorem waiting_any {w : World} {g : Nat} {buf : List UInt8} {br : Bool} (h : StR w g buf br) : Calls Try.prog 27 #[.pointer (some ⟨g, 0, none⟩)] w fun e w' => e = .returned (.int .i64 buf.length) ∧ w = w' := by
  obtain ⟨a, c, h1, h2, h3⟩ := h
  have c0 : w.cell? ⟨g, 0, none⟩ = some (.slice a buf.length c) := by rw [h1.cell]; rfl
  clear h1 h2 h3
  go_enter Try.func27, Try.ntmps27
  go_wp2_with fail
  go_ret
  exact ⟨rfl, rfl⟩
theorem broken_any {w : World} {g : Nat} {buf : List UInt8} {br : Bool} (h : StR w g buf br) : Calls Try.prog 28 #[.pointer (some ⟨g, 0, none⟩)] w fun e w' => e = .returned (.bool br) ∧ w = w' := by
  obtain ⟨a, c, h1, h2, h3⟩ := h
  have c0 : w.cell? ⟨g, 1, none⟩ = some (.bool br) := by rw [h1.cell]; rfl
  clear h1 h2 h3
  go_enter Try.func28, Try.ntmps28
  go_wp2_with fail
  go_ret
  exact ⟨rfl, rfl⟩
end Go.Proofs.Ytmimbfikjnfhdaa
