/- How a text is read, one byte further; bounds. -/
import Derived.Test.YtojdjhicjhhblaaDoorScL
namespace Go.Proofs.YtojdjhicjhhblaaDoor
open Go Go.RowKit
structure Bnd (i : Nat) (c : Sc) : Prop where
  st : c.st ≤ 4
  words : c.words.length ≤ 64
  deep : c.deep ≤ i
  lo : 0 ≤ c.line
  hi : c.line ≤ i + 1
  out : c.out.length ≤ i
theorem bnd0 : Bnd 0 sc0 := ⟨by decide, by decide, by decide, by decide, by decide, by decide⟩
theorem see_line (b : UInt8) (c : Sc) : (c.see b).line = c.line ∧ (c.see b).st = c.st ∧ (c.see b).deep = c.deep ∧ (c.see b).cur = c.cur ∧ (c.see b).words = c.words ∧ (c.see b).out = c.out ∧ (c.see b).fresh = false ∧ (c.see b).begun = c.begun ∧ (c.see b).eline = c.eline := by
  unfold Sc.see
  cases h : c.fresh <;> simp [h]
theorem see_not {b : UInt8} {c : Sc} (h : c.fresh = false) : c.see b = c := by unfold Sc.see; simp [h]
theorem see_yes {b : UInt8} {c : Sc} (h : c.fresh = true) : c.see b = { c with blank := blankB b, fresh := false } := by unfold Sc.see; simp [h]
theorem Bnd.see {i : Nat} {c : Sc} (h : Bnd i c) (b : UInt8) : Bnd i (c.see b) := by
  obtain ⟨h1, h2, h3, h4, h5, h6, _⟩ := see_line b c
  exact ⟨by rw [h2]; exact h.st, by rw [h5]; exact h.words, by rw [h3]; exact h.deep, by rw [h1]; exact h.lo, by rw [h1]; exact h.hi, by rw [h6]; exact h.out⟩
theorem mark_bnd {i : Nat} {b : UInt8} {c c2 : Sc} (h : Bnd i c) (hm : c.mark b = .ok c2) : Bnd (i + 1) c2 ∧ (c2.st = 0 ∨ c2.st = 4) := by
  obtain ⟨h1, h2, h3, h4, h5, h6⟩ := h
  by_cases b10 : b = 10
  · subst b10
    by_cases hd : c.deep = 0
    · rw [mark_line0 c hd] at hm
      cases hm
      refine ⟨⟨by simp [Sc.entry], by simp [Sc.entry], by simp [Sc.entry, hd], by simp; omega, by simp; omega, ?_⟩, .inl (by simp [Sc.entry])⟩
      simp only [Sc.entry]
      split
      · omega
      · simp; omega
    · rw [mark_line c hd] at hm
      cases hm
      exact ⟨⟨by simp, h2, by simp; omega, by simp; omega, by simp; omega, by simp; omega⟩, .inl rfl⟩
  · have key : ∀ c1 : Sc, c1.words = c.words → c1.line = c.line → c1.deep ≤ c.deep + 1 → c1.out = c.out → (c1.st = 0 ∨ c1.st = 4) → Bnd (i + 1) c1 ∧ (c1.st = 0 ∨ c1.st = 4) := by
      intro c1 w1 w2 w3 w4 w5
      exact ⟨⟨by omega, by rw [w1]; exact h2, by omega, by omega, by omega, by rw [w4]; omega⟩, w5⟩
    have hb : (b != 10) = true := by rw [bne_iff_ne]; exact b10
    have hb2 : (b == 10) = false := by rw [beq_eq_false_iff_ne]; exact b10
    unfold Sc.mark at hm
    simp only [hb, hb2, Bool.and_true, Bool.false_eq_true, if_false] at hm
    by_cases s4 : c.st = 4
    · have e4 : (c.st == 4) = true := by rw [beq_iff_eq]; exact s4
      simp only [e4, if_true] at hm
      repeat' split at hm
      all_goals first | (cases hm; refine key _ rfl rfl ?_ rfl ?_ <;> first | omega | (simp; done) | (simp; omega)) | cases hm
    · have e4 : (c.st == 4) = false := by rw [beq_eq_false_iff_ne]; exact s4
      simp only [e4, Bool.false_eq_true, if_false] at hm
      repeat' split at hm
      all_goals first | (cases hm; refine key _ rfl rfl ?_ rfl ?_ <;> first | omega | (simp; done) | (simp; omega)) | cases hm
theorem mark_err {b : UInt8} {c : Sc} {x : Int × Int} (hm : c.mark b = .error x) : x.1 = 230 := by
  by_cases s4 : c.st = 4
  · by_cases hb2 : b = 10
    · subst hb2
      by_cases hd : c.deep = 0
      · rw [mark_line0 c hd] at hm; cases hm
      · rw [mark_line c hd] at hm; cases hm
    · have e4 : (c.st == 4) = true := by rw [beq_iff_eq]; exact s4
      have hb : (b != 10) = true := by rw [bne_iff_ne]; exact hb2
      have hb3 : (b == 10) = false := by rw [beq_eq_false_iff_ne]; exact hb2
      unfold Sc.mark at hm
      simp only [e4, hb, hb3, Bool.and_true, if_true, Bool.false_eq_true, if_false] at hm
      repeat' split at hm
      all_goals first | (cases hm; rfl) | cases hm
  · have e4 : (c.st == 4) = false := by rw [beq_eq_false_iff_ne]; exact s4
    unfold Sc.mark at hm
    simp only [e4, Bool.false_and, Bool.false_eq_true, if_false] at hm
    repeat' split at hm
    all_goals first | (cases hm; rfl) | cases hm
theorem word_bnd {i : Nat} {c c2 : Sc} (h : Bnd i c) (hw : c.word = .ok c2) : Bnd i c2 := by
  obtain ⟨t1, t2, t3, t4, t5, t6, t7⟩ := word_ok hw
  obtain ⟨h1, h2, h3, h4, h5, h6⟩ := h
  exact ⟨by omega, by omega, by omega, by omega, by omega, by rw [← t4]; exact h6⟩
theorem ends_bnd {i : Nat} {b : UInt8} {c c2 : Sc} (h : Bnd i c) (hm : c.ends b = .ok c2) : Bnd (i + 1) c2 ∧ (c2.st = 0 ∨ c2.st = 4) := by
  by_cases h1 : c.st = 1
  · cases hw : c.word with
    | error x => rw [ends_full b c x h1 hw] at hm; cases hm
    | ok c3 => rw [ends_word b c c3 h1 hw] at hm; exact mark_bnd (word_bnd h hw) hm
  · rw [ends_mark b c h1] at hm; exact mark_bnd h hm
theorem ends_err {b : UInt8} {c : Sc} {x : Int × Int} (hm : c.ends b = .error x) : x.1 ≠ 0 := by
  by_cases h1 : c.st = 1
  · cases hw : c.word with
    | error y => rw [ends_full b c y h1 hw] at hm; cases hm; rw [word_err hw]; decide
    | ok c3 => rw [ends_word b c c3 h1 hw] at hm; rw [mark_err hm]; decide
  · rw [ends_mark b c h1] at hm; rw [mark_err hm]; decide
/-- one byte further -/
theorem prun_rem {tot : Int} {b : UInt8} {r : List UInt8} {c : Sc} (h : (c.see b).st = 4) (hb : ¬ b = 10) : prun tot (b :: r) c = prun tot r (c.see b) := by
  have e : (b == 10) = false := by rw [beq_eq_false_iff_ne]; exact hb
  cases r <;> simp [prun, h, e]
theorem prun_reml {tot : Int} {r : List UInt8} {c c2 : Sc} (h : (c.see 10).st = 4) (he : (c.see 10).ends 10 = .ok c2) : prun tot (10 :: r) c = prun tot r c2 := by
  cases r <;> simp [prun, h, he]
theorem prun_remx {tot : Int} {r : List UInt8} {c : Sc} {x : Int × Int} (h : (c.see 10).st = 4) (he : (c.see 10).ends 10 = .error x) : prun tot (10 :: r) c = ([], x) := by
  cases r <;> simp [prun, h, he]
theorem prun_qbad {tot : Int} {x : UInt8} {r : List UInt8} {c : Sc} (h : (c.see 34).st = 2) (hx : stopB x = false) : prun tot (34 :: x :: r) c = ([], (230, c.line)) := by
  simp [prun, h, hx]
theorem prun_qok {tot : Int} {r : List UInt8} {c c2 : Sc} (h : (c.see 34).st = 2) (hx : nextBad r = false) (hw : (c.see 34).word = .ok c2) : prun tot (34 :: r) c = prun tot r { c2 with st := 3 } := by
  cases r with
  | nil => simp [prun, h, hw]
  | cons x r => have hx2 : stopB x = true := by simpa [nextBad] using hx
                simp [prun, h, hw, hx2]
theorem prun_qfull {tot : Int} {r : List UInt8} {c : Sc} {y : Int × Int} (h : (c.see 34).st = 2) (hx : nextBad r = false) (hw : (c.see 34).word = .error y) : prun tot (34 :: r) c = ([], y) := by
  cases r with
  | nil => simp [prun, h, hw]
  | cons x r => have hx2 : stopB x = true := by simpa [nextBad] using hx
                simp [prun, h, hw, hx2]
theorem prun_qnl {tot : Int} {r : List UInt8} {c : Sc} (h : (c.see 10).st = 2) : prun tot (10 :: r) c = ([], (230, c.line)) := by
  cases r <;> simp [prun, h]
theorem prun_qbs0 {tot : Int} {c : Sc} (h : (c.see 92).st = 2) : prun tot [92] c = ([], (230, tot)) := by simp [prun, h]
theorem prun_qbsn {tot : Int} {r : List UInt8} {c : Sc} (h : (c.see 92).st = 2) : prun tot (92 :: 10 :: r) c = ([], (230, c.line)) := by simp [prun, h]
theorem prun_qbs {tot : Int} {x : UInt8} {r : List UInt8} {c : Sc} (h : (c.see 92).st = 2) (hx : ¬ x = 10) : prun tot (92 :: x :: r) c = prun tot r { c.see 92 with cur := c.cur ++ [92, x] } := by
  simp [prun, h, hx]
theorem prun_q {tot : Int} {b : UInt8} {r : List UInt8} {c : Sc} (h : (c.see b).st = 2) (h1 : ¬ b = 34) (h2 : ¬ b = 10) (h3 : ¬ b = 92) : prun tot (b :: r) c = prun tot r { c.see b with cur := c.cur ++ [b] } := by
  cases r <;> simp [prun, h, h1, h2, h3]
theorem prun_stop {tot : Int} {b : UInt8} {r : List UInt8} {c c2 : Sc} (h4 : ¬ (c.see b).st = 4) (h2 : ¬ (c.see b).st = 2) (hs : stopB b = true) (he : (c.see b).ends b = .ok c2) : prun tot (b :: r) c = prun tot r c2 := by
  cases r <;> simp [prun, h4, h2, hs, he]
theorem prun_stopx {tot : Int} {b : UInt8} {r : List UInt8} {c : Sc} {x : Int × Int} (h4 : ¬ (c.see b).st = 4) (h2 : ¬ (c.see b).st = 2) (hs : stopB b = true) (he : (c.see b).ends b = .error x) : prun tot (b :: r) c = ([], x) := by
  cases r <;> simp [prun, h4, h2, hs, he]
theorem stop34 : stopB 34 = false := by decide
theorem stop92 : stopB 92 = false := by decide
theorem prun_in {tot : Int} {r : List UInt8} {c : Sc} (h : (c.see 34).st = 1) : prun tot (34 :: r) c = ([], (230, c.line)) := by
  cases r <;> simp [prun, h, stop34]
theorem prun_open {tot : Int} {r : List UInt8} {c : Sc} (h4 : ¬ (c.see 34).st = 4) (h2 : ¬ (c.see 34).st = 2) (h1 : ¬ (c.see 34).st = 1) : prun tot (34 :: r) c = prun tot r { c.see 34 with st := 2, cur := [], begun := c.line } := by
  cases r <;> simp [prun, h4, h2, h1, stop34]
theorem prun_bs0 {tot : Int} {c : Sc} (h4 : ¬ (c.see 92).st = 4) (h2 : ¬ (c.see 92).st = 2) : prun tot [92] c = ([], (230, tot)) := by simp [prun, h4, h2, stop92]
theorem prun_bsn {tot : Int} {r : List UInt8} {c : Sc} (h4 : ¬ (c.see 92).st = 4) (h2 : ¬ (c.see 92).st = 2) : prun tot (92 :: 10 :: r) c = ([], (230, c.line)) := by simp [prun, h4, h2, stop92]
theorem prun_bs {tot : Int} {x : UInt8} {r : List UInt8} {c : Sc} (h4 : ¬ (c.see 92).st = 4) (h2 : ¬ (c.see 92).st = 2) (hx : ¬ x = 10) : prun tot (92 :: x :: r) c = prun tot r { (c.see 92).open_ with cur := (c.see 92).open_.cur ++ [92, x] } := by
  simp [prun, h4, h2, stop92, hx]
theorem prun_w {tot : Int} {b : UInt8} {r : List UInt8} {c : Sc} (h4 : ¬ (c.see b).st = 4) (h2 : ¬ (c.see b).st = 2) (hs : stopB b = false) (hq : ¬ b = 34) (hb : ¬ b = 92) : prun tot (b :: r) c = prun tot r { (c.see b).open_ with cur := (c.see b).open_.cur ++ [b] } := by
  cases r <;> simp [prun, h4, h2, hs, hq, hb]
/-- the word's bytes -/
theorem cur_one {s : List UInt8} {i f : Nat} (hf : f ≤ i) (hi : i < s.length) : (s.take (i + 1)).drop f = (s.take i).drop f ++ [s[i]] := by
  rw [List.take_succ_eq_append_getElem hi, List.drop_append_of_le_length (by rw [List.length_take]; omega)]
theorem cur_two {s : List UInt8} {i f : Nat} (hf : f ≤ i) (hi : i + 1 < s.length) : (s.take (i + 2)).drop f = (s.take i).drop f ++ [s[i], s[i + 1]] := by
  rw [cur_one (by omega) hi, cur_one hf (by omega), List.append_assoc]; rfl
theorem cur_none (s : List UInt8) (i : Nat) : (s.take i).drop i = [] := List.drop_eq_nil_of_le (by rw [List.length_take]; omega)
theorem SM.place {B g : Nat} {s : List UInt8} {i j : Nat} {c : Sc} {q : SV} {w : World} (h : SM B g s i c q w) (hst : c.st = 0 ∨ c.st = 3 ∨ c.st = 4) : SM B g s j c q w :=
  ⟨h.hB, h.blk, h.words, h.wl, h.out, h.ol, h.ents, h.lo, h.hi, fun h => by omega⟩
theorem SM.ext {B g : Nat} {s : List UInt8} {i : Nat} {c : Sc} {q : SV} {w w2 : World} (h : SM B g s i c q w) (hb : Below w.heap.size w w2) : SM B g s i c q w2 :=
  ⟨h.hB, h.blk.below hb h.blk.lt, h.words.ext hb, h.wl, h.out.ext hb, h.ol, h.ents.keep fun k _ _ hC => hb.block k hC.lt, h.lo, Nat.le_trans h.hi hb.size, h.cur⟩
/-- the same cells: a word that is read on -/
theorem SM.more {B g : Nat} {s : List UInt8} {i j : Nat} {c c2 : Sc} {q : SV} {w : World} (h : SM B g s i c q w) (hb : scC s c2 q = scC s c q) (hw : c2.words = c.words) (ho : c2.out = c.out) (hc : c2.st = 1 ∨ c2.st = 2 → q.frm ≤ j ∧ c2.cur = (s.take j).drop q.frm) : SM B g s j c2 q w :=
  ⟨h.hB, by rw [hb]; exact h.blk, by rw [hw]; exact h.words, by rw [hw]; exact h.wl, h.out, h.ol, by rw [ho]; exact h.ents, h.lo, h.hi, hc⟩
end Go.Proofs.YtojdjhicjhhblaaDoor
