/- How the document reads a text, step by step, beside the reading byte by byte. -/
import Derived.Test.YtojdjhicjhhblaaDoorScU
namespace Go.Proofs.YtojdjhicjhhblaaDoor
open Go Go.RowKit
def putE (c : Sc) (t : List UInt8) (qd : Bool) : Except (Int × Int) Sc :=
  if c.words.length = 64 then .error (3, c.line) else .ok { c with eline := if c.words.isEmpty then c.line else c.eline, words := c.words ++ [(t, qd)] }
def Sc.look (r : List UInt8) (c : Sc) : Sc := match r with | [] => { c with blank := false, fresh := false } | b :: _ => c.see b
theorem look_entry_fresh (c : Sc) (r : List UInt8) : (c.entry.look r).fresh = false := by cases r <;> simp [Sc.look, Sc.see, Sc.entry]
theorem look_same (c : Sc) (r : List UInt8) : (c.look r).st = c.st ∧ (c.look r).line = c.line ∧ (c.look r).deep = c.deep ∧ (c.look r).words = c.words ∧ (c.look r).out = c.out := by
  cases r with
  | nil => exact ⟨rfl, rfl, rfl, rfl, rfl⟩
  | cons b r => obtain ⟨h1, h2, h3, h4, h5, h6, _⟩ := see_line b c; exact ⟨h2, h1, h3, h5, h6⟩
theorem see_see (b : UInt8) (c : Sc) : (c.see b).see b = c.see b := see_not (see_line b c).2.2.2.2.2.2.1
theorem prun_see (tot : Int) (b : UInt8) (r : List UInt8) (c : Sc) : prun tot (b :: r) (c.see b) = prun tot (b :: r) c := by
  have h := see_see b c
  have hl := (see_line b c).1
  have hc := (see_line b c).2.2.2.1
  cases r <;> simp only [prun, h, hl, hc]
theorem prun_look {tot : Int} {r : List UInt8} {c : Sc} (h0 : c.st = 0) (hw : c.words = []) : prun tot r (c.look r) = prun tot r c := by
  cases r with
  | cons b r => exact prun_see tot b r c
  | nil =>
    show pend tot _ = pend tot c
    unfold pend
    simp [Sc.look, h0, Sc.entry, hw]
theorem rem_end {tot : Int} {r : List UInt8} {c : Sc} (hf : c.fresh = false) (h0 : c.st = 0) (hr : ∀ b t, r = b :: t → b = 10) : prun tot r { c with st := 4 } = prun tot r c := by
  obtain ⟨line, st, deep, cur, begun, eline, blank, words, fresh, out⟩ := c
  dsimp only at hf h0
  subst hf h0
  cases r with
  | nil => simp [prun, pend, Sc.entry]
  | cons b t =>
    have hb : b = 10 := hr b t rfl
    subst hb
    have e : Sc.ends 10 ⟨line, 4, deep, cur, begun, eline, blank, words, false, out⟩ = Sc.ends 10 ⟨line, 0, deep, cur, begun, eline, blank, words, false, out⟩ := by
      rw [ends_mark _ _ (by simp), ends_mark _ _ (by simp)]
      by_cases hd : deep = 0
      · rw [mark_line0 _ hd, mark_line0 _ hd]
      · rw [mark_line _ hd, mark_line _ hd]
    have hs : stopB 10 = true := by decide
    cases t <;> simp [prun, Sc.see, hs, e]
theorem st3_end {tot : Int} {r : List UInt8} {c : Sc} (hf : c.fresh = false) (hr : nextBad r = false) : prun tot r { c with st := 3 } = prun tot r { c with st := 0 } := by
  obtain ⟨line, st, deep, cur, begun, eline, blank, words, fresh, out⟩ := c
  dsimp only at hf
  subst hf
  cases r with
  | nil => simp [prun, pend, Sc.entry]
  | cons b t =>
    have hs : stopB b = true := by simpa [nextBad] using hr
    have e : Sc.ends b ⟨line, 3, deep, cur, begun, eline, blank, words, false, out⟩ = Sc.ends b ⟨line, 0, deep, cur, begun, eline, blank, words, false, out⟩ := by
      rw [ends_mark _ _ (by simp), ends_mark _ _ (by simp)]
      simp [Sc.mark]
    cases t <;> simp [prun, Sc.see, hs, e]
theorem word_start {tot : Int} {b : UInt8} {r : List UInt8} {c : Sc} (hf : c.fresh = false) (h0 : c.st = 0) (hs : stopB b = false) (hq : ¬ b = 34) : prun tot (b :: r) { c with st := 1, cur := [], begun := c.line } = prun tot (b :: r) c := by
  obtain ⟨line, st, deep, cur, begun, eline, blank, words, fresh, out⟩ := c
  dsimp only at hf h0
  subst hf h0
  cases r <;> simp [prun, Sc.see, hs, hq, Sc.open_]
theorem put_word {c : Sc} (h0 : c.st = 0) (hb : c.begun = c.line) : ({ c with st := 1 } : Sc).word = match putE c c.cur false with | .ok c2 => .ok { c2 with st := 1 } | .error e => .error e := by
  obtain ⟨line, st, deep, cur, begun, eline, blank, words, fresh, out⟩ := c
  dsimp only at h0 hb
  subst h0 hb
  unfold Sc.word putE
  dsimp only
  by_cases h : words.length = 64
  · rw [if_pos h, if_pos h]
  · rw [if_neg h, if_neg h]; rfl
theorem put_word2 {c : Sc} (hb : c.begun = c.line) : ({ c with st := 2 } : Sc).word = match putE c c.cur true with | .ok c2 => .ok { c2 with st := 2 } | .error e => .error e := by
  obtain ⟨line, st, deep, cur, begun, eline, blank, words, fresh, out⟩ := c
  dsimp only at hb
  subst hb
  unfold Sc.word putE
  dsimp only
  by_cases h : words.length = 64
  · rw [if_pos h, if_pos h]
  · rw [if_neg h, if_neg h]; rfl
theorem put_ok {c c2 : Sc} {t : List UInt8} {qd : Bool} (h : putE c t qd = .ok c2) : c2.st = c.st ∧ c2.line = c.line ∧ c2.deep = c.deep ∧ c2.out = c.out ∧ c2.fresh = c.fresh ∧ c2.words.length = c.words.length + 1 ∧ c.words.length ≠ 64 := by
  unfold putE at h
  by_cases h64 : c.words.length = 64
  · rw [if_pos h64] at h; cases h
  · rw [if_neg h64] at h; cases h; exact ⟨rfl, rfl, rfl, rfl, rfl, by simp, h64⟩
theorem word_end {tot : Int} {r : List UInt8} {c : Sc} (hf : c.fresh = false) (h0 : c.st = 0) (hb : c.begun = c.line) (hr : nextBad r = false) :
    prun tot r { c with st := 1 } = match putE c c.cur false with | .ok c2 => prun tot r c2 | .error e => ([], e) := by
  have hw := put_word h0 hb
  cases hp : putE c c.cur false with
  | error e =>
    rw [hp] at hw
    cases r with
    | nil => exact pend_full tot _ e rfl hw
    | cons b t =>
      have hs : stopB b = true := by simpa [nextBad] using hr
      refine prun_stopx (x := e) ?_ ?_ hs ?_
      · rw [see_not (by exact hf)]; simp
      · rw [see_not (by exact hf)]; simp
      · rw [see_not (by exact hf)]; exact ends_full b _ e rfl hw
  | ok c2 =>
    rw [hp] at hw
    obtain ⟨t1, t2, t3, t4, t5, _⟩ := put_ok hp
    have e2 : ({ c2 with st := 0 } : Sc) = c2 := by
      obtain ⟨line, st, deep, cur, begun, eline, blank, words, fresh, out⟩ := c2
      dsimp only at t1
      rw [h0] at t1
      rw [t1]
    cases r with
    | nil =>
      show pend tot _ = pend tot c2
      rw [pend_word tot _ _ rfl hw]
      show pend tot { c2 with st := 0 } = _
      rw [e2]
    | cons b t =>
      have hs : stopB b = true := by simpa [nextBad] using hr
      have e1 : ∀ x, Sc.ends b { c with st := 1 } = x → Sc.ends b c2 = x := by
        intro x hx
        rw [ends_word b _ _ rfl hw] at hx
        rw [ends_mark b c2 (by rw [t1, h0]; simp), ← hx]
        have h4 : (c2.st == 4) = false := by rw [t1, h0]; rfl
        simp [Sc.mark, h4]
      have f1 : c2.fresh = false := by rw [t5]; exact hf
      have s1 : Sc.see b { c with st := 1 } = { c with st := 1 } := see_not hf
      have s2 : Sc.see b c2 = c2 := see_not f1
      have n2 : ¬ c2.st = 4 ∧ ¬ c2.st = 2 := by rw [t1, h0]; simp
      cases he : Sc.ends b { c with st := 1 } with
      | ok c3 =>
        rw [prun_stop (by rw [s1]; simp) (by rw [s1]; simp) hs (by rw [s1]; exact he)]
        exact (prun_stop (by rw [s2]; exact n2.1) (by rw [s2]; exact n2.2) hs (by rw [s2]; exact e1 _ he)).symm
      | error x =>
        rw [prun_stopx (by rw [s1]; simp) (by rw [s1]; simp) hs (by rw [s1]; exact he)]
        exact (prun_stopx (by rw [s2]; exact n2.1) (by rw [s2]; exact n2.2) hs (by rw [s2]; exact e1 _ he)).symm
/-- the word in quotes ends -/
theorem quote_end {tot : Int} {r : List UInt8} {c : Sc} (hf : c.fresh = false) (h0 : c.st = 0) (hb : c.begun = c.line) (hr : nextBad r = false) :
    prun tot (34 :: r) { c with st := 2 } = match putE c c.cur true with | .ok c2 => prun tot r c2 | .error e => ([], e) := by
  have hw := put_word2 hb
  have s1 : Sc.see 34 { c with st := 2 } = { c with st := 2 } := see_not hf
  cases hp : putE c c.cur true with
  | error e =>
    rw [hp] at hw
    exact prun_qfull (by rw [s1]) hr (by rw [s1]; exact hw)
  | ok c2 =>
    rw [hp] at hw
    obtain ⟨t1, t2, t3, t4, t5, _⟩ := put_ok hp
    rw [prun_qok (by rw [s1]) hr (by rw [s1]; exact hw)]
    show prun tot r { c2 with st := 3 } = _
    rw [st3_end (by rw [t5]; exact hf) hr]
    obtain ⟨line, st, deep, cur, begun, eline, blank, words, fresh, out⟩ := c2
    dsimp only at t1
    rw [h0] at t1
    rw [t1]
theorem put_bnd {i : Nat} {c c2 : Sc} {t : List UInt8} {qd : Bool} (h : Bnd i c) (hp : putE c t qd = .ok c2) : Bnd i c2 := by
  obtain ⟨t1, t2, t3, t4, t5, t6, t7⟩ := put_ok hp
  have := h.words
  exact ⟨by rw [t1]; exact h.st, by omega, by rw [t3]; exact h.deep, by rw [t2]; exact h.lo, by rw [t2]; exact h.hi, by rw [t4]; exact h.out⟩
theorem Bnd.more {i j : Nat} {c : Sc} (h : Bnd i c) (hj : i ≤ j) : Bnd j c := ⟨h.st, h.words, Nat.le_trans h.deep hj, h.lo, by have := h.hi; omega, Nat.le_trans h.out hj⟩
theorem nextBad_drop {s : List UInt8} {j : Nat} (h : ∀ hj : j < s.length, stopB s[j] = true) : nextBad (s.drop j) = false := by
  by_cases hj : j < s.length
  · rw [List.drop_eq_getElem_cons hj]
    show (!stopB s[j]) = false
    rw [h hj]; rfl
  · rw [List.drop_eq_nil_of_le (by omega)]; rfl
end Go.Proofs.YtojdjhicjhhblaaDoor
