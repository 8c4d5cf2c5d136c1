/- Plain laws of the reading byte by byte: a rule of induction; which words it tells; lines of faults; how long the joined text is. -/
import Derived.Test.YtojdjhicjhhblaaDoorScR
namespace Go.Proofs.YtojdjhicjhhblaaDoor
open Go Go.RowKit
/-- what is kept by each step is kept -/
structure Rule (tot : Int) (P : List UInt8 → Sc → Prop) (Q : List Ent × (Int × Int) → Prop) : Prop where
  done : ∀ c, P [] c → Q (pend tot c)
  see : ∀ b r c, P (b :: r) c → P (b :: r) (c.see b)
  bad : ∀ b r c, P (b :: r) c → Q ([], (230, c.line))
  badt : ∀ b r c, P (b :: r) c → Q ([], (230, tot))
  endx : ∀ b r c x, P (b :: r) c → c.fresh = false → c.ends b = .error x → Q ([], x)
  wordx : ∀ b r c x, P (b :: r) c → c.st = 2 → c.word = .error x → Q ([], x)
  remark : ∀ b r c, P (b :: r) c → c.st = 4 → ¬ b = 10 → P r c
  ends : ∀ b r c c2, P (b :: r) c → c.fresh = false → ¬ c.st = 2 → c.ends b = .ok c2 → P r c2
  quote : ∀ r c c2, P (34 :: r) c → c.fresh = false → c.st = 2 → c.word = .ok c2 → P r { c2 with st := 3 }
  qbyte : ∀ b r c, P (b :: r) c → c.fresh = false → c.st = 2 → ¬ b = 34 → ¬ b = 10 → ¬ b = 92 → P r { c with cur := c.cur ++ [b] }
  qpair : ∀ x r c, P (92 :: x :: r) c → c.fresh = false → c.st = 2 → ¬ x = 10 → P r { c with cur := c.cur ++ [92, x] }
  opens : ∀ r c, P (34 :: r) c → c.fresh = false → ¬ c.st = 1 → ¬ c.st = 2 → ¬ c.st = 4 → P r { c with st := 2, cur := [], begun := c.line }
  byte : ∀ b r c, P (b :: r) c → c.fresh = false → ¬ c.st = 2 → ¬ c.st = 4 → stopB b = false → ¬ b = 34 → ¬ b = 92 → P r { c.open_ with cur := c.open_.cur ++ [b] }
  pair : ∀ x r c, P (92 :: x :: r) c → c.fresh = false → ¬ c.st = 2 → ¬ c.st = 4 → ¬ x = 10 → P r { c.open_ with cur := c.open_.cur ++ [92, x] }
theorem prun_rule {tot : Int} {P : List UInt8 → Sc → Prop} {Q : List Ent × (Int × Int) → Prop} (h : Rule tot P Q) : ∀ (n : Nat) (r : List UInt8) (c : Sc), r.length ≤ n → P r c → Q (prun tot r c) := by
  intro n
  induction n with
  | zero =>
    intro r c hn hp
    cases r with
    | nil => exact h.done c hp
    | cons b r => simp at hn
  | succ n ih =>
    intro r c hn hp
    cases r with
    | nil => exact h.done c hp
    | cons b r =>
      have hn2 : r.length ≤ n := by simpa using hn
      obtain ⟨l1, l2, l3, l4, l5, l6, hf, _⟩ := see_line b c
      have hs := h.see b r c hp
      have hcur : c.cur = (c.see b).cur := l4.symm
      have hline : c.line = (c.see b).line := l1.symm
      obtain ⟨d, hd⟩ : ∃ d, c.see b = d := ⟨_, rfl⟩
      rw [hd] at hs hf hcur hline
      by_cases h4 : d.st = 4
      · by_cases b10 : b = 10
        · subst b10
          cases he : d.ends 10 with
          | ok c2 => rw [prun_reml (by rw [hd]; exact h4) (by rw [hd]; exact he)]; exact ih _ _ hn2 (h.ends 10 r d c2 hs hf (by omega) he)
          | error x => rw [prun_remx (by rw [hd]; exact h4) (by rw [hd]; exact he)]; exact h.endx 10 r d x hs hf he
        · rw [prun_rem (by rw [hd]; exact h4) b10, hd]; exact ih _ _ hn2 (h.remark b r d hs h4 b10)
      by_cases h2 : d.st = 2
      · by_cases b34 : b = 34
        · subst b34
          by_cases hx : nextBad r = true
          · cases r with
            | nil => cases hx
            | cons x r =>
              have hx2 : stopB x = false := by simpa [nextBad] using hx
              rw [prun_qbad (by rw [hd]; exact h2) hx2, hline]; exact h.bad 34 _ d hs
          · replace hx : nextBad r = false := by simpa using hx
            cases hw : d.word with
            | ok c2 => rw [prun_qok (by rw [hd]; exact h2) hx (by rw [hd]; exact hw)]; exact ih _ _ hn2 (h.quote r d c2 hs hf h2 hw)
            | error x => rw [prun_qfull (by rw [hd]; exact h2) hx (by rw [hd]; exact hw)]; exact h.wordx 34 r d x hs h2 hw
        by_cases b10 : b = 10
        · subst b10; rw [prun_qnl (by rw [hd]; exact h2), hline]; exact h.bad 10 r d hs
        by_cases b92 : b = 92
        · subst b92
          cases r with
          | nil => rw [prun_qbs0 (by rw [hd]; exact h2)]; exact h.badt 92 [] d hs
          | cons x r =>
            by_cases x10 : x = 10
            · subst x10; rw [prun_qbsn (by rw [hd]; exact h2), hline]; exact h.bad 92 _ d hs
            · rw [prun_qbs (by rw [hd]; exact h2) x10, hd, hcur]
              exact ih _ _ (by simp at hn2; omega) (h.qpair x r d hs hf h2 x10)
        rw [prun_q (by rw [hd]; exact h2) b34 b10 b92, hd, hcur]
        exact ih _ _ hn2 (h.qbyte b r d hs hf h2 b34 b10 b92)
      by_cases hsb : stopB b = true
      · cases he : d.ends b with
        | ok c2 => rw [prun_stop (by rw [hd]; exact h4) (by rw [hd]; exact h2) hsb (by rw [hd]; exact he)]; exact ih _ _ hn2 (h.ends b r d c2 hs hf h2 he)
        | error x => rw [prun_stopx (by rw [hd]; exact h4) (by rw [hd]; exact h2) hsb (by rw [hd]; exact he)]; exact h.endx b r d x hs hf he
      replace hsb : stopB b = false := by simpa using hsb
      by_cases b34 : b = 34
      · subst b34
        by_cases h1 : d.st = 1
        · rw [prun_in (by rw [hd]; exact h1), hline]; exact h.bad 34 r d hs
        · rw [prun_open (by rw [hd]; exact h4) (by rw [hd]; exact h2) (by rw [hd]; exact h1), hd, hline]
          exact ih _ _ hn2 (h.opens r d hs hf h1 h2 h4)
      by_cases b92 : b = 92
      · subst b92
        cases r with
        | nil => rw [prun_bs0 (by rw [hd]; exact h4) (by rw [hd]; exact h2)]; exact h.badt 92 [] d hs
        | cons x r =>
          by_cases x10 : x = 10
          · subst x10; rw [prun_bsn (by rw [hd]; exact h4) (by rw [hd]; exact h2), hline]; exact h.bad 92 _ d hs
          · rw [prun_bs (by rw [hd]; exact h4) (by rw [hd]; exact h2) x10, hd]
            exact ih _ _ (by simp at hn2; omega) (h.pair x r d hs hf h2 h4 x10)
      rw [prun_w (by rw [hd]; exact h4) (by rw [hd]; exact h2) hsb b34 b92, hd]
      exact ih _ _ hn2 (h.byte b r d hs hf h2 h4 hsb b34 b92)
/-- words as they stand in a text -/
def shownL (w : Trm) : List UInt8 := if w.2 then 34 :: (w.1 ++ [34]) else w.1
def unqB : List UInt8 → Bool
  | [] => true
  | [b] => !stopB b && b != 34 && b != 92
  | b :: x :: r => if b == 92 then x != 10 && unqB r else !stopB b && b != 34 && unqB (x :: r)
def quoB : List UInt8 → Bool
  | [] => true
  | [b] => b != 34 && b != 92 && b != 10
  | b :: x :: r => if b == 92 then x != 10 && quoB r else b != 34 && b != 10 && quoB (x :: r)
def okw (w : Trm) : Bool := if w.2 then quoB w.1 else !w.1.isEmpty && unqB w.1
theorem unqB_one {b : UInt8} {r : List UInt8} (h : ¬ b = 92) : unqB (b :: r) = (!stopB b && b != 34 && unqB r) := by
  have e : (b == 92) = false := by rw [beq_eq_false_iff_ne]; exact h
  have e2 : (b != 92) = true := by rw [bne_iff_ne]; exact h
  cases r with
  | nil => simp [unqB, e2]
  | cons x r => simp only [unqB, e, Bool.false_eq_true, if_false]
theorem quoB_one {b : UInt8} {r : List UInt8} (h : ¬ b = 92) : quoB (b :: r) = (b != 34 && b != 10 && quoB r) := by
  have e : (b == 92) = false := by rw [beq_eq_false_iff_ne]; exact h
  have e2 : (b != 92) = true := by rw [bne_iff_ne]; exact h
  cases r with
  | nil => simp [quoB, e2]
  | cons x r => simp only [quoB, e, Bool.false_eq_true, if_false]
theorem unqB_pair {x : UInt8} {r : List UInt8} : unqB (92 :: x :: r) = (x != 10 && unqB r) := rfl
theorem quoB_pair {x : UInt8} {r : List UInt8} : quoB (92 :: x :: r) = (x != 10 && quoB r) := rfl
theorem unqB_append : ∀ (n : Nat) (a b : List UInt8), a.length ≤ n → unqB a = true → unqB b = true → unqB (a ++ b) = true := by
  intro n
  induction n with
  | zero => intro a b hn _ hb; obtain rfl : a = [] := List.eq_nil_of_length_eq_zero (by omega); exact hb
  | succ n ih =>
    intro a b hn ha hb
    cases a with
    | nil => exact hb
    | cons y a =>
      by_cases h92 : y = 92
      · subst h92
        cases a with
        | nil => exact absurd ha (by decide)
        | cons x a =>
          rw [unqB_pair, Bool.and_eq_true] at ha
          show unqB (92 :: x :: (a ++ b)) = true
          rw [unqB_pair, Bool.and_eq_true]
          exact ⟨ha.1, ih a b (by simp at hn; omega) ha.2 hb⟩
      · rw [unqB_one h92, Bool.and_eq_true] at ha
        show unqB (y :: (a ++ b)) = true
        rw [unqB_one h92, Bool.and_eq_true]
        exact ⟨ha.1, ih a b (by simp at hn; omega) ha.2 hb⟩
theorem quoB_append : ∀ (n : Nat) (a b : List UInt8), a.length ≤ n → quoB a = true → quoB b = true → quoB (a ++ b) = true := by
  intro n
  induction n with
  | zero => intro a b hn _ hb; obtain rfl : a = [] := List.eq_nil_of_length_eq_zero (by omega); exact hb
  | succ n ih =>
    intro a b hn ha hb
    cases a with
    | nil => exact hb
    | cons y a =>
      by_cases h92 : y = 92
      · subst h92
        cases a with
        | nil => exact absurd ha (by decide)
        | cons x a =>
          rw [quoB_pair, Bool.and_eq_true] at ha
          show quoB (92 :: x :: (a ++ b)) = true
          rw [quoB_pair, Bool.and_eq_true]
          exact ⟨ha.1, ih a b (by simp at hn; omega) ha.2 hb⟩
      · rw [quoB_one h92, Bool.and_eq_true] at ha
        show quoB (y :: (a ++ b)) = true
        rw [quoB_one h92, Bool.and_eq_true]
        exact ⟨ha.1, ih a b (by simp at hn; omega) ha.2 hb⟩
/-- lines -/
theorem linesOf_cons (b : UInt8) (r : List UInt8) (h : r ≠ []) : linesOf (b :: r) = (if b = 10 then 1 else 0) + linesOf r := by
  have hl : (b :: r).getLast? = r.getLast? := by cases r with | nil => exact absurd rfl h | cons x r => simp
  have hr : r.isEmpty = false := by cases r with | nil => exact absurd rfl h | cons x r => rfl
  unfold linesOf
  rw [hl, hr]
  by_cases hb : b = 10
  · subst hb; simp; omega
  · have e : (b == 10) = false := by rw [beq_eq_false_iff_ne]; exact hb
    simp [hb, e]
theorem linesOf_pos (b : UInt8) (r : List UInt8) : 1 ≤ linesOf (b :: r) := by
  induction r generalizing b with
  | nil =>
    by_cases hb : b = 10
    · subst hb; decide
    · have e : (b == 10) = false := by rw [beq_eq_false_iff_ne]; exact hb
      have e2 : (some b == some (10 : UInt8)) = false := by rw [beq_eq_false_iff_ne]; simpa using hb
      simp [linesOf, e, e2]
  | cons x r ih =>
    rw [linesOf_cons b (x :: r) (by simp)]
    have := ih x
    split <;> omega
end Go.Proofs.YtojdjhicjhhblaaDoor
