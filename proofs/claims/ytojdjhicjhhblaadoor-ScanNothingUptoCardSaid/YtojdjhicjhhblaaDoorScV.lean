/- Joined texts are read again as they were. -/
import Derived.Test.YtojdjhicjhhblaaDoorScU
import Derived.Test.YtojdjhicjhhblaaDoorRsP
namespace Go.Proofs.YtojdjhicjhhblaaDoor
open Go Go.RowKit
def wtext : List Trm → List UInt8
  | [] => []
  | w :: r => shownL w ++ (if r.isEmpty then [] else 32 :: wtext r)
def ltext (e : Ent) : List UInt8 := (if e.blank then [32] else []) ++ wtext e.words
def etext (e : Ent) : List UInt8 := ltext e ++ [10]
def jtext : List Ent → List UInt8
  | [] => []
  | e :: r => etext e ++ jtext r
theorem unq_run {tot : Int} {r : List UInt8} : ∀ (n : Nat) (a : List UInt8) (c : Sc), a.length ≤ n → unqB a = true → c.fresh = false → c.st = 1 → prun tot (a ++ r) c = prun tot r { c with cur := c.cur ++ a } := by
  intro n
  induction n with
  | zero =>
    intro a c hn _ _ _
    obtain rfl : a = [] := List.eq_nil_of_length_eq_zero (by omega)
    rw [List.append_nil]; rfl
  | succ n ih =>
    intro a c hn ha hf h1
    cases a with
    | nil => rw [List.append_nil]; rfl
    | cons b a =>
      have ho : c.open_ = c := by unfold Sc.open_; rw [if_neg (by omega)]
      by_cases h92 : b = 92
      · subst h92
        cases a with
        | nil => exact absurd ha (by decide)
        | cons x a =>
          rw [unqB_pair, Bool.and_eq_true, bne_iff_ne] at ha
          show prun tot (92 :: x :: (a ++ r)) c = _
          rw [prun_bs (by rw [see_not hf]; omega) (by rw [see_not hf]; omega) ha.1, see_not hf, ho]
          refine (ih a { c with cur := c.cur ++ [92, x] } (by simp at hn; omega) ha.2 hf h1).trans ?_
          simp
      · rw [unqB_one h92, Bool.and_eq_true, Bool.and_eq_true, bne_iff_ne] at ha
        have hs : stopB b = false := by simpa using ha.1.1
        show prun tot (b :: (a ++ r)) c = _
        rw [prun_w (by rw [see_not hf]; omega) (by rw [see_not hf]; omega) hs ha.1.2 h92, see_not hf, ho]
        refine (ih a { c with cur := c.cur ++ [b] } (by simp at hn; omega) ha.2 hf h1).trans ?_
        simp
theorem quo_run {tot : Int} {r : List UInt8} : ∀ (n : Nat) (a : List UInt8) (c : Sc), a.length ≤ n → quoB a = true → c.fresh = false → c.st = 2 → prun tot (a ++ r) c = prun tot r { c with cur := c.cur ++ a } := by
  intro n
  induction n with
  | zero =>
    intro a c hn _ _ _
    obtain rfl : a = [] := List.eq_nil_of_length_eq_zero (by omega)
    rw [List.append_nil]; rfl
  | succ n ih =>
    intro a c hn ha hf h1
    cases a with
    | nil => rw [List.append_nil]; rfl
    | cons b a =>
      by_cases h92 : b = 92
      · subst h92
        cases a with
        | nil => exact absurd ha (by decide)
        | cons x a =>
          rw [quoB_pair, Bool.and_eq_true, bne_iff_ne] at ha
          show prun tot (92 :: x :: (a ++ r)) c = _
          rw [prun_qbs (by rw [see_not hf]; omega) ha.1, see_not hf]
          refine (ih a { c with cur := c.cur ++ [92, x] } (by simp at hn; omega) ha.2 hf h1).trans ?_
          simp
      · rw [quoB_one h92, Bool.and_eq_true, Bool.and_eq_true, bne_iff_ne, bne_iff_ne] at ha
        show prun tot (b :: (a ++ r)) c = _
        rw [prun_q (by rw [see_not hf]; omega) ha.1.1 ha.1.2 h92, see_not hf]
        refine (ih a { c with cur := c.cur ++ [b] } (by simp at hn; omega) ha.2 hf h1).trans ?_
        simp
/-- behind a word -/
def Sc.after (c : Sc) (ws : List Trm) (cur : List UInt8) (begun : Int) : Sc :=
  { c with blank := if c.fresh then false else c.blank, fresh := false, cur := cur, begun := begun, eline := if c.words.isEmpty then c.line else c.eline, words := c.words ++ ws }
theorem putE_some {c : Sc} {t : List UInt8} {qd : Bool} (h : c.words.length < 64) : putE c t qd = .ok { c with eline := if c.words.isEmpty then c.line else c.eline, words := c.words ++ [(t, qd)] } := by
  unfold putE; rw [if_neg (by omega)]
theorem shown_run {tot : Int} {w : Trm} {r : List UInt8} {c : Sc} (hw : okw w = true) (h0 : c.st = 0) (hr : nextBad r = false) (h64 : c.words.length < 64) : prun tot (shownL w ++ r) c = prun tot r (c.after [w] w.1 c.line) := by
  obtain ⟨t, qd⟩ := w
  have key : ∀ (d : Sc), d.fresh = false → d.st = 0 → d.words = c.words → d.line = c.line → d.eline = c.eline → d.deep = c.deep → d.out = c.out → d.blank = (if c.fresh then false else c.blank) →
      ({ d with cur := t, begun := d.line, eline := if d.words.isEmpty then d.line else d.eline, words := d.words ++ [(t, qd)] } : Sc) = c.after [(t, qd)] t c.line := by
    intro d e1 e2 e3 e4 e5 e6 e7 e8
    obtain ⟨line, st, deep, cur, begun, eline, blank, words, fresh, out⟩ := d
    dsimp only at *
    subst e1 e2 e3 e4 e5 e6 e7 e8
    unfold Sc.after
    rw [h0]
  cases qd with
  | false =>
    have hs : shownL (t, false) = t := rfl
    rw [hs]
    have hok : t ≠ [] ∧ unqB t = true := by simpa [okw] using hw
    cases t with
    | nil => exact absurd rfl hok.1
    | cons b a =>
      have hb : stopB b = false ∧ ¬ b = 34 := by
        by_cases h92 : b = 92
        · subst h92; exact ⟨by decide, by decide⟩
        · have := hok.2
          rw [unqB_one h92, Bool.and_eq_true, Bool.and_eq_true, bne_iff_ne] at this
          exact ⟨by simpa using this.1.1, this.1.2⟩
      have hbl : blankB b = false := by
        have := hb.1
        unfold stopB at this
        simp only [Bool.or_eq_false_iff] at this
        exact this.1.1.1.1
      obtain ⟨l1, l2, l3, l4, l5, l6, hf, l8, l9⟩ := see_line b c
      have hbk : (c.see b).blank = (if c.fresh then false else c.blank) := by
        unfold Sc.see
        cases c.fresh <;> simp [hbl]
      obtain ⟨d, hd⟩ : ∃ d, c.see b = d := ⟨_, rfl⟩
      show prun tot (b :: (a ++ r)) c = _
      rw [← prun_see tot b (a ++ r) c, hd]
      rw [hd] at l1 l2 l3 l5 l6 hf l9 hbk
      rw [← word_start hf (l2.trans h0) hb.1 hb.2]
      show prun tot ((b :: a) ++ r) _ = _
      refine (unq_run _ (b :: a) { d with st := 1, cur := [], begun := d.line } (Nat.le_refl _) hok.2 hf rfl).trans ?_
      have hq := word_end (tot := tot) (r := r) (c := { d with cur := b :: a, begun := d.line }) hf (l2.trans h0) rfl hr
      rw [putE_some (by show d.words.length < 64; rw [l5]; exact h64)] at hq
      show prun tot r { d with st := 1, cur := [] ++ (b :: a), begun := d.line } = _
      rw [List.nil_append]
      refine hq.trans ?_
      exact congrArg (prun tot r) (key d hf (l2.trans h0) l5 l1 l9 l3 l6 hbk)
  | true =>
    have hs : shownL (t, true) = 34 :: (t ++ [34]) := rfl
    rw [hs]
    have hok : quoB t = true := by simpa [okw] using hw
    obtain ⟨l1, l2, l3, l4, l5, l6, hf, l8, l9⟩ := see_line 34 c
    have hbk : (c.see 34).blank = (if c.fresh then false else c.blank) := by
      unfold Sc.see
      cases c.fresh
      · rfl
      · show blankB 34 = false; decide
    obtain ⟨d, hd⟩ : ∃ d, c.see 34 = d := ⟨_, rfl⟩
    show prun tot (34 :: ((t ++ [34]) ++ r)) c = _
    rw [← prun_see, hd]
    rw [hd] at l1 l2 l3 l5 l6 hf l9 hbk
    have hst : d.st = 0 := l2.trans h0
    rw [prun_open (by rw [see_not hf]; omega) (by rw [see_not hf]; omega) (by rw [see_not hf]; omega), see_not hf, List.append_assoc]
    refine (quo_run _ t { d with st := 2, cur := [], begun := d.line } (Nat.le_refl _) hok hf rfl).trans ?_
    have hq := quote_end (tot := tot) (r := r) (c := { d with cur := t, begun := d.line }) hf hst rfl hr
    rw [putE_some (by show d.words.length < 64; rw [l5]; exact h64)] at hq
    show prun tot (34 :: r) { d with st := 2, cur := [] ++ t, begun := d.line } = _
    rw [List.nil_append]
    refine hq.trans ?_
    exact congrArg (prun tot r) (key d hf hst l5 l1 l9 l3 l6 hbk)
theorem space_run {tot : Int} {r : List UInt8} {c : Sc} (h0 : c.st = 0) : prun tot (32 :: r) c = prun tot r (c.see 32) := by
  have h := see_line 32 c
  refine prun_stop (by rw [h.2.1]; omega) (by rw [h.2.1]; omega) (by decide) ?_
  rw [ends_mark _ _ (by rw [h.2.1]; omega), mark_else _ (by rw [h.2.1]; omega) 32 (by decide) (by decide) (by decide) (by decide)]
  have e : (c.see 32).st = 0 := h.2.1.trans h0
  obtain ⟨d, hd⟩ : ∃ d, c.see 32 = d := ⟨_, rfl⟩
  rw [hd] at e ⊢
  obtain ⟨line, st, deep, cur, begun, eline, blank, words, fresh, out⟩ := d
  dsimp only at e
  rw [e]
theorem after_after (c : Sc) (a b : List Trm) (x y : List UInt8) (l m : Int) (ha : a ≠ []) : (c.after a x l).after b y m = c.after (a ++ b) y m := by
  have e : (c.words ++ a).isEmpty = false := by
    cases h : c.words with
    | nil => cases a with | nil => exact absurd rfl ha | cons => rfl
    | cons => rfl
  unfold Sc.after
  simp only [Bool.false_eq_true, if_false, e, List.append_assoc]
theorem wtext_run {tot : Int} : ∀ (ws : List Trm) (r : List UInt8) (c : Sc), ws ≠ [] → (∀ w ∈ ws, okw w = true) → c.st = 0 → nextBad r = false → c.words.length + ws.length ≤ 64 → ∃ cur, prun tot (wtext ws ++ r) c = prun tot r (c.after ws cur c.line) := by
  intro ws
  induction ws with
  | nil => intro r c h; exact absurd rfl h
  | cons w ws ih =>
    intro r c _ hok h0 hr hl
    simp only [List.length_cons] at hl
    cases ws with
    | nil =>
      refine ⟨w.1, ?_⟩
      have e : wtext [w] = shownL w := by simp [wtext]
      rw [e]
      exact shown_run (hok w (by simp)) h0 hr (by omega)
    | cons x ws =>
      have e : wtext (w :: x :: ws) ++ r = shownL w ++ (32 :: (wtext (x :: ws) ++ r)) := by
        show (shownL w ++ (if (x :: ws).isEmpty then [] else 32 :: wtext (x :: ws))) ++ r = _
        simp
      rw [e, shown_run (hok w (by simp)) h0 (by rfl) (by omega), space_run (by exact h0), see_not (by rfl)]
      obtain ⟨cur, h⟩ := ih r (c.after [w] w.1 c.line) (by simp) (fun z hz => hok z (List.mem_cons_of_mem _ hz)) h0 hr (by show (c.words ++ [w]).length + _ ≤ 64; rw [List.length_append]; simp at hl ⊢; omega)
      refine ⟨cur, h.trans ?_⟩
      show prun tot r ((c.after [w] w.1 c.line).after (x :: ws) cur c.line) = _
      rw [after_after _ _ _ _ _ _ _ (by simp)]
      rfl
/-- a line of an entry, ahead of a byte that ends words -/
theorem ltext_run {tot : Int} {e : Ent} {r : List UInt8} {c : Sc} (he : okE e) (h0 : c.st = 0) (hf : c.fresh = true) (hw : c.words = []) (hr : nextBad r = false) :
    ∃ cur, prun tot (ltext e ++ r) c = prun tot r { c with blank := e.blank, fresh := false, cur := cur, begun := c.line, eline := c.line, words := e.words } := by
  obtain ⟨h1, h2, h3⟩ := he
  unfold ltext
  cases hb : e.blank with
  | false =>
    obtain ⟨cur, h⟩ := wtext_run (tot := tot) e.words r c h2 h1 h0 hr (by rw [hw]; simpa using h3)
    refine ⟨cur, ?_⟩
    simp only [Bool.false_eq_true, if_false, List.nil_append]
    rw [h]
    unfold Sc.after
    rw [hf, hw]
    rfl
  | true =>
    have hs : c.see 32 = { c with blank := true, fresh := false } := by rw [see_yes hf]; rfl
    obtain ⟨cur, h⟩ := wtext_run (tot := tot) e.words r (c.see 32) h2 h1 (by rw [hs]; exact h0) hr (by rw [hs]; show c.words.length + _ ≤ 64; rw [hw]; simpa using h3)
    refine ⟨cur, ?_⟩
    simp only [if_true]
    show prun tot (32 :: (wtext e.words ++ r)) c = _
    rw [space_run h0, h, hs]
    unfold Sc.after
    simp only [hw]
    rfl
/-- with lines from l on -/
def relin : Int → List Ent → List Ent
  | _, [] => []
  | l, e :: r => ⟨l, e.blank, e.words⟩ :: relin (l + 1) r
theorem nl_run {tot : Int} {r : List UInt8} {c : Sc} (h0 : c.st = 0) (hd : c.deep = 0) (hf : c.fresh = false) : prun tot (10 :: r) c = prun tot r { c.entry with line := c.line + 1 } := by
  refine prun_stop (by rw [see_not hf]; omega) (by rw [see_not hf]; omega) (by decide) ?_
  rw [see_not hf, ends_mark _ _ (by omega), mark_line0 c hd]
  obtain ⟨line, st, deep, cur, begun, eline, blank, words, fresh, out⟩ := c
  dsimp only at h0
  subst h0
  rfl
theorem jtext_run {tot : Int} : ∀ (l : List Ent) (c : Sc), (∀ e ∈ l, okE e) → c.st = 0 → c.deep = 0 → c.fresh = true → c.words = [] → prun tot (jtext l) c = (c.out ++ relin c.line l, (0, 0)) := by
  intro l
  induction l with
  | nil =>
    intro c _ h0 hd hf hw
    show pend tot c = _
    rw [pend_done tot c (by omega) (by omega)]
    simp [Sc.entry, hw, relin]
  | cons e l ih =>
    intro c hl h0 hd hf hw
    obtain ⟨cur, h⟩ := ltext_run (tot := tot) (e := e) (r := 10 :: jtext l) (c := c) (hl e (by simp)) h0 hf hw (by rfl)
    have e1 : jtext (e :: l) = ltext e ++ (10 :: jtext l) := by show (ltext e ++ [10]) ++ jtext l = _; simp
    rw [e1, h, nl_run (by exact h0) (by exact hd) (by rfl)]
    have hne : e.words.isEmpty = false := by
      have := (hl e (by simp)).2.1
      cases hq : e.words with
      | nil => exact absurd hq this
      | cons => rfl
    have e2 : ({ ({ c with blank := e.blank, fresh := false, cur := cur, begun := c.line, eline := c.line, words := e.words } : Sc).entry with line := c.line + 1 } : Sc) = ⟨c.line + 1, c.st, c.deep, cur, c.line, 0, false, [], true, c.out ++ [⟨c.line, e.blank, e.words⟩]⟩ := by
      simp [Sc.entry, hne]
    show prun tot (jtext l) ({ ({ c with blank := e.blank, fresh := false, cur := cur, begun := c.line, eline := c.line, words := e.words } : Sc).entry with line := c.line + 1 } : Sc) = _
    rw [e2]
    refine (ih ⟨c.line + 1, c.st, c.deep, cur, c.line, 0, false, [], true, c.out ++ [⟨c.line, e.blank, e.words⟩]⟩ (fun z hz => hl z (List.mem_cons_of_mem _ hz)) h0 hd rfl rfl).trans ?_
    simp [relin]
theorem jtext_read (l : List Ent) (hl : ∀ e ∈ l, okE e) (hs : (jtext l).length ≤ 65536) : pEnt (jtext l) = (relin 1 l, (0, 0)) := by
  unfold pEnt
  rw [if_neg (by omega), jtext_run l sc0 hl rfl rfl rfl rfl]
  rfl
/-- a word alone -/
theorem alone_ok {w : Trm} (hw : okw w = true) (hs : (shownL w).length ≤ 65536) : pEnt (shownL w) = ([⟨1, false, [w]⟩], (0, 0)) := by
  have h := shown_run (tot := linesOf (shownL w)) (w := w) (r := []) (c := sc0) hw rfl rfl (by decide)
  rw [List.append_nil] at h
  unfold pEnt
  rw [if_neg (by omega), h]
  show pend _ _ = _
  rw [pend_done _ _ (fun e => absurd e (by show ¬ (0 : Nat) = 1; decide)) (fun e => by rcases e with e | e; exact absurd e (by show ¬ (0 : Nat) = 2; decide); exact absurd e (by show ¬ 0 < 0; decide))]
  rfl
theorem alone_bad {w : Trm} (hw : okw w = false) (hs : (shownL w).length ≤ 65536) (l : Int) (b : Bool) : ¬ (pEnt (shownL w)) = ([⟨l, b, [w]⟩], (0, 0)) := by
  intro h
  have ht := pEnt_told (shownL w) hs
  rw [h] at ht
  rcases ht with ⟨_, h2, _⟩ | ⟨h1, _⟩
  · have h3 := (h2 _ (List.mem_singleton.2 rfl)).1 w (by simp)
    rw [hw] at h3
    cases h3
  · cases h1
end Go.Proofs.YtojdjhicjhhblaaDoor
