/- What is read: the words stand alone, at most 64 in an entry; how long the joined text is; in which lines faults lie. -/
import Derived.Test.YtojdjhicjhhblaaDoorScQ
namespace Go.Proofs.YtojdjhicjhhblaaDoor
open Go Go.RowKit
/-- room that words take in a joined text, at most -/
def wroom : List Trm → Nat
  | [] => 0
  | w :: r => w.1.length + 4 + wroom r
def eroom : List Ent → Nat
  | [] => 0
  | e :: r => wroom e.words + eroom r
theorem wroom_app (a b : List Trm) : wroom (a ++ b) = wroom a + wroom b := by
  induction a with
  | nil => simp [wroom]
  | cons x r ih => simp only [List.cons_append, wroom, ih]; omega
theorem eroom_app (a b : List Ent) : eroom (a ++ b) = eroom a + eroom b := by
  induction a with
  | nil => simp [eroom]
  | cons x r ih => simp only [List.cons_append, eroom, ih]; omega
def okE (e : Ent) : Prop := (∀ w ∈ e.words, okw w = true) ∧ e.words ≠ [] ∧ e.words.length ≤ 64
/-- the room of the word that is being read -/
def croom (c : Sc) : Nat := if c.st = 1 then c.cur.length + 4 else if c.st = 2 then c.cur.length + 4 else 0
structure Inv (tot : Int) (K : Nat) (r : List UInt8) (c : Sc) : Prop where
  un : c.st = 1 → unqB c.cur = true ∧ c.cur ≠ []
  qu : c.st = 2 → quoB c.cur = true
  ws : ∀ w ∈ c.words, okw w = true
  wl : c.words.length ≤ 64
  out : ∀ e ∈ c.out, okE e
  room : eroom c.out + wroom c.words + croom c + 5 * r.length ≤ K
  lo : 1 ≤ c.line
  rest : r ≠ [] → c.line - 1 + linesOf r = tot
  tt : c.deep ≠ 0 ∨ c.st ≠ 0 → 1 ≤ tot
  beg : c.st = 1 ∨ c.st = 2 → 1 ≤ c.begun ∧ c.begun ≤ tot
/-- what is told at the end -/
def Told (tot : Int) (K : Nat) (R : List Ent × (Int × Int)) : Prop :=
  (R.2 = (0, 0) ∧ (∀ e ∈ R.1, okE e) ∧ eroom R.1 ≤ K) ∨ (R.1 = [] ∧ (R.2.1 = 230 ∨ R.2.1 = 3) ∧ 1 ≤ R.2.2 ∧ R.2.2 ≤ tot)
theorem Inv.line {tot : Int} {K : Nat} {b : UInt8} {r : List UInt8} {c : Sc} (h : Inv tot K (b :: r) c) : 1 ≤ c.line ∧ c.line ≤ tot := by
  have h1 := h.lo
  have h2 := h.rest (by simp)
  have h3 := linesOf_pos b r
  omega
theorem word_is {c c2 : Sc} (h : c.word = .ok c2) : c2 = { c with eline := if c.words.isEmpty then c.begun else c.eline, words := c.words ++ [(c.cur, c.st == 2)] } := by
  unfold Sc.word at h
  by_cases h64 : c.words.length = 64
  · rw [if_pos h64] at h; cases h
  · rw [if_neg h64] at h; cases h; rfl
theorem word_x {c : Sc} {x : Int × Int} (h : c.word = .error x) : x = (3, c.begun) := by
  unfold Sc.word at h
  by_cases h64 : c.words.length = 64
  · rw [if_pos h64] at h; cases h; rfl
  · rw [if_neg h64] at h; cases h
theorem mark_x {b : UInt8} {c : Sc} {x : Int × Int} (h4 : c.st = 4 → b = 10) (h : c.mark b = .error x) : x = (230, c.line) ∧ ¬ b = 10 := by
  by_cases b10 : b = 10
  · subst b10
    by_cases hd : c.deep = 0
    · rw [mark_line0 c hd] at h; cases h
    · rw [mark_line c hd] at h; cases h
  refine ⟨?_, b10⟩
  have hs4 : c.st = 4 → False := fun h => b10 (h4 h)
  by_cases h1 : b = 59
  · subst h1; rw [mark_semi c hs4] at h; cases h
  by_cases h2 : b = 40
  · subst h2; rw [mark_open c hs4] at h; cases h
  by_cases h3 : b = 41
  · subst h3
    by_cases hd : c.deep = 0
    · rw [mark_shut0 c hs4 hd] at h; cases h; rfl
    · rw [mark_shut c hs4 hd] at h; cases h
  rw [mark_else c hs4 b h1 h2 h3 b10] at h; cases h
/-- the word has been put -/
theorem inv_word {tot : Int} {K : Nat} {r : List UInt8} {c c2 : Sc} (h : Inv tot K r c) (hst : c.st = 1 ∨ c.st = 2) (hw : c.word = .ok c2) (n : Nat) (hn : n = 0 ∨ n = 3) : Inv tot K r { c2 with st := n } := by
  have hwe := word_is hw
  obtain ⟨_, _, _, _, _, _, t7⟩ := word_ok hw
  subst hwe
  have hwl := h.wl
  have hroom := h.room
  have hc : croom c = c.cur.length + 4 := by unfold croom; rcases hst with e | e <;> simp [e]
  refine ⟨fun e => ?_, fun e => ?_, ?_, ?_, h.out, ?_, h.lo, h.rest, fun _ => h.tt (.inr (by rcases hst with e | e <;> omega)), fun e => ?_⟩
  · dsimp only at e; omega
  · dsimp only at e; omega
  · intro w hm
    rw [List.mem_append] at hm
    rcases hm with hm | hm
    · exact h.ws w hm
    · rw [List.mem_singleton] at hm
      subst hm
      rcases hst with e | e
      · have := h.un e
        simp [okw, e, this.1, this.2]
      · have := h.qu e
        simp [okw, e, this]
  · show (c.words ++ [_]).length ≤ 64
    rw [List.length_append]
    simp only [List.length_singleton]
    omega
  · show eroom c.out + wroom (c.words ++ [_]) + croom { c with eline := _, words := _, st := n } + 5 * r.length ≤ K
    have e2 : croom { c with eline := if c.words.isEmpty then c.begun else c.eline, words := c.words ++ [(c.cur, c.st == 2)], st := n } = 0 := by
      unfold croom; dsimp only; rw [if_neg (by omega), if_neg (by omega)]
    rw [e2, wroom_app]
    simp only [wroom]
    omega
  · dsimp only at e; omega
theorem inv_entry {tot : Int} {K : Nat} {r : List UInt8} {c : Sc} (h : Inv tot K r c) (h0 : c.st = 0) : Inv tot K r c.entry := by
  have hroom := h.room
  have hc : croom c = 0 := by unfold croom; rw [if_neg (by omega), if_neg (by omega)]
  refine ⟨fun e => ?_, fun e => ?_, fun w hm => ?_, by simp [Sc.entry], ?_, ?_, h.lo, h.rest, fun e => h.tt e, fun e => ?_⟩
  · have e : c.st = 1 := e
    omega
  · have e : c.st = 2 := e
    omega
  · simp [Sc.entry] at hm
  · show ∀ e ∈ (if c.words.isEmpty then c.out else c.out ++ [⟨c.eline, c.blank, c.words⟩]), okE e
    cases hw : c.words with
    | nil => simpa using h.out
    | cons x t =>
      intro e he
      simp only [List.isEmpty_cons, Bool.false_eq_true, if_false, List.mem_append, List.mem_singleton] at he
      rcases he with he | he
      · exact h.out e he
      · subst he
        refine ⟨fun w hm => h.ws w (by rw [hw]; exact hm), by simp, ?_⟩
        have := h.wl
        rw [hw] at this
        exact this
  · show eroom (if c.words.isEmpty then c.out else c.out ++ [⟨c.eline, c.blank, c.words⟩]) + wroom [] + croom c.entry + 5 * r.length ≤ K
    have hc2 : croom c.entry = 0 := by show (if c.st = 1 then _ else if c.st = 2 then _ else 0) = 0; rw [if_neg (by omega), if_neg (by omega)]
    rw [hc2]
    cases hw : c.words with
    | nil => rw [hw] at hroom; simp only [wroom, List.isEmpty_nil, if_true] at hroom ⊢; omega
    | cons x t =>
      rw [hw] at hroom
      simp only [List.isEmpty_cons, Bool.false_eq_true, if_false, eroom_app, eroom]
      simp only [wroom] at hroom ⊢
      omega
  · have e : c.st = 1 ∨ c.st = 2 := e
    omega
/-- behind a byte -/
theorem rest_cons {tot : Int} {b : UInt8} {r : List UInt8} {l : Int} (h : l - 1 + linesOf (b :: r) = tot) (hr : r ≠ []) : (if b = 10 then l + 1 else l) - 1 + linesOf r = tot := by
  rw [linesOf_cons b r hr] at h
  split at h <;> simp_all <;> omega
/-- a change of state alone -/
theorem inv_st {tot : Int} {K : Nat} {b : UInt8} {r : List UInt8} {c : Sc} (h : Inv tot K (b :: r) c) (hst : ¬ c.st = 1 ∧ ¬ c.st = 2) (n d : Nat) (hn : ¬ n = 1 ∧ ¬ n = 2) : Inv tot K (b :: r) { c with st := n, deep := d } := by
  have hroom := h.room
  have hl := h.line
  refine ⟨fun e => absurd e hn.1, fun e => absurd e hn.2, h.ws, h.wl, h.out, ?_, h.lo, h.rest, fun _ => by omega, fun e => by rcases e with e | e; exact absurd e hn.1; exact absurd e hn.2⟩
  have e1 : croom c = 0 := by unfold croom; rw [if_neg hst.1, if_neg hst.2]
  have e2 : croom { c with st := n, deep := d } = 0 := by unfold croom; dsimp only; rw [if_neg hn.1, if_neg hn.2]
  show eroom c.out + wroom c.words + croom { c with st := n, deep := d } + _ ≤ K
  omega
/-- a byte that is no line's end is behind -/
theorem inv_next {tot : Int} {K : Nat} {b : UInt8} {r : List UInt8} {c : Sc} (h : Inv tot K (b :: r) c) (hb : ¬ b = 10) : Inv tot K r c := by
  refine ⟨h.un, h.qu, h.ws, h.wl, h.out, ?_, h.lo, fun hr => ?_, h.tt, h.beg⟩
  · have := h.room; simp only [List.length_cons] at this; omega
  · have := rest_cons (h.rest (by simp)) hr; rw [if_neg hb] at this; exact this
theorem inv_line {tot : Int} {K : Nat} {r : List UInt8} {c : Sc} (h : Inv tot K (10 :: r) c) : Inv tot K r { c with line := c.line + 1 } := by
  refine ⟨h.un, h.qu, h.ws, h.wl, h.out, ?_, ?_, fun hr => ?_, h.tt, h.beg⟩
  · have := h.room; simp only [List.length_cons] at this; show eroom c.out + wroom c.words + croom c + _ ≤ K; omega
  · have := h.lo; show 1 ≤ c.line + 1; omega
  · have := rest_cons (h.rest (by simp)) hr; rw [if_pos rfl] at this; exact this
theorem inv_mark {tot : Int} {K : Nat} {b : UInt8} {r : List UInt8} {c c2 : Sc} (h : Inv tot K (b :: r) c) (hst : ¬ c.st = 1 ∧ ¬ c.st = 2) (h4 : c.st = 4 → b = 10) (hm : c.mark b = .ok c2) : Inv tot K r c2 := by
  by_cases b10 : b = 10
  · subst b10
    by_cases hd : c.deep = 0
    · rw [mark_line0 c hd] at hm; cases hm
      exact inv_line (inv_entry (inv_st h hst 0 c.deep (by decide)) rfl)
    · rw [mark_line c hd] at hm; cases hm
      exact inv_line (inv_st h hst 0 c.deep (by decide))
  have hs4 : c.st = 4 → False := fun h => b10 (h4 h)
  by_cases h1 : b = 59
  · subst h1; rw [mark_semi c hs4] at hm; cases hm; exact inv_next (inv_st h hst 4 c.deep (by decide)) b10
  by_cases h2 : b = 40
  · subst h2; rw [mark_open c hs4] at hm; cases hm; exact inv_next (inv_st h hst 0 (c.deep + 1) (by decide)) b10
  by_cases h3 : b = 41
  · subst h3
    by_cases hd : c.deep = 0
    · rw [mark_shut0 c hs4 hd] at hm; cases hm
    · rw [mark_shut c hs4 hd] at hm; cases hm; exact inv_next (inv_st h hst 0 (c.deep - 1) (by decide)) b10
  rw [mark_else c hs4 b h1 h2 h3 b10] at hm; cases hm
  exact inv_next (inv_st h hst 0 c.deep (by decide)) b10
theorem inv_see {tot : Int} {K : Nat} {b : UInt8} {r : List UInt8} {c : Sc} (h : Inv tot K r c) : Inv tot K r (c.see b) := by
  obtain ⟨l1, l2, l3, l4, l5, l6, l7, l8, l9⟩ := see_line b c
  refine ⟨by rw [l2, l4]; exact h.un, by rw [l2, l4]; exact h.qu, by rw [l5]; exact h.ws, by rw [l5]; exact h.wl, by rw [l6]; exact h.out, ?_, by rw [l1]; exact h.lo, by rw [l1]; exact h.rest, by rw [l2, l3]; exact h.tt, by rw [l2, l8]; exact h.beg⟩
  have := h.room
  unfold croom at this ⊢
  rw [l2, l4, l5, l6]; exact this
/-- the word's byte, or its pair -/
theorem inv_open {tot : Int} {K : Nat} {b : UInt8} {r : List UInt8} {c : Sc} (h : Inv tot K (b :: r) c) :
    (c.open_.st = 1 ∨ c.open_.st = c.st ∧ ¬ c.st = 1 ∧ ¬ c.st = 0) ∧ unqB (if c.open_.st = 1 then c.open_.cur else []) = true ∧ c.open_.words = c.words ∧ c.open_.out = c.out ∧ c.open_.line = c.line ∧ c.open_.deep = c.deep ∧
      croom c.open_ + eroom c.out + wroom c.words + 5 * r.length + 1 ≤ K ∧ (c.open_.st = 1 ∨ c.open_.st = 2 → 1 ≤ c.open_.begun ∧ c.open_.begun ≤ tot) := by
  have hl := h.line
  have hroom := h.room
  simp only [List.length_cons] at hroom
  unfold Sc.open_
  by_cases h0 : c.st = 0
  · rw [if_pos h0]
    have e1 : croom c = 0 := by unfold croom; rw [if_neg (by omega), if_neg (by omega)]
    refine ⟨.inl rfl, rfl, rfl, rfl, rfl, rfl, ?_, fun _ => hl⟩
    show (if (1 : Nat) = 1 then ([] : List UInt8).length + 4 else _) + _ + _ + _ + _ ≤ K
    rw [if_pos rfl]; simp only [List.length_nil]; omega
  · rw [if_neg h0]
    by_cases h1 : c.st = 1
    · refine ⟨.inl h1, by rw [if_pos h1]; exact (h.un h1).1, rfl, rfl, rfl, rfl, by omega, fun e => h.beg e⟩
    · refine ⟨.inr ⟨rfl, h1, h0⟩, by rw [if_neg h1]; rfl, rfl, rfl, rfl, rfl, by omega, fun e => h.beg e⟩
theorem inv_un {tot : Int} {K : Nat} {b : UInt8} {r r2 : List UInt8} {c : Sc} {it : List UInt8} (h : Inv tot K (b :: r) c) (h2 : ¬ c.st = 2) (h4 : ¬ c.st = 4) (hit : unqB it = true) (hne : it ≠ []) (hk : it.length + 5 * r2.length ≤ 5 * r.length + 1)
    (hrest : r2 ≠ [] → c.line - 1 + linesOf r2 = tot) : Inv tot K r2 { c.open_ with cur := c.open_.cur ++ it } := by
  obtain ⟨o1, o2, o3, o4, o5, o6, o7, o8⟩ := inv_open h
  have hl := h.line
  refine ⟨fun e => ?_, fun e => ?_, ?_, ?_, ?_, ?_, ?_, ?_, fun _ => by omega, ?_⟩
  · have e : c.open_.st = 1 := e
    rw [if_pos e] at o2
    exact ⟨unqB_append _ _ _ (Nat.le_refl _) o2 hit, by intro hh; rw [List.append_eq_nil_iff] at hh; exact hne hh.2⟩
  · have e : c.open_.st = 2 := e
    rcases o1 with o1 | ⟨o1, _⟩ <;> omega
  · show ∀ w ∈ c.open_.words, okw w = true; rw [o3]; exact h.ws
  · show c.open_.words.length ≤ 64; rw [o3]; exact h.wl
  · show ∀ e ∈ c.open_.out, okE e; rw [o4]; exact h.out
  · show eroom c.open_.out + wroom c.open_.words + croom { c.open_ with cur := c.open_.cur ++ it } + 5 * r2.length ≤ K
    rw [o3, o4]
    have : croom { c.open_ with cur := c.open_.cur ++ it } ≤ croom c.open_ + it.length := by
      unfold croom; dsimp only; rw [List.length_append]; split <;> (try split) <;> omega
    omega
  · show 1 ≤ c.open_.line; rw [o5]; exact h.lo
  · show r2 ≠ [] → c.open_.line - 1 + linesOf r2 = tot; rw [o5]; exact hrest
  · exact fun e => o8 e
theorem inv_qu {tot : Int} {K : Nat} {b : UInt8} {r r2 : List UInt8} {c : Sc} {it : List UInt8} (h : Inv tot K (b :: r) c) (h2 : c.st = 2) (hit : quoB it = true) (hk : it.length + 5 * r2.length ≤ 5 * r.length + 5)
    (hrest : r2 ≠ [] → c.line - 1 + linesOf r2 = tot) : Inv tot K r2 { c with cur := c.cur ++ it } := by
  have hl := h.line
  have hroom := h.room
  simp only [List.length_cons] at hroom
  refine ⟨fun e => ?_, fun _ => quoB_append _ _ _ (Nat.le_refl _) (h.qu h2) hit, h.ws, h.wl, h.out, ?_, h.lo, hrest, fun _ => by omega, h.beg⟩
  · have e : c.st = 1 := e
    omega
  · show eroom c.out + wroom c.words + croom { c with cur := c.cur ++ it } + 5 * r2.length ≤ K
    have : croom { c with cur := c.cur ++ it } ≤ croom c + it.length := by
      unfold croom; dsimp only; rw [List.length_append]; split <;> (try split) <;> omega
    omega
theorem rest_two {tot : Int} {b x : UInt8} {r : List UInt8} {l : Int} (h : l - 1 + linesOf (b :: x :: r) = tot) (hb : ¬ b = 10) (hx : ¬ x = 10) (hr : r ≠ []) : l - 1 + linesOf r = tot := by
  have h1 := rest_cons h (by simp)
  rw [if_neg hb] at h1
  have h2 := rest_cons h1 hr
  rw [if_neg hx] at h2
  exact h2
theorem inv_pend {tot : Int} {K : Nat} {c : Sc} (h : Inv tot K [] c) : Told tot K (pend tot c) := by
  have key : ∀ c : Sc, Inv tot K [] c → ¬ c.st = 1 → Told tot K (pend tot c) := by
    intro c h h1
    by_cases hd : c.st = 2 ∨ 0 < c.deep
    · rw [pend_deep tot c h1 hd]
      have := h.tt (by rcases hd with e | e; right; omega; left; omega)
      exact .inr ⟨rfl, .inl rfl, this, Int.le_refl _⟩
    · rw [pend_done tot c h1 hd]
      have h3 : croom c = 0 := by unfold croom; rw [if_neg h1, if_neg (fun e => hd (.inl e))]
      have hi : Inv tot K [] { c with st := 0 } := by
        refine ⟨fun e => absurd e (by simp), fun e => absurd e (by simp), h.ws, h.wl, h.out, ?_, h.lo, h.rest, fun e => h.tt (by rcases e with e | e; exact .inl e; exact absurd rfl e), fun e => by rcases e with e | e <;> exact absurd e (by simp)⟩
        have := h.room
        show eroom c.out + wroom c.words + croom { c with st := 0 } + _ ≤ K
        have e2 : croom { c with st := 0 } = 0 := rfl
        omega
      have he := inv_entry hi rfl
      refine .inl ⟨rfl, he.out, ?_⟩
      have := he.room
      show eroom (Sc.out (Sc.entry { c with st := 0 })) ≤ K
      omega
  by_cases h1 : c.st = 1
  · cases hw : c.word with
    | error x =>
      rw [pend_full tot c x h1 hw, word_x hw]
      have := h.beg (.inl h1)
      exact .inr ⟨rfl, .inr rfl, this.1, this.2⟩
    | ok c2 =>
      rw [pend_word tot c c2 h1 hw]
      exact key _ (inv_word h (.inl h1) hw 0 (.inl rfl)) (by simp)
  · exact key c h h1
theorem told_rule (tot : Int) (K : Nat) : Rule tot (Inv tot K) (Told tot K) where
  done := fun c h => inv_pend h
  see := fun b r c h => inv_see h
  bad := fun b r c h => .inr ⟨rfl, .inl rfl, h.line⟩
  badt := fun b r c h => by have := h.line; exact .inr ⟨rfl, .inl rfl, by show 1 ≤ tot; omega, Int.le_refl _⟩
  endx := fun b r c x h hf he => by
    by_cases h1 : c.st = 1
    · cases hw : c.word with
      | error y =>
        rw [ends_full b c y h1 hw] at he
        cases he
        rw [word_x hw]
        have := h.beg (.inl h1)
        exact .inr ⟨rfl, .inr rfl, this.1, this.2⟩
      | ok c2 =>
        rw [ends_word b c c2 h1 hw] at he
        have h3 := (word_ok hw).1
        have hl := (word_ok hw).2.1
        obtain ⟨hx, _⟩ := mark_x (by omega) he
        rw [hx, ← hl]
        exact .inr ⟨rfl, .inl rfl, h.line⟩
    · rw [ends_mark b c h1] at he
      by_cases h4 : c.st = 4 → b = 10
      · obtain ⟨hx, _⟩ := mark_x h4 he
        rw [hx]
        exact .inr ⟨rfl, .inl rfl, h.line⟩
      · have hx : x = (230, c.line) := by
          have hs : c.st = 4 := Classical.byContradiction fun e => h4 fun e2 => absurd e2 e
          have hb : ¬ b = 10 := fun e => h4 fun _ => e
          have e4 : (c.st == 4) = true := by rw [beq_iff_eq]; exact hs
          have hb1 : (b != 10) = true := by rw [bne_iff_ne]; exact hb
          have hb2 : (b == 10) = false := by rw [beq_eq_false_iff_ne]; exact hb
          unfold Sc.mark at he
          simp only [e4, hb1, hb2, Bool.and_true, if_true, Bool.false_eq_true, if_false] at he
          repeat' split at he
          all_goals first | (cases he; rfl) | cases he
        rw [hx]
        exact .inr ⟨rfl, .inl rfl, h.line⟩
  wordx := fun b r c x h h2 he => by
    rw [word_x he]
    have := h.beg (.inr h2)
    exact .inr ⟨rfl, .inr rfl, this.1, this.2⟩
  remark := fun b r c h h4 hb => inv_next h hb
  ends := fun b r c c2 h hf h2 he => by
    by_cases h1 : c.st = 1
    · cases hw : c.word with
      | error y => rw [ends_full b c y h1 hw] at he; cases he
      | ok c3 =>
        rw [ends_word b c c3 h1 hw] at he
        have h0 := inv_word h (.inl h1) hw 0 (.inl rfl)
        have h3 := (word_ok hw).1
        refine inv_mark h0 (by simp) (by simp) ?_
        rw [← he]
        have e4 : (c3.st == 4) = false := by rw [beq_eq_false_iff_ne]; omega
        simp [Sc.mark, e4]
    · rw [ends_mark b c h1] at he
      by_cases h4 : c.st = 4 → b = 10
      · exact inv_mark h ⟨h1, h2⟩ h4 he
      · have hs : c.st = 4 := Classical.byContradiction fun e => h4 fun e2 => absurd e2 e
        have hb : ¬ b = 10 := fun e => h4 fun _ => e
        have e4 : (c.st == 4) = true := by rw [beq_iff_eq]; exact hs
        have hb1 : (b != 10) = true := by rw [bne_iff_ne]; exact hb
        have hb2 : (b == 10) = false := by rw [beq_eq_false_iff_ne]; exact hb
        unfold Sc.mark at he
        simp only [e4, hb1, hb2, Bool.and_true, if_true, Bool.false_eq_true, if_false] at he
        have e0 : ∀ n d, { c with st := n, deep := d } = ({ c with st := n, deep := d } : Sc) := fun _ _ => rfl
        repeat' split at he
        all_goals first
          | (cases he; exact inv_next (inv_st h ⟨h1, h2⟩ 4 c.deep (by decide)) hb)
          | (cases he; exact inv_next h hb)
          | (cases he; have hz := inv_next (inv_st h ⟨h1, h2⟩ c.st (c.deep + 1) ⟨h1, h2⟩) hb; exact hz)
          | (cases he; have hz := inv_next (inv_st h ⟨h1, h2⟩ c.st (c.deep - 1) ⟨h1, h2⟩) hb; exact hz)
          | cases he
  quote := fun r c c2 h hf h2 hw => inv_next (inv_word h (.inr h2) hw 3 (.inr rfl)) (by decide)
  qbyte := fun b r c h hf h2 h34 h10 h92 => inv_qu h h2 (by simp [quoB, h34, h10, h92]) (by simp; omega) (fun hr => by have := rest_cons (h.rest (by simp)) hr; rw [if_neg h10] at this; exact this)
  qpair := fun x r c h hf h2 hx => inv_qu h h2 (by simp [quoB, hx]) (by simp; omega) (fun hr => rest_two (h.rest (by simp)) (by decide) hx hr)
  opens := fun r c h hf h1 h2 h4 => by
    have hl := h.line
    have hroom := h.room
    simp only [List.length_cons] at hroom
    have e1 : croom c = 0 := by unfold croom; rw [if_neg h1, if_neg h2]
    refine ⟨fun e => absurd e (by simp), fun _ => rfl, h.ws, h.wl, h.out, ?_, h.lo, fun hr => by have := rest_cons (h.rest (by simp)) hr; rw [if_neg (by decide)] at this; exact this, fun _ => by omega, fun _ => hl⟩
    show eroom c.out + wroom c.words + (if (2 : Nat) = 1 then _ else if (2 : Nat) = 2 then ([] : List UInt8).length + 4 else 0) + 5 * r.length ≤ K
    rw [if_neg (by decide), if_pos rfl]
    simp only [List.length_nil]
    omega
  byte := fun b r c h hf h2 h4 hs h34 h92 => inv_un h h2 h4 (by simp [unqB, hs, h34, h92]) (by simp) (by simp; omega) (fun hr => by
    have h10 : ¬ b = 10 := by rintro rfl; exact absurd hs (by decide)
    have := rest_cons (h.rest (by simp)) hr; rw [if_neg h10] at this; exact this)
  pair := fun x r c h hf h2 h4 hx => inv_un h h2 h4 (by simp [unqB, hx]) (by simp) (by simp; omega) (fun hr => rest_two (h.rest (by simp)) (by decide) hx hr)
/-- whatever text is read: its words stand alone; faults lie in its lines -/
theorem pEnt_told (s : List UInt8) (hs : s.length ≤ 65536) : Told (linesOf s) (5 * s.length) (pEnt s) := by
  unfold pEnt
  rw [if_neg (by omega)]
  refine prun_rule (told_rule _ _) s.length s sc0 (Nat.le_refl _) ⟨fun e => absurd e (by decide), fun e => absurd e (by decide), fun w hw => absurd hw (by simp [sc0]), by decide, fun e he => absurd he (by simp [sc0]), ?_, by decide, fun _ => ?_, fun e => by rcases e with e | e <;> exact absurd rfl e, fun e => by rcases e with e | e <;> exact absurd e (by decide)⟩
  · show 0 + 0 + 0 + 5 * s.length ≤ 5 * s.length; omega
  · show (1 : Int) - 1 + linesOf s = linesOf s; omega
end Go.Proofs.YtojdjhicjhhblaaDoor
