/- What ScanBack needs: Lines once more, quiet; lines of entries of the call's own are set; what joins is read. -/
import Derived.Test.YtojdjhicjhhblaaDoorJnF
namespace Go.Proofs.YtojdjhicjhhblaaDoor
open Go Go.RowKit
set_option maxHeartbeats 8000000 in
set_option maxRecDepth 100000 in
theorem lines_q (w : World) (s : List UInt8) (hlen : s.length ≤ 70000) : Calls Tryd.prog 35 #[.string (mk s)] w fun e w' => e = .returned (.int .i64 (linesOf s)) ∧ w' = w := by
  have hle := linesOf_le s
  have hc := Lib.hid (Tryd.strings_Count_one (mk s) 10 w)
  have e1 : Lib.countByte (mk s).data.toList 10 = s.count 10 := rfl
  rw [e1] at hc
  have hcl : s.count 10 ≤ s.length := List.count_le_length
  generalize hcc : s.count 10 = cc at *
  by_cases h0 : s = []
  · subst h0
    have hc0 : cc = 0 := hcc.symm
    subst hc0
    clear hcc hle hcl hlen
    go_enter Tryd.func35, Tryd.ntmps35
    go_wp2_with fail
    refine hc.out.mono ?_
    rintro e w1 ⟨rfl, rfl⟩
    clear hc
    go_wp2_with fail
    go_ret
    exact ⟨rfl, rfl⟩
  · obtain ⟨r, x, rfl⟩ : ∃ r x, s = r ++ [x] := ⟨s.dropLast, s.getLast h0, (List.dropLast_concat_getLast h0).symm⟩
    have hL : (r ++ [x]).length = r.length + 1 := by simp
    have hgx : ∀ h : r.length < (r ++ [x]).length, (r ++ [x])[r.length]'h = x := fun h => by simp
    have hcI : (cc : Int) ≤ 70000 := by omega
    have hrI : (r.length : Int) ≤ 70000 := by omega
    have hem : (r ++ [x]).isEmpty = false := by cases r <;> rfl
    have hne0 : ((r ++ [x]) == []) = false := by rw [beq_eq_false_iff_ne]; exact h0
    by_cases hl : x = 10
    · have hl2 : (r ++ [x]).getLast? = some 10 := by rw [hl]; simp
      rw [linesOf_nl _ hl2, hcc]
      have hxI : ((x.toNat : Int) == 10) = true := by rw [hl]; rfl
      have hxN : ((x.toNat : Int) != 10) = false := by rw [hl]; rfl
      have H1 := Lib.hid hL
      have H2 := Lib.hid hgx
      clear hl2 hl hcc hle hcl hlen hL hgx
      go_enter Tryd.func35, Tryd.ntmps35
      go_wp2_with fail
      refine hc.out.mono ?_
      rintro e w1 ⟨rfl, rfl⟩
      clear hc
      go_wp2_with fail
      go_ret
      exact ⟨rfl, rfl⟩
    · have hl2 : (r ++ [x]).getLast? = some 10 → False := by simp; exact hl
      rw [linesOf_no _ h0 hl2, hcc]
      have hxI : ((x.toNat : Int) == 10) = false := by rw [beq_eq_false_iff_ne]; intro h; exact hl (UInt8.toNat_inj.1 (by exact_mod_cast h))
      have hxN : ((x.toNat : Int) != 10) = true := by rw [bne_iff_ne]; intro h; exact hl (UInt8.toNat_inj.1 (by exact_mod_cast h))
      have H1 := Lib.hid hL
      have H2 := Lib.hid hgx
      clear hl2 hl hcc hle hcl hlen hL hgx
      go_enter Tryd.func35, Tryd.ntmps35
      go_wp2_with fail
      refine hc.out.mono ?_
      rintro e w1 ⟨rfl, rfl⟩
      clear hc
      go_wp2_with fail
      go_ret
      exact ⟨rfl, rfl⟩

/-- entries of the call's own, their lines may be set -/
structure OwnL (w : World) (b : Nat) (oa : Option Addr) (on oc : Nat) (L : List Ent) : Prop where
  ex : ∃ eds m, Own enE w b (.slice oa on oc) eds ∧ eds.length = on ∧ Ents w b m eds L ∧ m ≤ w.heap.size
theorem OwnEn.toL {w : World} {b : Nat} {oa : Option Addr} {on oc : Nat} {L : List Ent} (h : OwnEn w b oa on oc L) : OwnL w b oa on oc L := by
  obtain ⟨eds, m, h1, h2, h3, _, h5⟩ := h.ex
  exact ⟨eds, m, h1, h2, h3, h5⟩
theorem OwnL.rd {w : World} {b : Nat} {oa : Option Addr} {on oc : Nat} {L : List Ent} (h : OwnL w b oa on oc L) : RdEn w oa on oc L := by
  obtain ⟨eds, m, h1, h2, h3, _⟩ := h.ex
  exact ents_rd h1 h3
theorem OwnL.len {w : World} {b : Nat} {oa : Option Addr} {on oc : Nat} {L : List Ent} (h : OwnL w b oa on oc L) : L.length = on := h.rd.len
theorem OwnL.ext {w w' : World} {b : Nat} {oa : Option Addr} {on oc : Nat} {L : List Ent} (h : OwnL w b oa on oc L) (hb : Below w.heap.size w w') : OwnL w' b oa on oc L := by
  obtain ⟨eds, m, h1, h2, h3, h5⟩ := h.ex
  exact ⟨eds, m, h1.ext hb, h2, h3.keep fun k _ _ hC => hb.block k hC.lt, Nat.le_trans h5 hb.size⟩
theorem OwnL.lower {w : World} {b b' : Nat} {oa : Option Addr} {on oc : Nat} {L : List Ent} (h : OwnL w b oa on oc L) (hb : b' ≤ b) : OwnL w b' oa on oc L := by
  obtain ⟨eds, m, h1, h2, h3, h5⟩ := h.ex
  exact ⟨eds, m, h1.mono hb, h2, h3.lower hb, h5⟩
theorem row_set : ∀ (X : List ED) (i : Nat) (d : ED) (x : Int), X[i]? = some d → rowOf enE (X.set i { d with line := x }) = (rowOf enE X).set (i * 3) (.int .i64 x)
  | [], i, d, x, h => by simp at h
  | y :: r, 0, d, x, h => by
    simp only [List.getElem?_cons_zero, Option.some.injEq] at h
    subst h
    rfl
  | y :: r, i + 1, d, x, h => by
    have h1 := row_set r i d x (by simpa using h)
    have e1 : ∀ q : List ED, rowOf enE (y :: q) = enE.f y ++ rowOf enE q := fun q => rfl
    rw [List.set_cons_succ, e1, e1, h1]
    rw [List.set_append_right _ _ (by rw [enE.len]; show 3 ≤ _; omega), enE.len]
    show _ = _ ++ (rowOf enE r).set ((i + 1) * 3 - 3) _
    rw [show (i + 1) * 3 - 3 = i * 3 by omega]
/-- two lists of entries that differ in lines alone -/
def Like (A B : List Ent) : Prop := A.length = B.length ∧ ∀ (i : Nat) (a b : Ent), A[i]? = some a → B[i]? = some b → a.blank = b.blank ∧ a.words = b.words
theorem mix_get {A B : List Ent} (_ : Like A B) {i : Nat} (hi : i < A.length) : (A.take i ++ B.drop i)[i]? = B[i]? := by
  rw [List.getElem?_append_right (by simp; omega), List.getElem?_drop]
  congr 1; simp; omega
theorem mix_next {A B : List Ent} (h : Like A B) {i : Nat} {a : Ent} (ha : A[i]? = some a) : (A.take i ++ B.drop i).set i a = A.take (i + 1) ++ B.drop (i + 1) := by
  have hi : i < A.length := (List.getElem?_eq_some_iff.1 ha).1
  have hl : (A.take i).length = i := by simp; omega
  have hB : i < B.length := by have := h.1; omega
  rw [List.set_append_right _ _ (by omega), hl, Nat.sub_self, List.drop_eq_getElem_cons hB, List.set_cons_zero, at_take ha, List.append_assoc]
  rfl
theorem OwnL.step {w : World} {b : Nat} {oa : Option Addr} {on oc : Nat} {A B : List Ent} {i : Nat} {a : Ent} (h : OwnL w b oa on oc (A.take i ++ B.drop i)) (hAB : Like A B) (ha : A[i]? = some a) :
    ∃ g, oa = some ⟨g, 0, none⟩ ∧ b ≤ g ∧ g < w.heap.size ∧ (∃ x, w.cell? ⟨g, i * 3, none⟩ = some (.int .i64 x)) ∧ w.frozen? ⟨g, i * 3, none⟩ = false ∧ (∃ C, Blk w g 34 (0, 0) C) ∧
      OwnL (w.setCell ⟨g, i * 3, none⟩ (.int .i64 a.line)) b oa on oc (A.take (i + 1) ++ B.drop (i + 1)) := by
  have hi : i < A.length := (List.getElem?_eq_some_iff.1 ha).1
  have hiB : i < B.length := by have := hAB.1; omega
  have hl := h.len
  have hon : on = A.length := by rw [← hl]; have := hAB.1; simp; omega
  obtain ⟨eds, m, h1, h2, h3, h5⟩ := h.ex
  rcases h1 with ⟨e1, rfl⟩ | ⟨g, cap, X, e1, hg, hB, hX, hle, hm, ht⟩
  · simp only [List.length_nil] at h2; omega
  have e2 := e1
  simp only [Value.slice.injEq] at e2
  obtain ⟨rfl, e3, rfl⟩ := e2
  have hiX : i < X.length := by omega
  have hd : X[i]? = some X[i] := List.getElem?_eq_getElem hiX
  have hde : eds[i]? = some X[i] := by rw [← ht, List.getElem?_take, if_pos (by omega), hd]
  have hdl : i < eds.length := by omega
  have hb' : B[i]? = some B[i] := List.getElem?_eq_getElem hiB
  have hmx := mix_get hAB hi
  have hc : w.cell? ⟨g, i * 3, none⟩ = some (.int .i64 (X[i]).line) := by
    have h0 := rowOf_get enE X i 0 hiX (by decide)
    rw [hB.cell]
    exact h0
  refine ⟨g, rfl, hg, hB.lt, ⟨_, hc⟩, by rw [hB.frozen]; simp, ⟨_, hB⟩, ?_⟩
  have hB2 : Blk (w.setCell ⟨g, i * 3, none⟩ (.int .i64 a.line)) g enE.e (0, 0) (rowOf enE (X.set i { X[i] with line := a.line })) := by
    rw [row_set X i _ _ hd]; exact hB.set _ _
  have hkeep : Ents (w.setCell ⟨g, i * 3, none⟩ (.int .i64 a.line)) b m eds (A.take i ++ B.drop i) := h3.keep fun k C _ hC => Below.heap_setCell _ _ _ _ (fun e => by
    have e4 : k = g := e
    subst e4
    have := blk_type hB hC
    exact absurd this (by decide))
  refine ⟨eds.set i { X[i] with line := a.line }, m, Or.inr ⟨g, _, X.set i { X[i] with line := a.line }, by rw [List.length_set]; exact e1, hg, hB2, by rw [List.length_set]; exact hX, by rw [List.length_set]; exact hle, hm, ?_⟩, by rw [List.length_set]; exact h2, ?_, by simpa using h5⟩
  · rw [List.length_set, List.take_set, ht]
  · rw [← mix_next hAB ha]
    refine ⟨by rw [List.length_set, List.length_set]; exact hkeep.1, fun j d e hdj hej => ?_⟩
    by_cases hj : j = i
    · subst hj
      rw [List.getElem?_set_self hdl] at hdj
      rw [List.getElem?_set_self (by rw [← hkeep.1]; exact hdl)] at hej
      obtain rfl := Option.some.inj hdj
      obtain rfl := Option.some.inj hej
      obtain ⟨q1, q2, q3, q4⟩ := hkeep.2 j _ _ hde (hmx.trans hb')
      obtain ⟨l1, l2⟩ := hAB.2 j a _ ha hb'
      exact ⟨rfl, q2.trans l1.symm, by rw [l2]; exact q3, q4⟩
    · rw [List.getElem?_set_ne (Ne.symm hj)] at hdj hej
      exact hkeep.2 j d e hdj hej
theorem relin_get : ∀ (L : List Ent) (l : Int) (i : Nat), (relin l L)[i]? = (L[i]?).map fun e => ⟨l + i, e.blank, e.words⟩
  | [], l, i => by simp [relin]
  | e :: r, l, 0 => by simp [relin]
  | e :: r, l, i + 1 => by
    simp only [relin, List.getElem?_cons_succ]
    rw [relin_get r (l + 1) i]
    congr 1
    funext e
    simp; omega
theorem relin_len : ∀ (L : List Ent) (l : Int), (relin l L).length = L.length
  | [], l => rfl
  | e :: r, l => by simp only [relin, List.length_cons, relin_len r (l + 1)]
theorem relin_like (L : List Ent) (l : Int) : Like (relin l L) L := ⟨relin_len L l, fun i a b ha hb => by
  rw [relin_get, hb] at ha
  obtain rfl := Option.some.inj ha
  exact ⟨rfl, rfl⟩⟩
theorem Like.symm {A B : List Ent} (h : Like A B) : Like B A := ⟨h.1.symm, fun i a b ha hb => ⟨(h.2 i b a hb ha).1.symm, (h.2 i b a hb ha).2.symm⟩⟩
theorem joinR_ok {L : List Ent} (h : (joinR L).2 = 0) : joinR L = (jtext L, 0) ∧ ∀ e ∈ L, okE e := by
  unfold joinR at h ⊢
  cases hb : badL L with
  | true => rw [hb] at h; simp at h
  | false =>
    cases hm : manyL L with
    | true => rw [hb, hm] at h; simp at h
    | false =>
      refine ⟨by simp, fun e he => ?_⟩
      have h1 : badE e = false := by
        have := List.any_eq_false.1 hb e he
        simpa using this
      have h2 : ¬ 64 < e.words.length := by
        have := List.any_eq_false.1 hm e he
        simpa using this
      unfold badE at h1
      rw [Bool.or_eq_false_iff] at h1
      refine ⟨fun w hw => ?_, fun hn => ?_, by omega⟩
      · have := List.any_eq_false.1 h1.2 w hw
        simpa using this
      · rw [hn] at h1; simp at h1
theorem joinR_of {L : List Ent} (h : ∀ e ∈ L, okE e) : joinR L = (jtext L, 0) := by
  have hb : badL L = false := List.any_eq_false.2 fun e he => by
    obtain ⟨h1, h2, h3⟩ := h e he
    have e1 : badE e = false := by
      unfold badE
      rw [Bool.or_eq_false_iff]
      refine ⟨by cases hw : e.words with | nil => exact absurd hw h2 | cons a r => rfl, List.any_eq_false.2 fun w hw => by rw [h1 w hw]; simp⟩
    rw [e1]; simp
  have hm : manyL L = false := List.any_eq_false.2 fun e he => by
    obtain ⟨h1, h2, h3⟩ := h e he
    simp; omega
  unfold joinR
  rw [hb, hm]; rfl
theorem wroom_mem {l : List Trm} {w : Trm} (h : w ∈ l) : w.1.length + 4 ≤ wroom l := by
  induction l with
  | nil => simp at h
  | cons x r ih =>
    simp only [wroom]
    rcases List.mem_cons.1 h with rfl | h
    · omega
    · have := ih h; omega
theorem eroom_mem {L : List Ent} {e : Ent} (h : e ∈ L) : wroom e.words ≤ eroom L := by
  induction L with
  | nil => simp at h
  | cons x r ih =>
    simp only [eroom]
    rcases List.mem_cons.1 h with rfl | h
    · omega
    · have := ih h; omega
theorem wroom_text (l : List Trm) : (wtext l).length + l.length ≤ wroom l := by
  induction l with
  | nil => simp [wtext, wroom]
  | cons x r ih =>
    have := shownL_len x
    simp only [wtext, wroom, List.length_append, List.length_cons]
    cases hr : r.isEmpty with
    | true => simp at hr; subst hr; simp; omega
    | false => simp only [Bool.false_eq_true, if_false, List.length_cons]; omega
theorem eroom_text {L : List Ent} (h : ∀ e ∈ L, okE e) : (jtext L).length + L.length ≤ 2 * eroom L := by
  induction L with
  | nil => simp [jtext, eroom]
  | cons e r ih =>
    have h1 := wroom_text e.words
    have h3 := ih (fun x hx => h x (List.mem_cons_of_mem _ hx))
    have h4 : (ltext e).length ≤ 1 + (wtext e.words).length := by unfold ltext; cases e.blank <;> simp; omega
    have h5 : 4 ≤ wroom e.words := by
      have h6 := (h e (by simp)).2.1
      cases hw : e.words with
      | nil => exact absurd hw h6
      | cons a q => simp only [wroom]; omega
    simp only [jtext, etext, eroom, List.length_append, List.length_cons, List.length_nil]
    omega
theorem fits_read {L : List Ent} (h : ∀ e ∈ L, okE e) (hr : eroom L ≤ 15000) : Fits L := by
  have ht := eroom_text h
  refine ⟨?_, fun e he => ?_, fun e he w hw => ?_, by omega⟩
  · have : 4 * L.length ≤ eroom L := by
      clear ht hr
      induction L with
      | nil => simp
      | cons e r ih =>
        have h3 := ih (fun x hx => h x (List.mem_cons_of_mem _ hx))
        have h6 := (h e (by simp)).2.1
        simp only [eroom, List.length_cons]
        cases hw : e.words with
        | nil => exact absurd hw h6
        | cons a q => simp only [wroom]; omega
    omega
  · have := (h e he).2.2; omega
  · have h1 := wroom_mem hw
    have h2 := eroom_mem he
    omega
end Go.Proofs.YtojdjhicjhhblaaDoor
