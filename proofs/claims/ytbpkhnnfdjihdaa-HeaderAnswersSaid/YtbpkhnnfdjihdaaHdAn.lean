/- header.Answers 20 with slices.EqualFunc 36 and the closure 37, over questions that lie in memory. -/
import Derived.Test.YtbpkhnnfdjihdaaNameB
import Derived.Test.YtbpkhnnfdjihdaaHdBy
namespace Go.Proofs.Ytbpkhnnfdjihdaa
open Go Go.RowKit
/-- a question that lies at a place -/
def Qst (w : World) (b o : Nat) (q : Nm × Int × Int) : Prop := ∃ an nn cn, w.cell? ⟨b, o, none⟩ = some (.slice an nn cn) ∧ Nmd w an nn cn q.1 ∧ w.cell? ⟨b, o + 1, none⟩ = some (.int .u16 q.2.1) ∧ w.cell? ⟨b, o + 2, none⟩ = some (.int .u16 q.2.2)
structure QsL (w : World) (a : Option Addr) (n c : Nat) (L : List (Nm × Int × Int)) : Prop where
  len : L.length = n
  few : n ≤ 1000000
  cells : 0 < n → ∃ b o, a = some ⟨b, o, none⟩ ∧ b < w.heap.size ∧ ∀ j (hj : j < L.length), Qst w b (o + j * 3) L[j]
theorem Qst.ext {w w' : World} {b o : Nat} {q : Nm × Int × Int} (h : Qst w b o q) (hb : b < w.heap.size) (hB : Below w.heap.size w w') : Qst w' b o q := by
  obtain ⟨an, nn, cn, h1, h2, h3, h4⟩ := h
  exact ⟨an, nn, cn, (hB.cell (p := ⟨b, o, none⟩) hb).trans h1, h2.ext hB, (hB.cell (p := ⟨b, o + 1, none⟩) hb).trans h3, (hB.cell (p := ⟨b, o + 2, none⟩) hb).trans h4⟩
theorem QsL.ext {w w' : World} {a : Option Addr} {n c : Nat} {L : List (Nm × Int × Int)} (h : QsL w a n c L) (hB : Below w.heap.size w w') : QsL w' a n c L :=
  ⟨h.len, h.few, fun h0 => by
    obtain ⟨b, o, h1, h2, h3⟩ := h.cells h0
    exact ⟨b, o, h1, Nat.lt_of_lt_of_le h2 hB.size, fun j hj => (h3 j hj).ext h2 hB⟩⟩
def qSame (q q' : Nm × Int × Int) : Bool := decide (q.2.1 = q'.2.1) && decide (q.2.2 = q'.2.2) && sameL q.1 q'.1
set_option maxRecDepth 100000 in
set_option maxHeartbeats 2000000 in
theorem q_same {w : World} {a a' : Option Addr} {n c n' c' : Nat} {l l' : Nm} (h : Nmd w a n c l) (h' : Nmd w a' n' c' l') (t k t' k' : Int) :
    Calls Try.prog 37 #[.agg #[.slice a n c, .int .u16 t, .int .u16 k], .agg #[.slice a' n' c', .int .u16 t', .int .u16 k']] w fun e w' => e = .returned (.bool (qSame (l, t, k) (l', t', k'))) ∧ Below w.heap.size w w' := by
  have hb : Below w.heap.size w ((w.alloc (.cells #[.slice a n c, .int .u16 t, .int .u16 k] 50)).alloc (.cells #[.slice a' n' c', .int .u16 t', .int .u16 k'] 50)) := ((Below.refl _ _).alloc (Nat.le_refl _) _).alloc (by simp) _
  have hH := Lib.hid (h.ext hb)
  have hH' := Lib.hid (h'.ext hb)
  have hb' := Lib.hid hb
  clear h h' hb
  unfold qSame
  by_cases e1 : t = t'
  · rw [decide_eq_true e1]
    by_cases e2 : k = k'
    · rw [decide_eq_true e2]
      subst e1 e2
      go_enter Try.func37, Try.ntmps37
      go_wp2_with (go_at_call 38; refine (nm_same hH.out hH'.out).mono ?_; rintro e w1 ⟨rfl, hb1⟩)
      go_ret
      exact ⟨rfl, hb'.out.trans (hb1.mono hb'.out.size)⟩
    · rw [decide_eq_false e2]
      subst e1
      have e3 : (k == k') = false := by simp [e2]
      go_enter Try.func37, Try.ntmps37
      go_wp2_with fail
      go_ret
      exact ⟨by simp, hb'.out⟩
  · rw [decide_eq_false e1]
    have e3 : (t == t') = false := by simp [e1]
    go_enter Try.func37, Try.ntmps37
    go_wp2_with fail
    go_ret
    exact ⟨by simp, hb'.out⟩
/-- all pairs up to k are the same -/
def qsUp (L L' : List (Nm × Int × Int)) (k : Nat) : Bool := (List.range k).all fun j => match L[j]?, L'[j]? with
  | some q, some q' => qSame q q'
  | _, _ => false
def qsSame (L L' : List (Nm × Int × Int)) : Bool := decide (L.length = L'.length) && qsUp L L' L.length
theorem qsUp_step {L L' : List (Nm × Int × Int)} {k : Nat} (h : k < L.length) (h' : k < L'.length) : qsUp L L' (k + 1) = (qsUp L L' k && qSame L[k] L'[k]) := by
  unfold qsUp
  rw [List.range_succ, List.all_append, List.all_cons, List.all_nil, Bool.and_true, List.getElem?_eq_getElem h, List.getElem?_eq_getElem h']
theorem qsUp_le {L L' : List (Nm × Int × Int)} {k m : Nat} (h : qsUp L L' k = false) (hm : k ≤ m) : qsUp L L' m = false := by
  unfold qsUp at h ⊢
  rw [List.all_eq_false] at h ⊢
  obtain ⟨x, hx, hy⟩ := h
  exact ⟨x, List.mem_range.2 (Nat.lt_of_lt_of_le (List.mem_range.1 hx) hm), hy⟩
set_option maxRecDepth 100000 in
set_option maxHeartbeats 2000000 in
theorem qs_eq {w : World} {a a' : Option Addr} {n c n' c' : Nat} {L L' : List (Nm × Int × Int)} (h : QsL w a n c L) (h' : QsL w a' n' c' L') :
    Calls Try.prog 36 #[.slice a n c, .slice a' n' c', .func (.func 37) #[] #[]] w fun e w' => e = .returned (.bool (qsSame L L')) ∧ Below w.heap.size w w' := by
  have hl := h.len
  have hl' := h'.len
  have hf := h.few
  have hH := Lib.hid h
  have hH' := Lib.hid h'
  clear h h'
  by_cases e : n = n'
  · subst e
    have hq : qsSame L L' = qsUp L L' n := by unfold qsSame; rw [hl, hl', decide_eq_true rfl, Bool.true_and]
    rw [hq]
    clear hq
    go_enter Try.func36, Try.ntmps36
    go_wp2_with fail
    go_loopw [17] (fun i wr => ∃ k : Nat, k ≤ n ∧ i = .int .i64 k ∧ qsUp L L' k = true ∧ Below w.heap.size w wr) (fun i _ => n - (intOf i).toNat)
    case atStart => exact ⟨0, Nat.zero_le _, rfl, rfl, Below.refl _ _⟩
    case round =>
      obtain ⟨k, hk, rfl, hu, hb⟩ := hrel
      by_cases hlt : k < n
      · have hkI : (k : Int) < n := by omega
        obtain ⟨b, o, rfl, hbz, hc⟩ := (hH.out.ext hb).cells (by omega)
        obtain ⟨b', o', rfl, hbz', hc'⟩ := (hH'.out.ext hb).cells (by omega)
        obtain ⟨an, nn, cn, q1, q2, q3, q4⟩ := hc k (by omega)
        obtain ⟨an', nn', cn', r1, r2, r3, r4⟩ := hc' k (by omega)
        have hst := qsUp_step (L := L) (L' := L') (k := k) (by omega) (by omega)
        clear hc hc'
        generalize L[k]'(by omega) = q at *
        generalize L'[k]'(by omega) = q' at *
        obtain ⟨l, t, s⟩ := q
        obtain ⟨l', t', s'⟩ := q'
        have hb0 : Below wr.heap.size wr ((wr.alloc (.cells #[.slice an nn cn, .int .u16 t, .int .u16 s] 50)).alloc (.cells #[.slice an' nn' cn', .int .u16 t', .int .u16 s'] 50)) := ((Below.refl _ _).alloc (Nat.le_refl _) _).alloc (by simp) _
        have q2' := Lib.hid (q2.ext hb0)
        have r2' := Lib.hid (r2.ext hb0)
        have hst' := Lib.hid hst
        have hu' := Lib.hid hu
        have hb' := Lib.hid (hb.trans (hb0.mono hb.size))
        clear hst hu hb q2 r2 hb0
        go_wp2_with fail
        refine (q_same q2'.out r2'.out t s t' s').mono ?_
        rintro e w1 ⟨rfl, hb1⟩
        have hb2 := Lib.hid (hb'.out.trans (hb1.mono hb'.out.size))
        have hst := hst'.out
        rw [hu'.out, Bool.true_and] at hst
        clear hb1 hb' q2' r2' hst' hu' q1 q3 q4 r1 r3 r4
        cases hq : qSame (l, t, s) (l', t', s')
        · rw [hq] at hst
          have hst := Lib.hid hst
          go_wp2_with fail
          go_ret
          exact ⟨by rw [qsUp_le hst.out (by omega)]; rfl, hb2.out⟩
        · rw [hq] at hst
          have hst := Lib.hid hst
          go_wp2_with fail
          go_roundw
          case rel => exact ⟨k + 1, by omega, by go_num, hst.out, hb2.out⟩
          case measure => simp [intOf]; omega
      · have hk' : k = n := by omega
        subst hk'
        have hu' := Lib.hid hu
        clear hu
        go_wp2_with fail
        go_ret
        exact ⟨by rw [hu'.out]; rfl, hb⟩
  · have hq : qsSame L L' = false := by unfold qsSame; rw [hl, hl', decide_eq_false e, Bool.false_and]
    rw [hq]
    clear hq
    have hne : ¬ (n : Int) = (n' : Int) := by omega
    go_enter Try.func36, Try.ntmps36
    go_wp2_with fail
    go_ret
    exact ⟨rfl, Below.refl _ _⟩
def ansB (id id' op op' : Int) (F F' : Nat → Bool) (L L' : List (Nm × Int × Int)) : Bool := F 6 && !F' 6 && decide (id = id') && decide (op = op') && qsSame L L'
set_option maxRecDepth 100000 in
set_option maxHeartbeats 4000000 in
theorem answers_any {w : World} (id id' : Nat) (op rc op' rc' : Int) (F F' : Nat → Bool) {a a' : Option Addr} {n c n' c' : Nat} {L L' : List (Nm × Int × Int)} (h : QsL w a n c L) (h' : QsL w a' n' c' L') (s1 s2 s3 r1 r2 r3 : Value) :
    Calls Try.prog 20 #[mV id op rc F (.slice a n c) s1 s2 s3, mV id' op' rc' F' (.slice a' n' c') r1 r2 r3] w fun e w' => e = .returned (.bool (ansB id id' op op' F F' L L')) ∧ Below w.heap.size w w' := by
  have hb : Below w.heap.size w ((w.alloc (.cells #[.int .u16 (id : Int), .bool (F 6), .int .i64 op, .bool (F 5), .bool (F 4), .bool (F 3), .bool (F 2), .bool (F 1), .bool (F 0), .int .i64 rc, .slice a n c, s1, s2, s3] 28)).alloc (.cells #[.int .u16 (id' : Int), .bool (F' 6), .int .i64 op', .bool (F' 5), .bool (F' 4), .bool (F' 3), .bool (F' 2), .bool (F' 1), .bool (F' 0), .int .i64 rc', .slice a' n' c', r1, r2, r3] 28)) := ((Below.refl _ _).alloc (Nat.le_refl _) _).alloc (by simp) _
  have hH := Lib.hid (h.ext hb)
  have hH' := Lib.hid (h'.ext hb)
  have hb' := Lib.hid hb
  clear h h' hb
  unfold ansB mV
  generalize F 6 = x1 at *
  generalize F' 6 = y1 at *
  cases x1
  · go_enter Try.func20, Try.ntmps20
    go_wp2_with fail
    go_ret
    exact ⟨by simp, hb'.out⟩
  · cases y1
    · by_cases e3 : (id : Int) = (id' : Int)
      · rw [decide_eq_true e3]
        have e3' : (((id : Nat) : Int) == ((id' : Nat) : Int)) = true := by simp; omega
        by_cases e4 : op = op'
        · rw [decide_eq_true e4]
          have e4' : (op == op') = true := by simp [e4]
          clear e3 e4
          go_enter Try.func20, Try.ntmps20
          go_wp2_with (go_at_call 36; refine (qs_eq hH.out hH'.out).mono ?_; rintro e w1 ⟨rfl, hb1⟩)
          go_ret
          exact ⟨by simp, hb'.out.trans (hb1.mono hb'.out.size)⟩
        · rw [decide_eq_false e4]
          have e4' : (op == op') = false := by simp [e4]
          clear e3 e4
          go_enter Try.func20, Try.ntmps20
          go_wp2_with fail
          go_ret
          exact ⟨by simp, hb'.out⟩
      · rw [decide_eq_false e3]
        have e3' : (((id : Nat) : Int) == ((id' : Nat) : Int)) = false := by simp; omega
        clear e3
        go_enter Try.func20, Try.ntmps20
        go_wp2_with fail
        go_ret
        exact ⟨by simp, hb'.out⟩
    · go_enter Try.func20, Try.ntmps20
      go_wp2_with fail
      go_ret
      exact ⟨by simp, hb'.out⟩
end Go.Proofs.Ytbpkhnnfdjihdaa
