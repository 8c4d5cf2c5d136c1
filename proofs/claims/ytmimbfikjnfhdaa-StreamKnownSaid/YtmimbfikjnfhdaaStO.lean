/- Both pipes at once. -/
import Derived.Test.YtmimbfikjnfhdaaStN
namespace Go.Proofs.Ytmimbfikjnfhdaa
open Go.RowKit
/-- the program's pipe holds L, the document's L'; block Q is none of theirs -/
def St (Q : Option Nat) (w : World) (m g : Nat) (most : Int) (L L' : List (Int × Int)) (n : Nat) : Prop :=
  ∃ o ro, PipP w m o most L n ∧ PipR w g ro most L' ∧ (∀ k, fp m o k → ¬ fr g ro k) ∧ (∀ k, fp m o k ∨ fr g ro k → Q ≠ some k ∧ m ≤ k ∧ k < w.heap.size)
theorem St.same {Q : Option Nat} {w w' : World} {m g : Nat} {most : Int} {L L' : List (Int × Int)} {n : Nat} (h : St Q w m g most L L' n) (hh : w'.heap = w.heap) : St Q w' m g most L L' n := by
  obtain ⟨o, ro, h1, h2, h3, h4⟩ := h
  have c : ∀ k : Nat, w'.heap[k]? = w.heap[k]? := fun k => by rw [hh]
  obtain ⟨v, a1, a2, a3, a4⟩ := h1
  obtain ⟨u, b1, b2, b3⟩ := h2
  exact ⟨o, ro, ⟨v, (c _).trans a1, a2.keep (fun k _ => c k), a3, a4.keep (c _)⟩, ⟨u, (c _).trans b1, b2.keep (fun k _ => c k), b3⟩, h3, fun k hk => by rw [hh]; exact h4 k hk⟩
theorem St.tch {Q Q' : Option Nat} {w w' : World} {m g : Nat} {most : Int} {L L' : List (Int × Int)} {n : Nat} {S : Nat → Prop} (h : St Q w m g most L L' n) (t : Tch S w w') (hS : ∀ k, m ≤ k → k < w.heap.size → Q ≠ some k → ¬ S k) (hQ : ∀ k, Q' = some k → w.heap.size ≤ k ∨ Q = some k) : St Q' w' m g most L L' n := by
  obtain ⟨o, ro, h1, h2, h3, h4⟩ := h
  refine ⟨o, ro, h1.tch t (fun k hk => ?_), h2.tch t (fun k hk => ?_), h3, fun k hk => ?_⟩
  · obtain ⟨a, b, c⟩ := h4 k (.inl hk); exact hS k b c a
  · obtain ⟨a, b, c⟩ := h4 k (.inr hk); exact hS k b c a
  · obtain ⟨a, b, c⟩ := h4 k hk
    refine ⟨fun e => ?_, b, Nat.lt_of_lt_of_le c t.size⟩
    rcases hQ k e with h | h
    · omega
    · exact a h
theorem St.ext {Q Q' : Option Nat} {w w' : World} {m g : Nat} {most : Int} {L L' : List (Int × Int)} {n : Nat} (h : St Q w m g most L L' n) (hb : Below w.heap.size w w') (hQ : ∀ k, Q' = some k → w.heap.size ≤ k ∨ Q = some k) : St Q' w' m g most L L' n :=
  h.tch (Tch.of_below (S := fun _ => False) hb) (fun _ _ _ _ => id) hQ
theorem St.size {Q : Option Nat} {w : World} {m g : Nat} {most : Int} {L L' : List (Int × Int)} {n : Nat} (h : St Q w m g most L L' n) : m ≤ w.heap.size := by
  obtain ⟨o, ro, h1, _, _, h4⟩ := h
  have := (h4 m (.inl (.inl rfl))).2.2
  omega
/-- what stays behind a step of one of the two -/
structure Kp (Q : Option Nat) (m : Nat) (w w' : World) : Prop where
  below : Below m w w'
  kept : ∀ q, Q = some q → q < w.heap.size → w'.heap[q]? = w.heap[q]?
theorem Kp.trans {Q : Option Nat} {m : Nat} {u v w : World} (h : Kp Q m u v) (k : Kp Q m v w) : Kp Q m u w :=
  ⟨h.below.trans k.below, fun q hq hl => (k.kept q hq (Nat.lt_of_lt_of_le hl h.below.size)).trans (h.kept q hq hl)⟩
theorem Kp.cell {Q : Option Nat} {m q i : Nat} {w w' : World} (h : Kp Q m w w') (hQ : Q = some q) {v : Value} (hc : w.cell? ⟨q, i, none⟩ = some v) : w'.cell? ⟨q, i, none⟩ = some v :=
  (World.cell?_of_block (w := w) (h.kept q hQ (World.block_lt_of_cell? w _ hc))).trans hc
theorem Kp.of_below {Q : Option Nat} {m : Nat} {w w' : World} (h : Below w.heap.size w w') (hm : m ≤ w.heap.size) : Kp Q m w w' := ⟨h.mono hm, fun q _ hl => h.block q hl⟩
theorem Kp.from {Q : Option Nat} {m : Nat} {w0 w w' : World} (h : Kp Q m w w') (h1 : w.heap = w0.heap) (h2 : w.os = w0.os) (h3 : w.tape = w0.tape) (h4 : w.output = w0.output) : Kp Q m w0 w' :=
  ⟨⟨h.below.os.trans h2, h.below.tape.trans h3, h.below.output.trans h4, by rw [← h1]; exact h.below.size, fun k hk => by rw [← h1]; exact h.below.block k hk⟩, fun q hq hl => by rw [← h1] at hl ⊢; exact h.kept q hq hl⟩
theorem St.stepP {Q : Option Nat} {w w' : World} {m g : Nat} {o ro o' : Option Nat} {most : Int} {L' L1 : List (Int × Int)} {n1 : Nat} (h2 : PipR w g ro most L') (h3 : ∀ k, fp m o k → ¬ fr g ro k) (h4 : ∀ k, fp m o k ∨ fr g ro k → Q ≠ some k ∧ m ≤ k ∧ k < w.heap.size)
    (h' : PipP w' m o' most L1 n1) (hn : NewO w o o') (t : Tch (fp m o) w w') (hQ : ∀ q, Q = some q → q < w.heap.size) : St Q w' m g most L1 L' n1 ∧ Kp Q m w w' := by
  have hnew : ∀ k, fp m o' k → fp m o k ∨ w.heap.size ≤ k := by
    rintro k (h | h | h)
    · exact .inl (.inl h)
    · exact .inl (.inr (.inl h))
    · rcases hn k h with h | h
      · exact .inl (.inr (.inr h))
      · exact .inr h
  have hlt' : ∀ k, fp m o' k → k < w'.heap.size := by
    have h5 := h'.lt
    rintro k (h | h | h)
    · omega
    · omega
    · exact (h5.2 k h).2
  have hm : m ≤ w.heap.size := by have := (h4 m (.inl (.inl rfl))).2.2; omega
  refine ⟨⟨o', ro, h', h2.tch t (fun k hk h => h3 k h hk), fun k hk hr => ?_, fun k hk => ?_⟩, ⟨t.below hm (fun b _ hb => (h4 b (.inl hb)).2.1), fun q hq hl => t.block q hl (fun e => (h4 q (.inl e)).1 hq)⟩⟩
  · rcases hnew k hk with h | h
    · exact h3 k h hr
    · have := (h4 k (.inr hr)).2.2; omega
  · rcases hk with hk | hk
    · rcases hnew k hk with h | h
      · exact ⟨(h4 k (.inl h)).1, (h4 k (.inl h)).2.1, hlt' k hk⟩
      · exact ⟨fun e => by have := hQ k e; omega, by omega, hlt' k hk⟩
    · exact ⟨(h4 k (.inr hk)).1, (h4 k (.inr hk)).2.1, Nat.lt_of_lt_of_le (h4 k (.inr hk)).2.2 t.size⟩
theorem St.stepR {Q : Option Nat} {w w' : World} {m g : Nat} {o ro o' : Option Nat} {most : Int} {L L1 : List (Int × Int)} {n : Nat} (h1 : PipP w m o most L n) (h3 : ∀ k, fp m o k → ¬ fr g ro k) (h4 : ∀ k, fp m o k ∨ fr g ro k → Q ≠ some k ∧ m ≤ k ∧ k < w.heap.size)
    (h' : PipR w' g o' most L1) (hn : NewO w ro o') (t : Tch (fr g ro) w w') (hQ : ∀ q, Q = some q → q < w.heap.size) : St Q w' m g most L L1 n ∧ Kp Q m w w' := by
  have hnew : ∀ k, fr g o' k → fr g ro k ∨ w.heap.size ≤ k := by
    rintro k (h | h)
    · exact .inl (.inl h)
    · rcases hn k h with h | h
      · exact .inl (.inr h)
      · exact .inr h
  have hlt' : ∀ k, fr g o' k → k < w'.heap.size := by
    have h5 := h'.lt
    rintro k (h | h)
    · omega
    · exact (h5.2 k h).2
  have hm : m ≤ w.heap.size := by have := (h4 m (.inl (.inl rfl))).2.2; omega
  refine ⟨⟨o, o', h1.tch t (fun k hk h => h3 k hk h), h', fun k hk hr => ?_, fun k hk => ?_⟩, ⟨t.below hm (fun b _ hb => (h4 b (.inr hb)).2.1), fun q hq hl => t.block q hl (fun e => (h4 q (.inr e)).1 hq)⟩⟩
  · rcases hnew k hr with h | h
    · exact h3 k hk h
    · have := (h4 k (.inl hk)).2.2; omega
  · rcases hk with hk | hk
    · exact ⟨(h4 k (.inl hk)).1, (h4 k (.inl hk)).2.1, Nat.lt_of_lt_of_le (h4 k (.inl hk)).2.2 t.size⟩
    · rcases hnew k hk with h | h
      · exact ⟨(h4 k (.inr h)).1, (h4 k (.inr h)).2.1, hlt' k hk⟩
      · exact ⟨fun e => by have := hQ k e; omega, by omega, hlt' k hk⟩
theorem Kp.refl {Q : Option Nat} {m : Nat} (w : World) : Kp Q m w w := ⟨Below.refl _ _, fun _ _ _ => rfl⟩
theorem Kp.drew {Q : Option Nat} {m : Nat} (w : World) : Kp Q m w w.drew := ⟨(Below.refl _ _).drew, fun _ _ _ => rfl⟩
section
variable {Q : Option Nat} {w : World} {m g : Nat} {most : Int} {L L' : List (Int × Int)} {n : Nat}
theorem st_open_there (h : St Q w m g most L L' n) {id key v : Int} (hid : (Lit.int .u16 id).wf = true) (hv : lookI L id = some v) :
    Calls Try.prog 12 #[.pointer (some ⟨m + 1, 0, none⟩), .int .u16 id, .int .i64 key] w fun e w' => e = .returned (.int .i64 10) ∧ St Q w' m g most L L' n ∧ Kp Q m w w' := by
  have h0 := h
  obtain ⟨o, ro, h1, h2, h3, h4⟩ := h
  refine (popen_there h1 hid hv).mono ?_
  rintro e w' ⟨rfl, rfl⟩
  exact ⟨rfl, h0, Kp.refl _⟩
theorem st_open_full (h : St Q w m g most L L' n) {id key : Int} (hid : (Lit.int .u16 id).wf = true) (hv : lookI L id = none) (hm : (L.length : Int) = most) :
    Calls Try.prog 12 #[.pointer (some ⟨m + 1, 0, none⟩), .int .u16 id, .int .i64 key] w fun e w' => e = .returned (.int .i64 14) ∧ St Q w' m g most L L' n ∧ Kp Q m w w' := by
  have h0 := h
  obtain ⟨o, ro, h1, h2, h3, h4⟩ := h
  refine (popen_full h1 hid hv hm).mono ?_
  rintro e w' ⟨rfl, rfl⟩
  exact ⟨rfl, h0.same rfl, Kp.drew _⟩
theorem st_open_ok (h : St Q w m g most L L' n) {id key : Int} (hid : (Lit.int .u16 id).wf = true) (hkey : (Lit.int .i64 key).wf = true) (hv : lookI L id = none) (hm : (L.length : Int) ≠ most) (hn : n ≤ 1000000) (hL : L.length ≤ 1000000) (hQ : ∀ q, Q = some q → q < w.heap.size) :
    Calls Try.prog 12 #[.pointer (some ⟨m + 1, 0, none⟩), .int .u16 id, .int .i64 key] w fun e w' => e = .returned (.int .i64 0) ∧ St Q w' m g most (L ++ [(id, key)]) L' (n + 1) ∧ Kp Q m w w' := by
  obtain ⟨o, ro, h1, h2, h3, h4⟩ := h
  refine (popen_ok h1 hid hkey hv hm hn hL).mono ?_
  rintro e w' ⟨rfl, o', a, b, c⟩
  exact ⟨rfl, St.stepP h2 h3 h4 a b c hQ⟩
theorem st_ropen_there (h : St Q w m g most L L' n) {id key v : Int} (hv : lookI L' id = some v) (hd : (ids L').Nodup) (hL : L'.length ≤ 1000000) :
    Calls Try.prog 13 #[.pointer (some ⟨g, 0, none⟩), .int .u16 id, .int .i64 key] w fun e w' => e = .returned (.int .i64 10) ∧ St Q w' m g most L L' n ∧ Kp Q m w w' := by
  have h0 := h
  obtain ⟨o, ro, h1, h2, h3, h4⟩ := h
  refine (ropen_there h2 hv hd hL).mono ?_
  rintro e w' ⟨rfl, rfl⟩
  exact ⟨rfl, h0, Kp.refl _⟩
theorem st_ropen_full (h : St Q w m g most L L' n) {id key : Int} (hv : lookI L' id = none) (hm : most ≤ (L'.length : Int)) (hL : L'.length ≤ 1000000) :
    Calls Try.prog 13 #[.pointer (some ⟨g, 0, none⟩), .int .u16 id, .int .i64 key] w fun e w' => e = .returned (.int .i64 14) ∧ St Q w' m g most L L' n ∧ Kp Q m w w' := by
  have h0 := h
  obtain ⟨o, ro, h1, h2, h3, h4⟩ := h
  refine (ropen_full h2 hv hm hL).mono ?_
  rintro e w' ⟨rfl, rfl⟩
  exact ⟨rfl, h0.same rfl, Kp.drew _⟩
theorem st_ropen_ok (h : St Q w m g most L L' n) {id key : Int} (hv : lookI L' id = none) (hm : (L'.length : Int) < most) (hL : L'.length ≤ 1000000) (hQ : ∀ q, Q = some q → q < w.heap.size) :
    Calls Try.prog 13 #[.pointer (some ⟨g, 0, none⟩), .int .u16 id, .int .i64 key] w fun e w' => e = .returned (.int .i64 0) ∧ St Q w' m g most L (L' ++ [(id, key)]) n ∧ Kp Q m w w' := by
  obtain ⟨o, ro, h1, h2, h3, h4⟩ := h
  refine (ropen_ok h2 hv hm hL).mono ?_
  rintro e w' ⟨rfl, o', a, b, c⟩
  exact ⟨rfl, St.stepR h1 h3 h4 a b c hQ⟩
theorem st_close_no (h : St Q w m g most L L' n) {id : Int} (hid : (Lit.int .u16 id).wf = true) (hv : lookI L id = none) :
    Calls Try.prog 14 #[.pointer (some ⟨m + 1, 0, none⟩), .int .u16 id] w fun e w' => e = .returned (.tuple #[.int .i64 0, .int .i64 9]) ∧ St Q w' m g most L L' n ∧ Kp Q m w w' := by
  have h0 := h
  obtain ⟨o, ro, h1, h2, h3, h4⟩ := h
  refine (pclose_no h1 hid hv).mono ?_
  rintro e w' ⟨rfl, hb⟩
  exact ⟨rfl, h0.ext hb (fun k e => .inr e), Kp.of_below hb h0.size⟩
theorem st_close_yes (h : St Q w m g most L L' n) {id v : Int} (hid : (Lit.int .u16 id).wf = true) (hv : lookI L id = some v) (hL : L.length ≤ 1000000) (hQ : ∀ q, Q = some q → q < w.heap.size) :
    Calls Try.prog 14 #[.pointer (some ⟨m + 1, 0, none⟩), .int .u16 id] w fun e w' => e = .returned (.tuple #[.int .i64 v, .int .i64 0]) ∧ St Q w' m g most (dropI L id) L' n ∧ Kp Q m w w' := by
  obtain ⟨o, ro, h1, h2, h3, h4⟩ := h
  refine (pclose_yes h1 hid hv hL).mono ?_
  rintro e w' ⟨rfl, a, c⟩
  exact ⟨rfl, St.stepP h2 h3 h4 a (fun k hk => .inl hk) c hQ⟩
theorem st_rclose_no (h : St Q w m g most L L' n) {id : Int} (hv : lookI L' id = none) (hL : L'.length ≤ 1000000) :
    Calls Try.prog 15 #[.pointer (some ⟨g, 0, none⟩), .int .u16 id] w fun e w' => e = .returned (.tuple #[.int .i64 0, .int .i64 9]) ∧ St Q w' m g most L L' n ∧ Kp Q m w w' := by
  have h0 := h
  obtain ⟨o, ro, h1, h2, h3, h4⟩ := h
  refine (rclose_no h2 hv hL).mono ?_
  rintro e w' ⟨rfl, rfl⟩
  exact ⟨rfl, h0, Kp.refl _⟩
theorem st_rclose_yes (h : St Q w m g most L L' n) {id v : Int} (hv : lookI L' id = some v) (hd : (ids L').Nodup) (hL : L'.length ≤ 1000000) (hQ : ∀ q, Q = some q → q < w.heap.size) :
    Calls Try.prog 15 #[.pointer (some ⟨g, 0, none⟩), .int .u16 id] w fun e w' => e = .returned (.tuple #[.int .i64 v, .int .i64 0]) ∧ St Q w' m g most L (dropI L' id) n ∧ Kp Q m w w' := by
  obtain ⟨o, ro, h1, h2, h3, h4⟩ := h
  refine (rclose_yes h2 hv hd hL).mono ?_
  rintro e w' ⟨rfl, o', a, b, c⟩
  exact ⟨rfl, St.stepR h1 h3 h4 a b c hQ⟩
theorem st_keys (h : St Q w m g most L L' n) (hg : goodP L) (hL : L.length ≤ 1000000) :
    Calls Try.prog 16 #[.pointer (some ⟨m + 1, 0, none⟩)] w fun e w' => (∃ a c, e = .returned (.slice a L.length c) ∧ Own intE w' w.heap.size (.slice a L.length c) (kys L)) ∧ Below w.heap.size w w' := by
  obtain ⟨o, ro, h1, h2, h3, h4⟩ := h
  refine (pkeys h1 hg hL).mono ?_
  rintro e w' ⟨⟨v, rfl, ho⟩, hb⟩
  obtain ⟨a, c, rfl⟩ := ho.shape
  rw [kys_length] at ho ⊢
  exact ⟨⟨a, c, rfl, ho⟩, hb⟩
theorem st_rkeys (h : St Q w m g most L L' n) (hL : L'.length ≤ 1000000) :
    Calls Try.prog 18 #[.pointer (some ⟨g, 0, none⟩)] w fun e w' => (∃ a c, e = .returned (.slice a L'.length c) ∧ Own intE w' w.heap.size (.slice a L'.length c) (kys L')) ∧ Below w.heap.size w w' := by
  obtain ⟨o, ro, h1, h2, h3, h4⟩ := h
  refine (rkeys h2 hL).mono ?_
  rintro e w' ⟨⟨v, rfl, ho⟩, hb⟩
  obtain ⟨a, c, rfl⟩ := ho.shape
  rw [kys_length] at ho ⊢
  exact ⟨⟨a, c, rfl, ho⟩, hb⟩
end
end Go.Proofs.Ytmimbfikjnfhdaa
