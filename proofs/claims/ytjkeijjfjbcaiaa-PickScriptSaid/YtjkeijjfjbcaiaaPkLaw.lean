/- What is known of servers, as lists: the plain law of chapter 26. Nothing of the program. -/
import Derived.Test.YtjkeijjfjbcaiaaRd
namespace Go.Proofs.Ytjkeijjfjbcaiaa
/-- what is known of a server: address, round trip, fails, from when it may be asked -/
structure Kn where
  a : Int
  t : Int
  f : Int
  g : Int
deriving DecidableEq
def kn0 (a : Int) : Kn := ⟨a, 200, 0, 0⟩
def ofK (L : List Kn) (a : Int) : Option Kn := L.find? fun k => decide (k.a = a)
def ofD (L : List Kn) (a : Int) : Kn := (ofK L a).getD (kn0 a)
def wo (L : List Kn) (a : Int) : List Kn := L.filter fun x => decide (x.a ≠ a)
def hrd (room : Int) (L : List Kn) (k : Kn) : List Kn :=
  if room < (wo L k.a ++ [k]).length then (wo L k.a ++ [k]).drop 1 else wo L k.a ++ [k]
def mn (a b : Int) : Int := if b < a then b else a
def mx (a b : Int) : Int := if a < b then b else a
def knGood (L : List Kn) (a trip now : Int) : Kn :=
  match ofK L a with
  | none => ⟨a, mn trip 10000, 0, now⟩
  | some k => ⟨a, (7 * k.t + mn trip 10000) / 8, 0, now⟩
def bad1 (k : Kn) (now : Int) : Kn := ⟨k.a, mn (2 * k.t) 10000, mn (k.f + 1) 10, now + 2 ^ (mn (k.f + 1) 10).toNat⟩
def knBad (L : List Kn) (a now : Int) : Kn := bad1 (ofD L a) now
def knLame (L : List Kn) (a now : Int) : Kn := ⟨a, (ofD L a).t, (ofD L a).f, now + 900⟩
def waitK (L : List Kn) (a : Int) : Int := mn (mx ((2 * (ofD L a).t + 999) / 1000) 1) 8
/-- what is known lies within the bounds -/
structure KnOk (lo hi : Int) (k : Kn) : Prop where
  a0 : 0 ≤ k.a
  a1 : k.a < 4294967296
  t0 : 0 ≤ k.t
  t1 : k.t ≤ 10000
  f0 : 0 ≤ k.f
  f1 : k.f ≤ 10
  g0 : lo ≤ k.g
  g1 : k.g ≤ hi
theorem KnOk.mono {lo hi lo' hi' : Int} {k : Kn} (h : KnOk lo hi k) (h1 : lo' ≤ lo) (h2 : hi ≤ hi') : KnOk lo' hi' k :=
  ⟨h.a0, h.a1, h.t0, h.t1, h.f0, h.f1, by have := h.g0; omega, by have := h.g1; omega⟩
theorem kn0_ok {lo hi a : Int} (h0 : 0 ≤ a) (h1 : a < 4294967296) (hl : lo ≤ 0) (hh : 0 ≤ hi) : KnOk lo hi (kn0 a) :=
  ⟨h0, h1, (by decide : (0 : Int) ≤ 200), (by decide : (200 : Int) ≤ 10000), (by decide : (0 : Int) ≤ 0), (by decide : (0 : Int) ≤ 10), hl, hh⟩
theorem ofK_mem {L : List Kn} {a : Int} {k : Kn} (h : ofK L a = some k) : k ∈ L ∧ k.a = a :=
  ⟨List.mem_of_find?_eq_some h, by have := List.find?_some (p := fun k : Kn => decide (k.a = a)) h; exact of_decide_eq_true this⟩
theorem ofD_a (L : List Kn) (a : Int) : (ofD L a).a = a := by
  unfold ofD
  cases h : ofK L a with
  | none => rfl
  | some k => exact (ofK_mem h).2
theorem ofD_cases (L : List Kn) (a : Int) : ofD L a = kn0 a ∨ ofD L a ∈ L := by
  unfold ofD
  cases h : ofK L a with
  | none => exact .inl rfl
  | some k => exact .inr (ofK_mem h).1
theorem mn_le1 (a b : Int) : mn a b ≤ a := by unfold mn; split <;> omega
theorem mn_le2 (a b : Int) : mn a b ≤ b := by unfold mn; split <;> omega
theorem mn_ge {a b c : Int} (h1 : c ≤ a) (h2 : c ≤ b) : c ≤ mn a b := by unfold mn; split <;> omega
theorem mx_ge1 (a b : Int) : a ≤ mx a b := by unfold mx; split <;> omega
theorem mx_ge2 (a b : Int) : b ≤ mx a b := by unfold mx; split <;> omega
theorem pow_pos' (n : Nat) : (1 : Int) ≤ 2 ^ n := by have h := Nat.one_le_two_pow (n := n); exact_mod_cast h
theorem pow_le {n : Nat} (h : n ≤ 10) : (2 : Int) ^ n ≤ 1024 := by
  have : ∀ m : Fin 11, (2 : Int) ^ (m : Nat) ≤ 1024 := by decide
  exact this ⟨n, by omega⟩
theorem knGood_ok {lo hi : Int} {L : List Kn} (hL : ∀ k ∈ L, KnOk lo hi k) {lo' hi' a t now : Int} (h0 : 0 ≤ a) (h1 : a < 4294967296) (ht : 0 ≤ t) (hn0 : lo' ≤ now) (hn1 : now ≤ hi') : KnOk lo' hi' (knGood L a t now) := by
  have e1 := mn_le2 t 10000
  have e2 : 0 ≤ mn t 10000 := mn_ge ht (by decide)
  unfold knGood
  cases h : ofK L a with
  | none => exact ⟨h0, h1, e2, e1, Int.le_refl 0, (by decide : (0 : Int) ≤ 10), hn0, hn1⟩
  | some k =>
    have hk := hL k (ofK_mem h).1
    have := hk.t0
    have := hk.t1
    exact ⟨h0, h1, by show 0 ≤ (7 * k.t + mn t 10000) / 8; omega, by show (7 * k.t + mn t 10000) / 8 ≤ 10000; omega, Int.le_refl 0, (by decide : (0 : Int) ≤ 10), hn0, hn1⟩
theorem ofD_b {lo hi : Int} {L : List Kn} (hL : ∀ k ∈ L, KnOk lo hi k) (a : Int) : 0 ≤ (ofD L a).t ∧ (ofD L a).t ≤ 10000 ∧ 0 ≤ (ofD L a).f ∧ (ofD L a).f ≤ 10 := by
  rcases ofD_cases L a with h | h
  · rw [h]; exact (by decide : (0:Int) ≤ 200 ∧ (200:Int) ≤ 10000 ∧ (0:Int) ≤ 0 ∧ (0:Int) ≤ 10)
  · have := hL _ h
    exact ⟨this.t0, this.t1, this.f0, this.f1⟩
theorem knBad_ok {lo hi : Int} {L : List Kn} (hL : ∀ k ∈ L, KnOk lo hi k) {lo' hi' a now : Int} (h0 : 0 ≤ a) (h1 : a < 4294967296) (hn0 : lo' ≤ now) (hn1 : now + 1024 ≤ hi') : KnOk lo' hi' (knBad L a now) := by
  obtain ⟨e1, e2, e3, e4⟩ := ofD_b hL a
  have ha := ofD_a L a
  unfold knBad bad1
  generalize ofD L a = k at *
  have hf0 : 0 ≤ mn (k.f + 1) 10 := mn_ge (by omega) (by decide)
  have hf1 := mn_le2 (k.f + 1) 10
  have p1 := pow_pos' (mn (k.f + 1) 10).toNat
  have p2 := pow_le (n := (mn (k.f + 1) 10).toNat) (by omega)
  exact ⟨by rw [ha]; exact h0, by rw [ha]; exact h1, mn_ge (by omega) (by decide), mn_le2 _ _, hf0, hf1, by show lo' ≤ now + _; omega, by show now + _ ≤ hi'; omega⟩
theorem knLame_ok {lo hi : Int} {L : List Kn} (hL : ∀ k ∈ L, KnOk lo hi k) {lo' hi' a now : Int} (h0 : 0 ≤ a) (h1 : a < 4294967296) (hn0 : lo' ≤ now) (hn1 : now + 900 ≤ hi') : KnOk lo' hi' (knLame L a now) := by
  obtain ⟨e1, e2, e3, e4⟩ := ofD_b hL a
  exact ⟨h0, h1, e1, e2, e3, e4, by show lo' ≤ now + 900; omega, by show now + 900 ≤ hi'; omega⟩
theorem knGood_a (L : List Kn) (a t now : Int) : (knGood L a t now).a = a := by unfold knGood; cases ofK L a <;> rfl
theorem knBad_a (L : List Kn) (a now : Int) : (knBad L a now).a = a := ofD_a L a
theorem hrd_mem {room : Int} {L : List Kn} {k x : Kn} (h : x ∈ hrd room L k) : x ∈ L ∨ x = k := by
  have h' : x ∈ wo L k.a ++ [k] := by
    unfold hrd at h
    split at h
    · exact List.mem_of_mem_drop h
    · exact h
  rcases List.mem_append.1 h' with h' | h'
  · exact .inl (List.mem_filter.1 h').1
  · exact .inr (List.mem_singleton.1 h')
theorem hrd_ok {lo hi room : Int} {L : List Kn} {k : Kn} (hL : ∀ x ∈ L, KnOk lo hi x) (hk : KnOk lo hi k) : ∀ x ∈ hrd room L k, KnOk lo hi x := by
  intro x hx
  rcases hrd_mem hx with h | rfl
  · exact hL x h
  · exact hk
theorem wo_len (L : List Kn) (a : Int) : (wo L a).length ≤ L.length := List.length_filter_le _ _
theorem hrd_len (room : Int) (L : List Kn) (k : Kn) : (hrd room L k).length ≤ L.length + 1 := by
  have := wo_len L k.a
  unfold hrd
  split <;> simp <;> omega
theorem hrd_room {room : Int} {L : List Kn} {k : Kn} (h : (L.length : Int) ≤ room) : ((hrd room L k).length : Int) ≤ room := by
  have := wo_len L k.a
  unfold hrd
  split
  · simp; omega
  · rename_i hn
    omega
theorem ofK_wo (L : List Kn) (a b : Int) : ofK (wo L b) a = if a = b then none else ofK L a := by
  unfold ofK wo
  induction L with
  | nil => simp
  | cons x r ih =>
    rw [List.filter_cons]
    by_cases hx : x.a = b
    · rw [if_neg (by simpa using hx), ih]
      by_cases h : a = b
      · rw [if_pos h, if_pos h]
      · rw [if_neg h, if_neg h, List.find?_cons, decide_eq_false (by omega)]
    · rw [if_pos (by simpa using hx), List.find?_cons, List.find?_cons, ih]
      by_cases hxa : x.a = a
      · rw [decide_eq_true hxa]; exact (if_neg (by omega)).symm
      · rw [decide_eq_false hxa]
/-- what is known of a server once it heard of one, while there is room -/
theorem ofK_hear {room : Int} {L : List Kn} {k : Kn} (hr : ((wo L k.a).length : Int) + 1 ≤ room) (a : Int) : ofK (hrd room L k) a = if a = k.a then some k else ofK L a := by
  unfold hrd
  rw [if_neg (by simp; omega)]
  unfold ofK
  rw [List.find?_append]
  have := ofK_wo L a k.a
  unfold ofK at this
  rw [this]
  by_cases h : a = k.a
  · rw [if_pos h, if_pos h]; simp [h]
  · rw [if_neg h, if_neg h]
    have : ¬ k.a = a := fun e => h e.symm
    simp [this]
end Go.Proofs.Ytjkeijjfjbcaiaa
