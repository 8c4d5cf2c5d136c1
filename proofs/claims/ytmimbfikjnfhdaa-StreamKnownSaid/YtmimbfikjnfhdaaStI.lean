/- slices.IndexFunc 45, DeleteFunc 37 with the closure 38 on slices of the call's own. -/
import Derived.Test.YtmimbfikjnfhdaaStH
import Derived.Test.YtmimbfikjnfhdaaStD
import Derived.Lib.SliceRun
namespace Go.Proofs.Ytmimbfikjnfhdaa
open Go.RowKit
def idE : Enc Int := ⟨30, 1, fun x => [.int .u16 x], 0, fun _ => rfl, fun x v hv => by simp at hv; subst hv; rfl, by decide⟩
theorem rowOf_id (l : List Int) : rowOf idE l = l.map fun x => Value.int .u16 x := by
  induction l with
  | nil => rfl
  | cons x r ih => simp only [rowOf, List.flatMap_cons, List.map_cons] at ih ⊢; rw [ih]; rfl
theorem rd_id {w : World} {a : Option Addr} {n c : Nat} {l : List Int} (h : Rd idE w a n c l) (h0 : 0 < n) : ∃ b o, a = some ⟨b, o, none⟩ ∧ ∀ j (hj : j < l.length), w.cell? ⟨b, o + j, none⟩ = some (.int .u16 l[j]) := by
  obtain ⟨b, o, h1, _, h2⟩ := h.addr h0
  exact ⟨b, o, h1, fun j hj => by have := h2 j hj 0 (by decide); simpa [idE] using this⟩
theorem same_yes {w : World} {q : Nat} {id : Int} (hq : w.cell? ⟨q, 0, none⟩ = some (.int .u16 id)) : Calls Try.prog 38 #[.int .u16 id, .pointer (some ⟨q, 0, none⟩)] w fun e w' => e = .returned (.bool true) ∧ w = w' := by
  go_enter Try.func38, Try.ntmps38
  go_wp2_with fail
  go_ret
  exact ⟨rfl, rfl⟩
theorem same_no {w : World} {q : Nat} {x id : Int} (hq : w.cell? ⟨q, 0, none⟩ = some (.int .u16 id)) (hne : x ≠ id) : Calls Try.prog 38 #[.int .u16 x, .pointer (some ⟨q, 0, none⟩)] w fun e w' => e = .returned (.bool false) ∧ w = w' := by
  have h1 : (x == id) = false := by simp [hne]
  go_enter Try.func38, Try.ntmps38
  go_wp2_with fail
  go_ret
  exact ⟨rfl, rfl⟩
set_option maxHeartbeats 4000000 in
set_option maxRecDepth 100000 in
theorem idx_none {w : World} {a : Option Addr} {n c : Nat} {L : List Int} (h : Rd idE w a n c L) (hn : n ≤ 1000000) {q : Nat} {id : Int} (hq : w.cell? ⟨q, 0, none⟩ = some (.int .u16 id)) (hL : ∀ x ∈ L, x ≠ id) :
    Calls Try.prog 45 #[.slice a n c, .func (.func 38) #[] #[.pointer (some ⟨q, 0, none⟩)]] w fun e w' => e = .returned (.int .i64 (-1)) ∧ w = w' := by
  have hl := h.len
  have hH := Lib.hid h
  have hL' := Lib.hid hL
  have hq' := Lib.hid hq
  clear h hL hq
  go_enter Try.func45, Try.ntmps45
  go_wp2_with fail
  go_loopw [8] (fun i wr => ∃ k : Nat, k ≤ n ∧ i = .int .i64 k ∧ w = wr) (fun i _ => n - (intOf i).toNat)
  case atStart => exact ⟨0, Nat.zero_le _, rfl, rfl⟩
  case round =>
    obtain ⟨k, hk, rfl, rfl⟩ := hrel
    by_cases hlt : k < n
    · have hkI : (k : Int) < n := by omega
      obtain ⟨b, o, rfl, hc⟩ := rd_id hH.out (by omega)
      have hck := hc k (by omega)
      have hne := hL'.out (L[k]'(by omega)) (List.getElem_mem _)
      clear hc
      generalize L[k]'(by omega) = x at *
      go_wp2_with fail
      refine (same_no hq'.out hne).mono ?_
      rintro e w1 ⟨rfl, rfl⟩
      go_wp2_with fail
      go_roundw
      case rel => exact ⟨k + 1, by omega, by go_num, trivial⟩
      case measure => simp [intOf]; omega
    · have hk' : k = n := by omega
      subst hk'
      go_wp2_with fail
      go_ret
      exact ⟨rfl, rfl⟩
set_option maxHeartbeats 4000000 in
set_option maxRecDepth 100000 in
theorem idx_some {w : World} {a : Option Addr} {n c : Nat} {L : List Int} (h : Rd idE w a n c L) (hn : n ≤ 1000000) {q : Nat} {id : Int} (hq : w.cell? ⟨q, 0, none⟩ = some (.int .u16 id)) (k0 : Nat) (hk0 : k0 < L.length) (hy : L[k0] = id) (hL : ∀ j, (hj : j < k0) → L[j] ≠ id) :
    Calls Try.prog 45 #[.slice a n c, .func (.func 38) #[] #[.pointer (some ⟨q, 0, none⟩)]] w fun e w' => e = .returned (.int .i64 k0) ∧ w = w' := by
  have hl := h.len
  have hH := Lib.hid h
  have hL' := Lib.hid hL
  have hq' := Lib.hid hq
  have hy' := Lib.hid hy
  clear h hL hq hy
  go_enter Try.func45, Try.ntmps45
  go_wp2_with fail
  go_loopw [8] (fun i wr => ∃ k : Nat, k ≤ k0 ∧ i = .int .i64 k ∧ w = wr) (fun i _ => n - (intOf i).toNat)
  case atStart => exact ⟨0, Nat.zero_le _, rfl, rfl⟩
  case round =>
    obtain ⟨k, hk, rfl, rfl⟩ := hrel
    have hkI : (k : Int) < n := by omega
    obtain ⟨b, o, rfl, hc⟩ := rd_id hH.out (by omega)
    have hck := hc k (by omega)
    clear hc
    by_cases hlt : k < k0
    · have hne := hL'.out k hlt
      generalize L[k]'(by omega) = x at *
      go_wp2_with fail
      refine (same_no hq'.out hne).mono ?_
      rintro e w1 ⟨rfl, rfl⟩
      go_wp2_with fail
      go_roundw
      case rel => exact ⟨k + 1, by omega, by go_num, trivial⟩
      case measure => simp [intOf]; omega
    · have hk' : k = k0 := by omega
      subst hk'
      rw [hy'.out] at hck
      go_wp2_with fail
      refine (same_yes hq'.out).mono ?_
      rintro e w1 ⟨rfl, rfl⟩
      go_wp2_with fail
      go_ret
      exact ⟨rfl, rfl⟩
theorem first_of {L : List Int} {id : Int} : (∀ x ∈ L, x ≠ id) ∨ ∃ k, ∃ h : k < L.length, L[k] = id ∧ ∀ j, (hj : j < k) → L[j] ≠ id := by
  induction L with
  | nil => exact .inl fun x hx => by cases hx
  | cons y r ih =>
    by_cases hy : y = id
    · exact .inr ⟨0, by simp, by simpa using hy, fun j hj => by omega⟩
    · rcases ih with ih | ⟨k, h, h1, h2⟩
      · refine .inl fun x hx => ?_
        rcases List.mem_cons.1 hx with rfl | hx
        · exact hy
        · exact ih x hx
      · refine .inr ⟨k + 1, by simp; omega, by simpa using h1, fun j hj => ?_⟩
        cases j with
        | zero => simpa using hy
        | succ j => simpa using h2 j (by omega)
/-- what stands in the row once j places are gone through and i are kept -/
structure DelS (L C : List Int) (id : Int) (cap i j : Nat) : Prop where
  len : C.length = cap
  lt : i < j
  le : j ≤ L.length
  kept : C.take i = (L.take j).filter fun x => decide (x ≠ id)
  rest : ∀ t (h : t < L.length) , j ≤ t → C[t]? = some L[t]
theorem DelS.start {L X : List Int} {id : Int} {cap k : Nat} (hX : X.length = cap) (hk : k < L.length) (ht : X.take L.length = L) (hy : L[k] = id) (hn : ∀ j, (hj : j < k) → L[j] ≠ id) : DelS L X id cap k (k + 1) := by
  have hg : ∀ t (h : t < L.length), X[t]? = some L[t] := fun t h => by
    have e : X[t]? = (X.take L.length)[t]? := by rw [List.getElem?_take, if_pos h]
    rw [e, ht, List.getElem?_eq_getElem h]
  refine ⟨hX, Nat.lt_succ_self _, hk, ?_, fun t h _ => hg t h⟩
  have e1 : X.take k = L.take k := by
    have := congrArg (List.take k) ht
    rwa [List.take_take, Nat.min_eq_left (by omega)] at this
  rw [e1, List.take_succ_eq_append_getElem hk, List.filter_append, hy]
  have e2 : (L.take k).filter (fun x => decide (x ≠ id)) = L.take k := by
    rw [List.filter_eq_self]
    intro x hx
    obtain ⟨j, hj, rfl⟩ := List.getElem_of_mem hx
    have hj' : j < k := by simp at hj; omega
    simpa using hn j hj'
  rw [e2]
  simp
theorem DelS.skip {L C : List Int} {id : Int} {cap i j : Nat} (h : DelS L C id cap i j) (hj : j < L.length) (hy : L[j] = id) : DelS L C id cap i (j + 1) := by
  refine ⟨h.len, by have := h.lt; omega, hj, ?_, fun t ht hl => h.rest t ht (by omega)⟩
  rw [h.kept, List.take_succ_eq_append_getElem hj, List.filter_append, hy]
  simp
theorem DelS.keep {L C : List Int} {id : Int} {cap i j : Nat} (h : DelS L C id cap i j) (hj : j < L.length) (hc : L.length ≤ cap) (hy : L[j] ≠ id) : DelS L (C.set i L[j]) id cap (i + 1) (j + 1) := by
  have h1 := h.lt
  have h2 := h.len
  refine ⟨by simpa using h2, by omega, hj, ?_, fun t ht hl => ?_⟩
  · rw [List.take_succ_eq_append_getElem (by simp; omega), List.take_set_of_le (Nat.le_refl _), h.kept, List.take_succ_eq_append_getElem hj, List.filter_append]
    simp [hy]
  · rw [List.getElem?_set_ne (by omega)]
    exact h.rest t ht (by omega)
theorem run_from {P : Program} (u : World) (t e : TypeId) (ht : P.underlying t = some (.slice e)) (he : (P.info? e).map (·.size) = some 1) (g n cap i : Nat) (hi : i < cap) (hn : i ≤ n) (_hc : n ≤ cap) :
    (Instr.slice t (.slice (some ⟨g, 0, none⟩) n cap) (some (.int .i64 i)) none none).run P u = .ok (.slice (some ⟨g, i, none⟩) (n - i) (cap - i)) u := by
  have ee := elem_of ht
  rw [run_slice_l u t (some ⟨g, 0, none⟩) n cap (by rw [ee]; exact ht) .i64 i (by omega) (by omega), ee, run_sizeOf_info he]
  have : ¬ cap - i = 0 := by omega
  simp [Result.andThen, sliced, Addr.add]
  by_cases h0 : i = 0
  · subst h0; simp
  · rw [if_neg (by omega), if_neg h0]
theorem run_upto {P : Program} (u : World) (t e : TypeId) (ht : P.underlying t = some (.slice e)) (he : (P.info? e).map (·.size) = some 1) (g n cap i : Nat) (hi : 0 < cap) (hn : i ≤ n) (hc : n ≤ cap) :
    (Instr.slice t (.slice (some ⟨g, 0, none⟩) n cap) none (some (.int .i64 i)) none).run P u = .ok (.slice (some ⟨g, 0, none⟩) i cap) u := by
  have ee := elem_of ht
  rw [run_slice_h u t (some ⟨g, 0, none⟩) n cap (by rw [ee]; exact ht) .i64 i (by omega) (by omega), ee, run_sizeOf_info he]
  have : ¬ cap = 0 := by omega
  simp [Result.andThen, sliced, Addr.add]
end Go.Proofs.Ytmimbfikjnfhdaa
