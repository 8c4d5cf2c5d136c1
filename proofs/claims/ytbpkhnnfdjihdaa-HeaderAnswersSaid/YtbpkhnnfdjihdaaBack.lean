/- slices.Backward over a slice of texts: what its iterator hands to whatever body. Slices of at most 2^40 texts. -/
import Derived.RangeFuncNested
import Derived.RangeFuncBound
import Derived.RangeFuncCalls
import Derived.RangeFuncLeaves
import Derived.RangeFuncBox
import Derived.Shelf.Abstract
import Derived.Shelf.RegionOpen
import Derived.WalkKit
import Derived.OwnWalkIn
import Derived.TacticsInMore
import Derived.LoopNIn
import Derived.LoopIn
import Derived.Test.YtbpkhnnfdjihdaaProg
import Derived.Test.YtbpkhnnfdjihdaaRd
namespace Go.Proofs.Ytbpkhnnfdjihdaa
open Go.RowKit Go.Shelf
attribute [local go_sem] Oper.semAt_some
/-- the first k of N places, from the end -/
def fins (N k : Nat) : List (Fin N) := (List.finRange N).take k
theorem fins_zero (N : Nat) : fins N 0 = [] := rfl
theorem fins_succ (N k : Nat) (h : k < N) : fins N (k + 1) = fins N k ++ [⟨k, h⟩] := by
  unfold fins; rw [List.take_add_one]; simp [h]
theorem fins_length (N k : Nat) (h : k ≤ N) : (fins N k).length = k := by unfold fins; simp; omega
theorem mem_fins (N k : Nat) (x : Fin N) : x ∈ fins N k ↔ x.1 < k := by
  unfold fins
  rw [List.mem_take_iff_getElem]
  constructor
  · rintro ⟨i, h1, h2⟩
    simp at h2; subst h2; simp at h1; simp; omega
  · intro h
    exact ⟨x.1, by simp; omega, by simp⟩
/-- what a round keeps: what lay below n₀, and the slice's box -/
def KB (Bs n₀ : Nat) (W W' : World) : Prop := Below n₀ W W' ∧ W'.heap[Bs]? = W.heap[Bs]?
theorem KB.refl (Bs n₀ : Nat) (W : World) : KB Bs n₀ W W := ⟨Below.refl _ _, rfl⟩
theorem KB.trans {Bs n₀ : Nat} {A B C : World} (h : KB Bs n₀ A B) (k : KB Bs n₀ B C) : KB Bs n₀ A C := ⟨h.1.trans k.1, k.2.trans h.2⟩
theorem kb_b {Bs n₀ : Nat} {w : World} (hn : n₀ ≤ w.heap.size) (hB : Bs < w.heap.size) : ∀ (W : World) (l : Nat) (o o' : Obj), w.heap.size ≤ l → W.heap[l]? = some o → o.isCells = false → o.isWalk = false → KB Bs n₀ W (W.putObj l o') :=
  fun W l o o' h1 h2 h3 h4 => ⟨belowK_b (w := w) hn W l o o' h1 h2 h3 h4, World.putObj_heap_other (by omega)⟩
/-- what a round is handed -/
def bkE (zs : List (List UInt8)) (x : Fin zs.length) : Array Value := #[.int .i64 ((zs.length : Int) - 1 - (x.1 : Nat)), .string (mk (zs[zs.length - 1 - x.1]'(by have := x.2; omega)))]
set_option maxRecDepth 100000 in
set_option maxHeartbeats 2000000 in
theorem back1_in (F : Fence) (n : Nat) (h7 : F.fn 59) (hro : F.round = none) (hn : 1 ≤ n) (l Bs n₀ b o c : Nat) (zs : List (List UInt8)) (hN : zs.length ≤ 1099511627776) (hb : b < n₀) (J Jx : List (Fin zs.length) → World → Prop)
    (hY : ∀ pre x W, J pre W → pre.length < zs.length → YieldAt F (n - 1) Try.prog l (bkE zs x) W fun e W' =>
      (e = .returned (.bool true) ∧ J (pre ++ [x]) W' ∧ KB Bs n₀ W W') ∨ (e = .returned (.bool false) ∧ Jx (pre ++ [x]) W'))
    (W : World) (hBs : W.cell? ⟨Bs, 0, none⟩ = some (.slice (some ⟨b, o, none⟩) zs.length c)) (hc : ∀ j (hj : j < zs.length), W.cell? ⟨b, o + j, none⟩ = some (.string (mk zs[j]))) (h0 : J [] W) :
    CallsIn F n Try.prog 59 #[.func (.yield l) #[] #[], .pointer (some ⟨Bs, 0, none⟩)] W fun e W' => (∃ v, e = .returned v) ∧
      ((∃ ys, ys = fins zs.length zs.length ∧ J ys W') ∨ (∃ pre, (∃ k, k ≤ zs.length ∧ pre = fins zs.length k) ∧ Jx pre W')) := by
  refine callsIn_of_wp Try.func59 rfl h7 ?_ hro
  simp only [Try.ntmps59, List.size_toArray, List.length_cons, List.length_nil, Nat.reduceAdd, Nat.reduceSub, Array.replicate_succ, Array.replicate_zero, List.push_toArray, List.append_toArray, List.nil_append, List.cons_append]
  gi_wp2
  gi_loopw [3] (fun i wr => ∃ k : Nat, k ≤ zs.length ∧ i = .int .i64 ((zs.length : Int) - 1 - k) ∧ J (fins zs.length k) wr ∧ KB Bs n₀ W wr)
    (fun i _ => (intOf i + 1).toNat)
  case atStart => exact ⟨0, Nat.zero_le _, by simp, h0, KB.refl _ _ _⟩
  case round =>
    obtain ⟨k, hk, rfl, hJs, hnx⟩ := hrel
    have hbx : wr.cell? ⟨Bs, 0, none⟩ = some (.slice (some ⟨b, o, none⟩) zs.length c) := (World.cell?_of_block hnx.2).trans hBs
    by_cases hlt : k < zs.length
    · have hcx := (hnx.1.cell (p := ⟨b, o + (zs.length - 1 - k), none⟩) hb).trans (hc (zs.length - 1 - k) (by omega))
      obtain ⟨fn, tmps, assign, body, hy, hR⟩ := hY _ ⟨k, hlt⟩ wr hJs (by rw [fins_length _ _ hk]; exact hlt)
      have e1 : ((zs.length : Int) - 1 - (k : Int)).toNat = zs.length - 1 - k := by omega
      unfold bkE at hy
      gi_wp2
      refine hR.mono ?_
      rintro e W3 (⟨rfl, hJ3, hk3⟩ | ⟨rfl, hJx3⟩)
      · gi_wp2
        go_roundw
        case rel => exact ⟨k + 1, by omega, by simp; omega, by rw [fins_succ _ _ hlt]; exact hJ3, hnx.trans hk3⟩
        case measure => simp [intOf]; omega
      · gi_wp2
        refine bodyPost_ret (results_none rfl _ _ _) rfl ?_
        exact ⟨⟨_, rfl⟩, .inr ⟨_, ⟨k + 1, by omega, (fins_succ _ _ hlt).symm⟩, hJx3⟩⟩
    · obtain rfl : k = zs.length := by omega
      gi_wp2
      go_end0
      exact ⟨⟨_, rfl⟩, .inl ⟨_, rfl, hJs⟩⟩
set_option maxRecDepth 100000 in
set_option maxHeartbeats 1000000 in
theorem back1_nil_in (F : Fence) (n : Nat) (h7 : F.fn 59) (hro : F.round = none) (l Bs c : Nat) (a : Option Addr) {α : Type} (J : List α → World → Prop) (W : World) (hBs : W.cell? ⟨Bs, 0, none⟩ = some (.slice a 0 c)) (h0 : J [] W) :
    CallsIn F n Try.prog 59 #[.func (.yield l) #[] #[], .pointer (some ⟨Bs, 0, none⟩)] W fun e W' => (∃ v, e = .returned v) ∧ J [] W' := by
  refine callsIn_of_wp Try.func59 rfl h7 ?_ hro
  simp only [Try.ntmps59, List.size_toArray, List.length_cons, List.length_nil, Nat.reduceAdd, Nat.reduceSub, Array.replicate_succ, Array.replicate_zero, List.push_toArray, List.append_toArray, List.nil_append, List.cons_append]
  gi_wp2
  gi_loopw [3] (fun i wr => i = .int .i64 (-1) ∧ J [] wr) (fun _ _ => 0)
  case atStart => exact ⟨by simp, h0⟩
  case round =>
    obtain ⟨rfl, hJs⟩ := hrel
    gi_wp2
    go_end0
    exact ⟨⟨_, rfl⟩, hJs⟩
set_option maxHeartbeats 1000000 in
theorem back_in (F : Fence) (n : Nat) (h5 : F.fn 55) (hro : F.round = none) (a : Option Addr) (len cap : Nat) (w : World) :
    CallsIn F n Try.prog 55 #[.slice a len cap] w fun e w' => e = .returned (.func (.func 59) #[] #[.pointer (some ⟨w.heap.size, 0, none⟩)]) ∧ w' = w.alloc (.cells #[.slice a len cap] 46) := by
  refine callsIn_of_wp Try.func55 rfl h5 ?_ hro
  simp only [Try.ntmps55, List.size_toArray, List.length_cons, List.length_nil, Nat.reduceAdd, Nat.reduceSub, Array.replicate_succ, Array.replicate_zero, List.push_toArray, List.append_toArray, List.nil_append, List.cons_append]
  gi_wp2
  go_ret
  exact ⟨rfl, rfl⟩
theorem back_stops (F : Fence) (n : Nat) (h7 : F.fn 59) (hro : F.round = none) (hn : 1 ≤ n) (Bs n₀ c : Nat) (a : Option Addr) (zs : List (List UInt8)) (hN : zs.length ≤ 1099511627776) (w : World) (hBs : Bs < w.heap.size) (hn₀ : n₀ ≤ w.heap.size)
    (hc : w.cell? ⟨Bs, 0, none⟩ = some (.slice a zs.length c)) (hI : zs.length = 0 ∨ ∃ b o, a = some ⟨b, o, none⟩ ∧ b < n₀ ∧ ∀ j (hj : j < zs.length), w.cell? ⟨b, o + j, none⟩ = some (.string (mk zs[j]))) :
    SeqStopsK F n Try.prog 59 #[.pointer (some ⟨Bs, 0, none⟩)] (bkE zs) (KB Bs n₀) (fun ys => ys = fins zs.length zs.length) (fun pre => ∃ k, k ≤ zs.length ∧ pre = fins zs.length k) zs.length w := fun l J Jx W hW _ _ hY h0 => by
  have hc' := (hW.cell (p := ⟨Bs, 0, none⟩) hBs).trans hc
  rcases hI with he | ⟨b, o, rfl, hb, hcs⟩
  · rw [he] at hc'
    refine (back1_nil_in F n h7 hro l Bs c a J W hc' h0).mono fun e W' ⟨he', hj⟩ => ⟨he', .inl ⟨_, rfl, ?_⟩⟩
    have : fins zs.length zs.length = [] := List.eq_nil_of_length_eq_zero (by rw [fins_length _ _ (Nat.le_refl _)]; exact he)
    rw [this]; exact hj
  · exact back1_in F n h7 hro hn l Bs n₀ b o c zs hN hb J Jx hY W hc' (fun j hj => (hW.cell (p := ⟨b, o + j, none⟩) (by show b < _; omega)).trans (hcs j hj)) h0
end Go.Proofs.Ytbpkhnnfdjihdaa
