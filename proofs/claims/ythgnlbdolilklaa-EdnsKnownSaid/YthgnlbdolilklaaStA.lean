/- Slices: Grow 61, Clone 70. -/
import Derived.Test.YthgnlbdolilklaaNumA
import Derived.Deep.RegionWith
import Derived.Laws.MakeOwn
import Derived.Deep.RegionHeld3
import Derived.Laws.BitsAllLaws
import Derived.Lib.AppendZerosOnto
namespace Go.Proofs.Ythgnlbdolilklaa
open Go.RowKit
theorem rep_u8 (n : Nat) : List.replicate n (Value.int .u8 0) = u8s (List.replicate n 0) := by simp [u8s, u8]
set_option maxHeartbeats 4000000 in
set_option maxRecDepth 100000 in
theorem grow_nil (n : Nat) (w : World) (hn : n ≤ 70368744177664) :
    Calls Try.prog 61 #[.slice none 0 0, .int .i64 n] w fun e w' => (∃ v, e = .returned v ∧ Own byteE w' w.heap.size v []) ∧ Below w.heap.size w w' := by
  obtain ⟨i0, hi, hz0, hz1, hz2⟩ := info_parts Try.info5
  by_cases h0 : n = 0
  · subst h0
    go_enter Try.func61, Try.ntmps61
    go_wp2_with fail
    go_ret
    exact ⟨⟨_, rfl, Own.nil _ _ _⟩, Below.refl _ _⟩
  · have hnI : (0 : Int) < n := by omega
    have hb5 : ¬ (281474976710656 < Builtin.nextslicecap n 0 * Try.t5.bytes) := by rw [nextslicecap_zero (by omega), show Try.t5.bytes = 1 by kernel_rfl]; omega
    have hb6 : ¬ (281474976710656 < (n : Int) * (Try.t5.bytes : Int)) := by rw [show Try.t5.bytes = 1 by kernel_rfl]; omega
    go_enter Try.func61, Try.ntmps61
    go_wp2_with fail
    go_ret
    have hge := grownCap_ge w n 0 5
    have hcm : grownCap w n 0 5 ≤ maxLen := grownCap_le_maxLen w n 0 5 (by simp [maxLen]; omega)
    refine ⟨⟨_, rfl, .inr ⟨w.heap.size, grownCap w n 0 5, List.replicate n 0 ++ List.replicate (grownCap w n 0 5 - n) 0, rfl, Nat.le_refl _, ?_, by simp; omega, Nat.zero_le _, hcm, rfl⟩⟩, ?_⟩
    · have hB := Blk.new w 5 (0, 0) (Builtin.zeroCells #[Value.int .u8 0] n ++ Builtin.zeroCells #[Value.int .u8 0] (grownCap w n 0 5 - n))
      rw [Array.toList_append, rowOf_replicate byteE n #[Value.int .u8 0] rfl, rowOf_replicate byteE (grownCap w n 0 5 - n) #[Value.int .u8 0] rfl, ← rowOf_append] at hB
      exact hB
    · exact ((Below.refl _ _).alloc (Nat.le_refl _) _).drew
set_option maxHeartbeats 4000000 in
set_option maxRecDepth 100000 in
theorem clone_any {w : World} {a : Option Addr} {n c : Nat} {l : List UInt8} (h : Rd byteE w a n c l) (hn : n ≤ 70368744177664) :
    Calls Try.prog 70 #[.slice a n c] w fun e w' => (∃ v, e = .returned v ∧ Own byteE w' w.heap.size v l) ∧ Below w.heap.size w w' := by
  obtain ⟨i0, hi, hz0, hz1, hz2⟩ := info_parts Try.info5
  have hl := h.len
  have hown := Own.made byteE w #[] [] 0 rfl rfl (by simp [maxLen])
  have hsrc := (h.ext ((Below.refl _ w).alloc (Nat.le_refl _) (.cells #[] 5))).src (P := Try.prog) Try.underlying33
  have q41 : ∀ (u : World) (a : Option Addr) (n c : Nat), (binOp .eql 33 (.slice a n c) (.slice none 0 0)).run Try.prog u = .ok (.bool a.isNone) u := fun u a n c => Go.Lib.run_eql_slice_nil u 33 5 a n c 0 0 Try.underlying33
  cases a with
  | none =>
    have hn0 : n = 0 := by
      rcases Nat.eq_zero_or_pos n with h0 | h0
      · exact h0
      · obtain ⟨b, o, hb⟩ := h.addr h0; simp at hb
    subst hn0
    have hl0 : l = [] := List.length_eq_zero_iff.1 hl
    subst hl0
    go_enter Try.func70, Try.ntmps70
    go_wp2_with fail
    go_ret
    exact ⟨⟨_, rfl, Own.nil _ _ _⟩, Below.refl _ _⟩
  | some ad =>
  clear h
  go_enter Try.func70, Try.ntmps70
  go_wp2_with (at_builtin; refine app_own (E := byteE) rfl _ _ 33 33 rfl Try.underlying33 hi hz0 hz1 hz2 rfl rfl hown rfl hsrc ?c1 ?c2 ?c3 ?_)
  case c1 => simp [maxLen]; omega
  case c2 => simp; omega
  case c3 => simp
  intro v' w2 ho hg _
  obtain ⟨a', c', rfl⟩ := ho.shape
  have hb2 := own_below ((Below.refl w.heap.size w).alloc (Nat.le_refl _) _) hg hown (by simp) (Nat.le_refl _)
  have hO := Lib.hid ho
  clear ho hg hsrc hown
  go_wp2
  go_ret
  exact ⟨⟨_, rfl, hO.out⟩, hb2⟩
end Go.Proofs.Ythgnlbdolilklaa
