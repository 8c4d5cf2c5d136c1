/- Copies by slices.Clone: names 67, numbers 68, texts 69, bytes 70. -/
import Derived.Test.YthgnlbdolilklaaStq
namespace Go.Proofs.Ythgnlbdolilklaa
open Go Go.RowKit
set_option maxHeartbeats 4000000 in
set_option maxRecDepth 100000 in
theorem clone_name {w : World} {a : Option Addr} {n c : Nat} {l : List (List UInt8)} (h : Rd strE w a n c l) (hn : n * 16 ≤ 140737488355328) :
    Calls Try.prog 67 #[.slice a n c] w fun e w' => (∃ a' c', e = .returned (.slice a' n c') ∧ Own strE w' w.heap.size (.slice a' n c') l) ∧ Below w.heap.size w w' := by
  obtain ⟨i0, hi, hz0, hz1, hz2⟩ := info_parts Try.info9
  have hl := h.len
  have hown := Own.made strE w #[] [] 0 rfl rfl (by simp [maxLen])
  have hsrc := (h.ext ((Below.refl _ w).alloc (Nat.le_refl _) (.cells #[] 9))).src (P := Try.prog) Try.underlying26
  have q41 : ∀ (u : World) (a : Option Addr) (n c : Nat), (binOp .eql 26 (.slice a n c) (.slice none 0 0)).run Try.prog u = .ok (.bool a.isNone) u := fun u a n c => Go.Lib.run_eql_slice_nil u 26 9 a n c 0 0 Try.underlying26
  cases a with
  | none =>
    have hn0 : n = 0 := by
      rcases Nat.eq_zero_or_pos n with h0 | h0
      · exact h0
      · obtain ⟨b, o, hb⟩ := h.addr h0; simp at hb
    subst hn0
    have hl0 : l = [] := List.length_eq_zero_iff.1 hl
    subst hl0
    have hc : c = c := rfl
    clear hc
    go_enter Try.func67, Try.ntmps67
    go_wp2_with fail
    go_ret
    exact ⟨⟨none, 0, rfl, Own.nil _ _ _⟩, Below.refl _ _⟩
  | some ad =>
  clear h
  go_enter Try.func67, Try.ntmps67
  go_wp2_with (at_builtin; refine app_own (E := strE) rfl _ _ 26 26 rfl Try.underlying26 hi hz0 hz1 hz2 rfl rfl hown rfl hsrc ?c1 ?c2 ?c3 ?_)
  case c1 => simp [maxLen]; omega
  case c2 => simp; omega
  case c3 => simp
  intro v' w2 ho hg _
  obtain ⟨a', c', rfl⟩ := ho.shape
  have hb2 := own_below ((Below.refl w.heap.size w).alloc (Nat.le_refl _) _) hg hown (by simp) (Nat.le_refl _)
  have hO := Lib.hid ho
  clear ho hg hsrc hown
  go_wp2
  go_ret
  refine ⟨⟨a', c', ?_, ?_⟩, hb2⟩
  · rw [← hl]
    rfl
  · rw [← hl]
    simpa using hO.out
set_option maxHeartbeats 4000000 in
set_option maxRecDepth 100000 in
theorem clone_u32 {w : World} {a : Option Addr} {n c : Nat} {l : List Nat} (h : Rd u32E w a n c l) (hn : n * 4 ≤ 140737488355328) :
    Calls Try.prog 68 #[.slice a n c] w fun e w' => (∃ a' c', e = .returned (.slice a' n c') ∧ Own u32E w' w.heap.size (.slice a' n c') l) ∧ Below w.heap.size w w' := by
  obtain ⟨i0, hi, hz0, hz1, hz2⟩ := info_parts Try.info30
  have hl := h.len
  have hown := Own.made u32E w #[] [] 0 rfl rfl (by simp [maxLen])
  have hsrc := (h.ext ((Below.refl _ w).alloc (Nat.le_refl _) (.cells #[] 30))).src (P := Try.prog) Try.underlying32
  have q41 : ∀ (u : World) (a : Option Addr) (n c : Nat), (binOp .eql 32 (.slice a n c) (.slice none 0 0)).run Try.prog u = .ok (.bool a.isNone) u := fun u a n c => Go.Lib.run_eql_slice_nil u 32 30 a n c 0 0 Try.underlying32
  cases a with
  | none =>
    have hn0 : n = 0 := by
      rcases Nat.eq_zero_or_pos n with h0 | h0
      · exact h0
      · obtain ⟨b, o, hb⟩ := h.addr h0; simp at hb
    subst hn0
    have hl0 : l = [] := List.length_eq_zero_iff.1 hl
    subst hl0
    have hc : c = c := rfl
    clear hc
    go_enter Try.func68, Try.ntmps68
    go_wp2_with fail
    go_ret
    exact ⟨⟨none, 0, rfl, Own.nil _ _ _⟩, Below.refl _ _⟩
  | some ad =>
  clear h
  go_enter Try.func68, Try.ntmps68
  go_wp2_with (at_builtin; refine app_own (E := u32E) rfl _ _ 32 32 rfl Try.underlying32 hi hz0 hz1 hz2 rfl rfl hown rfl hsrc ?c1 ?c2 ?c3 ?_)
  case c1 => simp [maxLen]; omega
  case c2 => simp; omega
  case c3 => simp
  intro v' w2 ho hg _
  obtain ⟨a', c', rfl⟩ := ho.shape
  have hb2 := own_below ((Below.refl w.heap.size w).alloc (Nat.le_refl _) _) hg hown (by simp) (Nat.le_refl _)
  have hO := Lib.hid ho
  clear ho hg hsrc hown
  go_wp2
  go_ret
  refine ⟨⟨a', c', ?_, ?_⟩, hb2⟩
  · rw [← hl]
    rfl
  · rw [← hl]
    simpa using hO.out
set_option maxHeartbeats 4000000 in
set_option maxRecDepth 100000 in
theorem clone_strs {w : World} {a : Option Addr} {n c : Nat} {l : List (List UInt8)} (h : Rd strE w a n c l) (hn : n * 16 ≤ 140737488355328) :
    Calls Try.prog 69 #[.slice a n c] w fun e w' => (∃ a' c', e = .returned (.slice a' n c') ∧ Own strE w' w.heap.size (.slice a' n c') l) ∧ Below w.heap.size w w' := by
  obtain ⟨i0, hi, hz0, hz1, hz2⟩ := info_parts Try.info9
  have hl := h.len
  have hown := Own.made strE w #[] [] 0 rfl rfl (by simp [maxLen])
  have hsrc := (h.ext ((Below.refl _ w).alloc (Nat.le_refl _) (.cells #[] 9))).src (P := Try.prog) Try.underlying25
  have q41 : ∀ (u : World) (a : Option Addr) (n c : Nat), (binOp .eql 25 (.slice a n c) (.slice none 0 0)).run Try.prog u = .ok (.bool a.isNone) u := fun u a n c => Go.Lib.run_eql_slice_nil u 25 9 a n c 0 0 Try.underlying25
  cases a with
  | none =>
    have hn0 : n = 0 := by
      rcases Nat.eq_zero_or_pos n with h0 | h0
      · exact h0
      · obtain ⟨b, o, hb⟩ := h.addr h0; simp at hb
    subst hn0
    have hl0 : l = [] := List.length_eq_zero_iff.1 hl
    subst hl0
    have hc : c = c := rfl
    clear hc
    go_enter Try.func69, Try.ntmps69
    go_wp2_with fail
    go_ret
    exact ⟨⟨none, 0, rfl, Own.nil _ _ _⟩, Below.refl _ _⟩
  | some ad =>
  clear h
  go_enter Try.func69, Try.ntmps69
  go_wp2_with (at_builtin; refine app_own (E := strE) rfl _ _ 25 25 rfl Try.underlying25 hi hz0 hz1 hz2 rfl rfl hown rfl hsrc ?c1 ?c2 ?c3 ?_)
  case c1 => simp [maxLen]; omega
  case c2 => simp; omega
  case c3 => simp
  intro v' w2 ho hg _
  obtain ⟨a', c', rfl⟩ := ho.shape
  have hb2 := own_below ((Below.refl w.heap.size w).alloc (Nat.le_refl _) _) hg hown (by simp) (Nat.le_refl _)
  have hO := Lib.hid ho
  clear ho hg hsrc hown
  go_wp2
  go_ret
  refine ⟨⟨a', c', ?_, ?_⟩, hb2⟩
  · rw [← hl]
    rfl
  · rw [← hl]
    simpa using hO.out
set_option maxHeartbeats 4000000 in
set_option maxRecDepth 100000 in
theorem clone_bytes {w : World} {a : Option Addr} {n c : Nat} {l : List UInt8} (h : Rd byteE w a n c l) (hn : n * 1 ≤ 140737488355328) :
    Calls Try.prog 70 #[.slice a n c] w fun e w' => (∃ a' c', e = .returned (.slice a' n c') ∧ Own byteE w' w.heap.size (.slice a' n c') l) ∧ Below w.heap.size w w' := by
  obtain ⟨i0, hi, hz0, hz1, hz2⟩ := info_parts Try.info5
  have hl := h.len
  have hown := Own.made byteE w #[] [] 0 rfl rfl (by simp [maxLen])
  have hsrc := (h.ext ((Below.refl _ w).alloc (Nat.le_refl _) (.cells #[] 5))).src (P := Try.prog) Try.underlying33
  have q41 : ∀ (u : World) (a : Option Addr) (n c : Nat), (binOp .eql 33 (.slice a n c) (.slice none 0 0)).run Try.prog u = .ok (.bool a.isNone) u := fun u a n c => Go.Lib.run_eql_slice_nil u 33 5 a n c 0 0 Try.underlying33
  cases a with
  | none =>
    have hn0 : n = 0 := by
      rcases Nat.eq_zero_or_pos n with h0 | h0
      · exact h0
      · obtain ⟨b, o, hb⟩ := h.addr h0; simp at hb
    subst hn0
    have hl0 : l = [] := List.length_eq_zero_iff.1 hl
    subst hl0
    have hc : c = c := rfl
    clear hc
    go_enter Try.func70, Try.ntmps70
    go_wp2_with fail
    go_ret
    exact ⟨⟨none, 0, rfl, Own.nil _ _ _⟩, Below.refl _ _⟩
  | some ad =>
  clear h
  go_enter Try.func70, Try.ntmps70
  go_wp2_with (at_builtin; refine app_own (E := byteE) rfl _ _ 33 33 rfl Try.underlying33 hi hz0 hz1 hz2 rfl rfl hown rfl hsrc ?c1 ?c2 ?c3 ?_)
  case c1 => simp [maxLen]; omega
  case c2 => simp; omega
  case c3 => simp
  intro v' w2 ho hg _
  obtain ⟨a', c', rfl⟩ := ho.shape
  have hb2 := own_below ((Below.refl w.heap.size w).alloc (Nat.le_refl _) _) hg hown (by simp) (Nat.le_refl _)
  have hO := Lib.hid ho
  clear ho hg hsrc hown
  go_wp2
  go_ret
  refine ⟨⟨a', c', ?_, ?_⟩, hb2⟩
  · rw [← hl]
    rfl
  · rw [← hl]
    simpa using hO.out
theorem enter67 (args : Array Value) (w : World) : (callFunc 67 args).run Try.prog w = .ok (.enter 67 args) w := Go.MuLone.run_callFunc_enter Try.func67 (by kernel_rfl) (by rfl) args w
theorem enter68 (args : Array Value) (w : World) : (callFunc 68 args).run Try.prog w = .ok (.enter 68 args) w := Go.MuLone.run_callFunc_enter Try.func68 (by kernel_rfl) (by rfl) args w
theorem enter69 (args : Array Value) (w : World) : (callFunc 69 args).run Try.prog w = .ok (.enter 69 args) w := Go.MuLone.run_callFunc_enter Try.func69 (by kernel_rfl) (by rfl) args w
theorem enter70 (args : Array Value) (w : World) : (callFunc 70 args).run Try.prog w = .ok (.enter 70 args) w := Go.MuLone.run_callFunc_enter Try.func70 (by kernel_rfl) (by rfl) args w
end Go.Proofs.Ythgnlbdolilklaa
