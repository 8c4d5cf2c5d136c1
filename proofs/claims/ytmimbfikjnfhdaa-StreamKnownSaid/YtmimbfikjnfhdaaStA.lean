/- Go's slices as the stream uses them: Grow 46, Concat 41, Clone 43; twelve 34. -/
import Derived.Test.YtmimbfikjnfhdaaOct
import Derived.Lib.AppendZerosOnto
namespace Go.Proofs.Ytmimbfikjnfhdaa
open Go.RowKit
theorem rep_u8 (n : Nat) : List.replicate n (Value.int .u8 0) = u8s (List.replicate n 0) := by simp [u8s, u8]
set_option maxHeartbeats 4000000 in
set_option maxRecDepth 100000 in
theorem grow_nil (n : Nat) (w : World) (hn : n ≤ 70368744177664) :
    Calls Try.prog 46 #[.slice none 0 0, .int .i64 n] w fun e w' => (∃ v, e = .returned v ∧ Own byteE w' w.heap.size v []) ∧ Below w.heap.size w w' := by
  obtain ⟨i0, hi, hz0, hz1, hz2⟩ := info_parts Try.info5
  by_cases h0 : n = 0
  · subst h0
    go_enter Try.func46, Try.ntmps46
    go_wp2_with fail
    go_ret
    exact ⟨⟨_, rfl, Own.nil _ _ _⟩, Below.refl _ _⟩
  · have hnI : (0 : Int) < n := by omega
    have hb5 : ¬ (281474976710656 < Builtin.nextslicecap n 0 * Try.t5.bytes) := by rw [nextslicecap_zero (by omega), show Try.t5.bytes = 1 by kernel_rfl]; omega
    have hb6 : ¬ (281474976710656 < (n : Int) * (Try.t5.bytes : Int)) := by rw [show Try.t5.bytes = 1 by kernel_rfl]; omega
    go_enter Try.func46, Try.ntmps46
    go_wp2_with fail
    go_ret
    have hge := grownCap_ge w n 0 5
    have hcm : grownCap w n 0 5 ≤ maxLen := grownCap_le_maxLen w n 0 5 (by simp [maxLen]; omega)
    refine ⟨⟨_, rfl, .inr ⟨w.heap.size, grownCap w n 0 5, List.replicate n 0 ++ List.replicate (grownCap w n 0 5 - n) 0, rfl, Nat.le_refl _, ?_, by simp; omega, Nat.zero_le _, hcm, rfl⟩⟩, ?_⟩
    · have hB := Blk.new w 5 (0, 0) (Builtin.zeroCells #[Value.int .u8 0] n ++ Builtin.zeroCells #[Value.int .u8 0] (grownCap w n 0 5 - n))
      rw [Array.toList_append, rowOf_replicate byteE n #[Value.int .u8 0] rfl, rowOf_replicate byteE (grownCap w n 0 5 - n) #[Value.int .u8 0] rfl, ← rowOf_append] at hB
      exact hB
    · exact ((Below.refl _ _).alloc (Nat.le_refl _) _).drew
set_option maxHeartbeats 4000000 in
set_option maxRecDepth 100000 in
theorem clone_any {w : World} {a : Option Addr} {n c : Nat} {l : List UInt8} (h : Rd byteE w a n c l) (hn : n ≤ 70368744177664) :
    Calls Try.prog 43 #[.slice a n c] w fun e w' => (∃ v, e = .returned v ∧ Own byteE w' w.heap.size v l) ∧ Below w.heap.size w w' := by
  obtain ⟨i0, hi, hz0, hz1, hz2⟩ := info_parts Try.info5
  have hl := h.len
  have hown := Own.made byteE w #[] [] 0 rfl rfl (by simp [maxLen])
  have hsrc := (h.ext ((Below.refl _ w).alloc (Nat.le_refl _) (.cells #[] 5))).src (P := Try.prog) Try.underlying41
  have q41 : ∀ (u : World) (a : Option Addr) (n c : Nat), (binOp .eql 41 (.slice a n c) (.slice none 0 0)).run Try.prog u = .ok (.bool a.isNone) u := fun u a n c => Go.Lib.run_eql_slice_nil u 41 5 a n c 0 0 Try.underlying41
  cases a with
  | none =>
    have hn0 : n = 0 := by
      rcases Nat.eq_zero_or_pos n with h0 | h0
      · exact h0
      · obtain ⟨b, o, hb⟩ := h.addr h0; simp at hb
    subst hn0
    have hl0 : l = [] := List.length_eq_zero_iff.1 hl
    subst hl0
    go_enter Try.func43, Try.ntmps43
    go_wp2_with fail
    go_ret
    exact ⟨⟨_, rfl, Own.nil _ _ _⟩, Below.refl _ _⟩
  | some ad =>
  clear h
  go_enter Try.func43, Try.ntmps43
  go_wp2_with (at_builtin; refine app_own (E := byteE) rfl _ _ 41 41 rfl Try.underlying41 hi hz0 hz1 hz2 rfl rfl hown rfl hsrc ?c1 ?c2 ?c3 ?_)
  case c1 => simp [maxLen]; omega
  case c2 => simp; omega
  case c3 => simp
  intro v' w2 ho hg _
  obtain ⟨a', c', rfl⟩ := ho.shape
  have hb2 := own_below ((Below.refl w.heap.size w).alloc (Nat.le_refl _) _) hg hown (by simp) (Nat.le_refl _)
  have hO := Lib.hid ho
  clear ho hg hsrc hown
  go_wp2
  go_ret
  exact ⟨⟨_, rfl, hO.out⟩, hb2⟩
set_option maxHeartbeats 4000000 in
set_option maxRecDepth 100000 in
theorem twelve_any (n : Nat) (b : UInt8) (w : World) (hn : n ≤ 70368744177664) :
    Calls Try.prog 34 #[.int .i64 n, .int .u8 b.toNat] w fun e w' => e = .returned (.slice (some ⟨w.heap.size, 0, none⟩) n n) ∧ Blk w' w.heap.size 5 (0, 0) (u8s (List.replicate n b)) ∧ Below w.heap.size w w' := by
  obtain ⟨i0, hi, hz0, hz1, hz2⟩ := info_parts Try.info5
  have hmk : ∀ u : World, (Instr.makeSlice 41 (.int .i64 (n : Int)) (.int .i64 (n : Int))).run Try.prog u =
      .ok (.slice (some ⟨u.heap.size, 0, none⟩) n n) (u.alloc (.cells (madeCells #[.int .u8 0] n) 5)) := fun u => by
    have h := run_make (P := Try.prog) u 41 5 i0 (.int .u8 0) Try.underlying41 hi hz0 .i64 .i64 (n : Int) (n : Int) (by omega) (Int.le_refl _) (by rw [hz2]; omega) (by omega)
    rw [Int.toNat_natCast] at h
    simpa [hz1, Value.cells] using h
  go_enter Try.func34, Try.ntmps34
  go_wp2_with fail
  have hB0 := Blk.new w 5 (0, 0) (madeCells #[.int .u8 0] n)
  rw [madeCells_one] at hB0
  have hB0' : Hid (Blk (w.alloc (.cells (madeCells #[.int .u8 0] n) 5)) w.heap.size 5 (0, 0) (List.replicate 0 (.int .u8 b.toNat) ++ List.replicate (n - 0) (.int .u8 0))) := Lib.hid (by simpa using hB0)
  have hb0 : Below w.heap.size w (w.alloc (.cells (madeCells #[.int .u8 0] n) 5)) := (Below.refl _ _).alloc (Nat.le_refl _) _
  generalize w.alloc (.cells (madeCells #[.int .u8 0] n) 5) = w1 at *
  clear hB0 hmk
  obtain ⟨g, hg⟩ : ∃ g, Hid (w.heap.size = g) := ⟨_, Lib.hid rfl⟩
  rw [hg.out] at hB0' hb0 ⊢
  go_loopw [6] (fun iv wr => ∃ k : Nat, k ≤ n ∧ iv = .int .i64 k ∧ Hid (Blk wr g 5 (0, 0) (List.replicate k (.int .u8 b.toNat) ++ List.replicate (n - k) (.int .u8 0))) ∧ Below g w wr)
    (fun iv _ => n - (intOf iv).toNat)
  case atStart => exact ⟨0, Nat.zero_le _, rfl, hB0', hb0⟩
  case round =>
    clear hB0' hb0
    obtain ⟨k, hk, rfl, hB, hb⟩ := hrel
    by_cases hlt : k < n
    · have hst := hB.out.set k (.int .u8 b.toNat)
      have e : (List.replicate k (Value.int .u8 b.toNat) ++ List.replicate (n - k) (Value.int .u8 0)).set k (.int .u8 b.toNat) = List.replicate (k + 1) (.int .u8 b.toNat) ++ List.replicate (n - (k + 1)) (.int .u8 0) := by
        rw [List.set_append_right _ _ (by simp), List.length_replicate, Nat.sub_self, show n - k = (n - (k + 1)) + 1 by omega, List.replicate_succ, List.set_cons_zero, List.replicate_succ', List.append_assoc]; rfl
      rw [e] at hst
      have hst' := Lib.hid hst
      have hcell : wr.cell? ⟨g, k, none⟩ = some (.int .u8 0) := by
        rw [hB.out.cell, List.getElem?_append_right (by simp), List.length_replicate, Nat.sub_self, List.getElem?_replicate, if_pos (by omega)]
      have hfr : wr.frozen? ⟨g, k, none⟩ = false := by rw [hB.out.frozen]; simp
      have hkI : (k : Int) < n := by omega
      clear hst e
      go_wp2_with fail
      go_roundw
      case rel => exact ⟨k + 1, by omega, by go_num, hst', hb.setCell (Nat.le_refl _) _⟩
      case measure => simp [intOf]; omega
    · have hk2 : k = n := by omega
      subst hk2
      rw [Nat.sub_self, List.replicate_zero, List.append_nil] at hB
      go_wp2_with fail
      go_ret
      rw [hg.out]
      refine ⟨rfl, ?_, hb⟩
      simpa [u8s, u8] using hB.out
end Go.Proofs.Ytmimbfikjnfhdaa
