/- Slices: Grow 61, Clone 70. Concat 38. -/
import Derived.Test.YthgnlbdolilklaaJn3
import Derived.Deep.RegionWith
import Derived.Laws.MakeOwn
import Derived.Deep.RegionHeld3
import Derived.Laws.BitsAllLaws
import Derived.Lib.AppendZerosOnto
namespace Go.Proofs.Ythgnlbdolilklaa
open Go.RowKit
set_option maxHeartbeats 4000000 in
set_option maxRecDepth 100000 in
theorem grow_nil (n : Nat) (w : World) (hn : n ≤ 70368744177664) :
    Calls Try.prog 61 #[.slice none 0 0, .int .i64 n] w fun e w' => (∃ v, e = .returned v ∧ Own byteE w' w.heap.size v []) ∧ Below w.heap.size w w' := by
  obtain ⟨i0, hi, hz0, hz1, hz2⟩ := info_parts Try.info5
  by_cases h0 : n = 0
  · subst h0
    go_enter Try.func61, Try.ntmps61
    go_wp2_with fail
    go_ret
    exact ⟨⟨_, rfl, Own.nil _ _ _⟩, Below.refl _ _⟩
  · have hnI : (0 : Int) < n := by omega
    have hb5 : ¬ (281474976710656 < Builtin.nextslicecap n 0 * Try.t5.bytes) := by rw [nextslicecap_zero (by omega), show Try.t5.bytes = 1 by kernel_rfl]; omega
    have hb6 : ¬ (281474976710656 < (n : Int) * (Try.t5.bytes : Int)) := by rw [show Try.t5.bytes = 1 by kernel_rfl]; omega
    go_enter Try.func61, Try.ntmps61
    go_wp2_with fail
    go_ret
    have hge := grownCap_ge w n 0 5
    have hcm : grownCap w n 0 5 ≤ maxLen := grownCap_le_maxLen w n 0 5 (by simp [maxLen]; omega)
    refine ⟨⟨_, rfl, .inr ⟨w.heap.size, grownCap w n 0 5, List.replicate n 0 ++ List.replicate (grownCap w n 0 5 - n) 0, rfl, Nat.le_refl _, ?_, by simp; omega, Nat.zero_le _, hcm, rfl, fun x _ => .inr (fun v hv b e => by simp [byteE] at hv; subst hv; cases e)⟩⟩, ?_⟩
    · have hB := Blk.new w 5 (0, 0) (Builtin.zeroCells #[Value.int .u8 0] n ++ Builtin.zeroCells #[Value.int .u8 0] (grownCap w n 0 5 - n))
      rw [Array.toList_append, rowOf_replicate byteE n #[Value.int .u8 0] rfl, rowOf_replicate byteE (grownCap w n 0 5 - n) #[Value.int .u8 0] rfl, ← rowOf_append] at hB
      exact hB
    · exact ((Below.refl _ _).alloc (Nat.le_refl _) _).drew
end Go.Proofs.Ythgnlbdolilklaa
namespace Go.Proofs.Ythgnlbdolilklaa
open Go.RowKit
theorem flat_le (Xs : List (List UInt8)) (k : Nat) : (Xs.take k).flatten.length ≤ Xs.flatten.length := by
  have := congrArg List.length (congrArg List.flatten (List.take_append_drop k Xs))
  rw [List.flatten_append, List.length_append] at this; omega
theorem flat_take (Xs : List (List UInt8)) (k : Nat) (h : k < Xs.length) : (Xs.take (k + 1)).flatten = (Xs.take k).flatten ++ Xs[k] := by
  rw [List.take_succ_eq_append_getElem h, List.flatten_append]; simp
set_option maxHeartbeats 4000000 in
set_option maxRecDepth 100000 in
theorem concat_any {w : World} {gl : Nat} (vals : List Value) (Xs : List (List UInt8)) (hG : Blk w gl 33 (0, 0) vals) (hl : vals.length = Xs.length) (hv : ∀ (j : Nat) (X : List UInt8), Xs[j]? = some X → ∃ a n c, vals[j]? = some (.slice a n c) ∧ Rd byteE w a n c X) (hsum : Xs.flatten.length ≤ 70368744177664) (hN : Xs.length ≤ 100) :
    Calls Try.prog 38 #[.slice (some ⟨gl, 0, none⟩) Xs.length Xs.length] w fun e w' => (∃ v, e = .returned v ∧ Own byteE w' w.heap.size v Xs.flatten) ∧ Below w.heap.size w w' := by
  obtain ⟨i0, hi, hz0, hz1, hz2⟩ := info_parts Try.info5
  have hG' := Lib.hid hG
  have hv' := Lib.hid hv
  have hs' := Lib.hid hsum
  clear hG hv hsum
  generalize hNN : Xs.length = N at *
  have hNh := Lib.hid hNN
  clear hNN
  go_enter Try.func38, Try.ntmps38
  go_wp2_with fail
  go_loopw [3, 11] (fun s i wr => ∃ k : Nat, k ≤ N ∧ i = .int .i64 k ∧ s = .int .i64 ((Xs.take k).flatten.length : Nat) ∧ wr = w)
    (fun _ i _ => N - (intOf i).toNat)
  case atStart => exact ⟨0, Nat.zero_le _, rfl, rfl, rfl⟩
  case round =>
    obtain ⟨k, hk, rfl, rfl, rfl⟩ := hrel
    have hle0 := flat_le Xs k
    have hs0 := hs'.out
    by_cases hlt : k < N
    · have hkx : k < Xs.length := by rw [hNh.out]; exact hlt
      obtain ⟨a, n, c, hc1, hr⟩ := hv'.out k Xs[k] (List.getElem?_eq_getElem hkx)
      have hcell : wr.cell? ⟨gl, k, none⟩ = some (.slice a n c) := by rw [hG'.out.cell]; exact hc1
      have hn := hr.len
      have htk := flat_take Xs k hkx
      have hle := flat_le Xs (k + 1)
      rw [htk, List.length_append] at hle
      have htk' : Hid ((Xs.take (k + 1)).flatten.length = (Xs.take k).flatten.length + n) := Lib.hid (by rw [htk, List.length_append, hn])
      have hkI : (k : Int) < N := by omega
      generalize (Xs.take k).flatten.length = D at *
      have hD : D + n ≤ 70368744177664 := by omega
      have hpos : 0 ≤ (D : Int) + n := by omega
      clear hc1 htk hle hr hle0 hs0
      go_wp2_with fail
      go_roundw
      case rel => exact ⟨k + 1, by omega, by go_num, by rw [htk'.out]; go_num, by first | rfl | trivial⟩
      case measure => simp [intOf]; omega
    · have hk' : Xs.take k = Xs := List.take_of_length_le (by have := hNh.out; omega)
      rw [hk']
      have hk2 : k = N := by omega
      subst hk2
      clear hk' hle0 hlt
      obtain ⟨w0, rfl⟩ : ∃ w0, w0 = wr := ⟨_, rfl⟩
      generalize hF : Xs.flatten.length = F at *
      have hFh := Lib.hid hF
      clear hF
      go_wp2_with fail
      refine (grow_nil F w0 hs0).mono ?_
      rintro e w1 ⟨⟨v1, rfl, hO1⟩, hb1⟩
      obtain ⟨a1, c1, rfl⟩ := hO1.shape
      have hO1' := Lib.hid hO1
      clear hO1
      go_wp2_with fail
      go_loopw [6, 27] (fun v i wr => ∃ j : Nat, j ≤ k ∧ i = .int .i64 j ∧ Own byteE wr w0.heap.size v (Xs.take j).flatten ∧ Below w0.heap.size w0 wr)
        (fun _ i _ => k - (intOf i).toNat)
      case atStart => exact ⟨0, Nat.zero_le _, rfl, hO1'.out, hb1⟩
      case round =>
        clear hO1' hb1
        obtain ⟨j, hj, rfl, ho, hb⟩ := hrel
        obtain ⟨a1, cap1, rfl⟩ := ho.shape
        have ho' := Lib.hid ho
        clear ho
        by_cases hlt : j < k
        · have hjx : j < Xs.length := by rw [hNh.out]; exact hlt
          obtain ⟨a, n, c, hc1, hr⟩ := hv'.out j Xs[j] (List.getElem?_eq_getElem hjx)
          have hcell : wr.cell? ⟨gl, j, none⟩ = some (.slice a n c) := (hb.cell (p := ⟨gl, j, none⟩) hG'.out.lt).trans (by rw [hG'.out.cell]; exact hc1)
          have hsrc := Lib.hid ((hr.ext hb).src (P := Try.prog) (tx := 33) Try.underlying33)
          have htk := flat_take Xs j hjx
          have hle := flat_le Xs (j + 1)
          rw [htk, List.length_append] at hle
          have htk' := Lib.hid htk
          have hkI : (j : Int) < k := by omega
          generalize hX : Xs[j] = X at *
          generalize hD : (Xs.take j).flatten = D at *
          have hle' : Hid (D.length + X.length ≤ 70368744177664) := Lib.hid (by have := hFh.out; omega)
          clear hc1 htk hle hr hD hX
          go_wp2_with (at_builtin; refine app_own (E := byteE) rfl (.tmp 31) (.tmp 32) 33 33 rfl Try.underlying33 hi hz0 hz1 hz2 rfl rfl ho'.out rfl hsrc.out ?c1 ?c2 hb.size ?_)
          case c1 => have := hle'.out; simp [maxLen]; omega
          case c2 => have := hle'.out; simp; omega
          intro v3 w3 h3 hg3 _
          obtain ⟨a3, cap3, hv3⟩ := h3.shape
          subst hv3
          have hb3 : Below w0.heap.size w0 w3 := own_below hb hg3 ho'.out hb.size (Nat.le_refl _)
          have h3' := Lib.hid h3
          clear h3
          go_wp2_with fail
          go_roundw
          case rel => exact ⟨j + 1, by omega, by go_num, by rw [htk'.out]; simpa using h3'.out, hb3⟩
          case measure => simp [intOf]; omega
        · have hk' : Xs.take j = Xs := List.take_of_length_le (by have := hNh.out; omega)
          rw [hk'] at ho'
          have hk2 : j = k := by omega
          subst hk2
          rw [hk']
          clear hk'
          go_wp2_with fail
          go_ret
          exact ⟨⟨_, rfl, ho'.out⟩, hb⟩
end Go.Proofs.Ythgnlbdolilklaa
