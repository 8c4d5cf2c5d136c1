/- slices.Concat and Grow of ints. -/
import Derived.Test.YtbpkhnnfdjihdaaHdSt
import Derived.Test.YtbpkhnnfdjihdaaRdrN
import Derived.Lib.AppendZerosOnto
namespace Go.Proofs.Ytbpkhnnfdjihdaa
open Go Go.RowKit
theorem Try.info3 : (Try.prog.info? 3).map (fun i => (i.zero, i.size, i.bytes)) = some (some (.int .i64 0), 1, 8) := by kernel_rfl
theorem flat_take (Xs : List (List Int)) (k : Nat) (h : k < Xs.length) : (Xs.take (k + 1)).flatten = (Xs.take k).flatten ++ Xs[k] := by
  rw [List.take_succ_eq_append_getElem h, List.flatten_append]; simp
theorem flat_le (Xs : List (List Int)) (k : Nat) : (Xs.take k).flatten.length ≤ Xs.flatten.length := by
  have := congrArg List.length (congrArg List.flatten (List.take_append_drop k Xs))
  rw [List.flatten_append, List.length_append] at this; omega
set_option maxHeartbeats 4000000 in
set_option maxRecDepth 100000 in
theorem grow_nil (n : Nat) (w : World) (hn : n ≤ 1000) :
    Calls Try.prog 44 #[.slice none 0 0, .int .i64 n] w fun e w' => (∃ v, e = .returned v ∧ Own intE w' w.heap.size v []) ∧ Below w.heap.size w w' := by
  obtain ⟨i0, hi, hz0, hz1, hz2⟩ := info_parts Try.info3
  by_cases h0 : n = 0
  · subst h0
    go_enter Try.func44, Try.ntmps44
    go_wp2_with fail
    go_ret
    exact ⟨⟨_, rfl, Own.nil _ _ _⟩, Below.refl _ _⟩
  · have hnI : (0 : Int) < n := by omega
    have hb5 : ¬ (281474976710656 < Builtin.nextslicecap n 0 * Try.t3.bytes) := by rw [nextslicecap_zero (by omega), show Try.t3.bytes = 8 by kernel_rfl]; omega
    have hb6 : ¬ (281474976710656 < (n : Int) * (Try.t3.bytes : Int)) := by rw [show Try.t3.bytes = 8 by kernel_rfl]; omega
    go_enter Try.func44, Try.ntmps44
    go_wp2_with fail
    go_ret
    have hge := grownCap_ge w n 0 3
    have hcm : grownCap w n 0 3 ≤ maxLen := grownCap_le_maxLen w n 0 3 (by simp [maxLen]; omega)
    refine ⟨⟨_, rfl, .inr ⟨w.heap.size, grownCap w n 0 3, List.replicate n 0 ++ List.replicate (grownCap w n 0 3 - n) 0, rfl, Nat.le_refl _, ?_, by simp; omega, Nat.zero_le _, hcm, rfl⟩⟩, ?_⟩
    · have hB := Blk.new w 3 (0, 0) (Builtin.zeroCells #[Value.int .i64 0] n ++ Builtin.zeroCells #[Value.int .i64 0] (grownCap w n 0 3 - n))
      rw [Array.toList_append, rowOf_replicate intE n #[Value.int .i64 0] rfl, rowOf_replicate intE (grownCap w n 0 3 - n) #[Value.int .i64 0] rfl, ← rowOf_append] at hB
      exact hB
    · exact ((Below.refl _ _).alloc (Nat.le_refl _) _).drew
set_option maxHeartbeats 4000000 in
set_option maxRecDepth 100000 in
theorem concat_any {w : World} {gl : Nat} (vals : List Value) (Xs : List (List Int)) (hG : Blk w gl 63 (0, 0) vals) (hl : vals.length = Xs.length) (hv : ∀ (j : Nat) (X : List Int), Xs[j]? = some X → ∃ a n c, vals[j]? = some (.slice a n c) ∧ Rd intE w a n c X) (hsum : Xs.flatten.length ≤ 1000) (hN : Xs.length ≤ 100) :
    Calls Try.prog 29 #[.slice (some ⟨gl, 0, none⟩) Xs.length Xs.length] w fun e w' => (∃ v, e = .returned v ∧ Own intE w' w.heap.size v Xs.flatten) ∧ Below w.heap.size w w' := by
  obtain ⟨i0, hi, hz0, hz1, hz2⟩ := info_parts Try.info3
  have hG' := Lib.hid hG
  have hv' := Lib.hid hv
  have hs' := Lib.hid hsum
  clear hG hv hsum
  generalize hNN : Xs.length = N at *
  have hNh := Lib.hid hNN
  clear hNN
  go_enter Try.func29, Try.ntmps29
  go_wp2_with fail
  go_loopw [3, 11] (fun s i wr => ∃ k : Nat, k ≤ N ∧ i = .int .i64 k ∧ s = .int .i64 ((Xs.take k).flatten.length : Nat) ∧ wr = w)
    (fun _ i _ => N - (intOf i).toNat)
  case atStart => exact ⟨0, Nat.zero_le _, rfl, rfl, rfl⟩
  case round =>
    obtain ⟨k, hk, rfl, rfl, rfl⟩ := hrel
    have hle0 := flat_le Xs k
    have hs0 := hs'.out
    by_cases hlt : k < N
    · have hkx : k < Xs.length := by rw [hNh.out]; exact hlt
      obtain ⟨a, n, c, hc1, hr⟩ := hv'.out k Xs[k] (List.getElem?_eq_getElem hkx)
      have hcell : wr.cell? ⟨gl, k, none⟩ = some (.slice a n c) := by rw [hG'.out.cell]; exact hc1
      have hn := hr.len
      have htk := flat_take Xs k hkx
      have hle := flat_le Xs (k + 1)
      rw [htk, List.length_append] at hle
      have htk' : Hid ((Xs.take (k + 1)).flatten.length = (Xs.take k).flatten.length + n) := Lib.hid (by rw [htk, List.length_append, hn])
      have hkI : (k : Int) < N := by omega
      generalize (Xs.take k).flatten.length = D at *
      have hD : D + n ≤ 1000 := by omega
      have hpos : 0 ≤ (D : Int) + n := by omega
      clear hc1 htk hle hr hle0 hs0
      go_wp2_with fail
      go_roundw
      case rel => exact ⟨k + 1, by omega, by go_num, by rw [htk'.out]; go_num, by first | rfl | trivial⟩
      case measure => simp [intOf]; omega
    · have hk' : Xs.take k = Xs := List.take_of_length_le (by have := hNh.out; omega)
      rw [hk']
      have hk2 : k = N := by omega
      subst hk2
      clear hk' hle0 hlt
      obtain ⟨w0, rfl⟩ : ∃ w0, w0 = wr := ⟨_, rfl⟩
      generalize hF : Xs.flatten.length = F at *
      have hFh := Lib.hid hF
      clear hF
      go_wp2_with fail
      refine (grow_nil F w0 hs0).mono ?_
      rintro e w1 ⟨⟨v1, rfl, hO1⟩, hb1⟩
      obtain ⟨a1, c1, rfl⟩ := hO1.shape
      have hO1' := Lib.hid hO1
      clear hO1
      go_wp2_with fail
      go_loopw [6, 27] (fun v i wr => ∃ j : Nat, j ≤ k ∧ i = .int .i64 j ∧ Own intE wr w0.heap.size v (Xs.take j).flatten ∧ Below w0.heap.size w0 wr)
        (fun _ i _ => k - (intOf i).toNat)
      case atStart => exact ⟨0, Nat.zero_le _, rfl, hO1'.out, hb1⟩
      case round =>
        clear hO1' hb1
        obtain ⟨j, hj, rfl, ho, hb⟩ := hrel
        obtain ⟨a1, cap1, rfl⟩ := ho.shape
        have ho' := Lib.hid ho
        clear ho
        by_cases hlt : j < k
        · have hjx : j < Xs.length := by rw [hNh.out]; exact hlt
          obtain ⟨a, n, c, hc1, hr⟩ := hv'.out j Xs[j] (List.getElem?_eq_getElem hjx)
          have hcell : wr.cell? ⟨gl, j, none⟩ = some (.slice a n c) := (hb.cell (p := ⟨gl, j, none⟩) hG'.out.lt).trans (by rw [hG'.out.cell]; exact hc1)
          have hsrc := Lib.hid ((hr.ext hb).src (P := Try.prog) (tx := 63) Try.underlying63)
          have htk := flat_take Xs j hjx
          have hle := flat_le Xs (j + 1)
          rw [htk, List.length_append] at hle
          have htk' := Lib.hid htk
          have hkI : (j : Int) < k := by omega
          generalize hX : Xs[j] = X at *
          generalize hD : (Xs.take j).flatten = D at *
          have hle' : Hid (D.length + X.length ≤ 1000) := Lib.hid (by have := hFh.out; omega)
          clear hc1 htk hle hr hD hX
          go_wp2_with (at_builtin; refine app_own (E := intE) rfl (.tmp 31) (.tmp 32) 63 63 rfl Try.underlying63 hi hz0 hz1 hz2 rfl rfl ho'.out rfl hsrc.out ?c1 ?c2 hb.size ?_)
          case c1 => have := hle'.out; simp [maxLen]; omega
          case c2 => have := hle'.out; simp; omega
          intro v3 w3 h3 hg3 _
          obtain ⟨a3, cap3, hv3⟩ := h3.shape
          subst hv3
          have hb3 : Below w0.heap.size w0 w3 := own_below hb hg3 ho'.out hb.size (Nat.le_refl _)
          have h3' := Lib.hid h3
          clear h3
          go_wp2_with fail
          go_roundw
          case rel => exact ⟨j + 1, by omega, by go_num, by rw [htk'.out]; simpa using h3'.out, hb3⟩
          case measure => simp [intOf]; omega
        · have hk' : Xs.take j = Xs := List.take_of_length_le (by have := hNh.out; omega)
          rw [hk'] at ho'
          have hk2 : j = k := by omega
          subst hk2
          rw [hk']
          clear hk'
          go_wp2_with fail
          go_ret
          exact ⟨⟨_, rfl, ho'.out⟩, hb⟩
theorem rd_ints {w : World} {b : Nat} {t : TypeId} {fz : Nat × Nat} {l : List Int} (h : Blk w b t fz (l.map fun x => Value.int .i64 x)) (n : Nat) (hn : n = l.length) (hm : n ≤ maxLen) : Rd intE w (some ⟨b, 0, none⟩) n n l := by
  subst hn
  refine ⟨rfl, Nat.le_refl _, hm, fun j hj i hi => ⟨b, 0, rfl, ?_⟩⟩
  have hi0 : i = 0 := by have : intE.k = 1 := rfl; omega
  subst hi0
  rw [h.cell]
  have e : 0 + (j * intE.k + 0) = j := by show 0 + (j * 1 + 0) = j; omega
  rw [e, List.getElem?_map, List.getElem?_eq_getElem hj]
  rfl
theorem concat_two {w1 : World} {cb : Nat} {t : TypeId} {fz : Nat × Nat} (x y c0 c1 c2 c3 : Int) (hC : Blk w1 cb t fz [.int .i64 c0, .int .i64 c1, .int .i64 c2, .int .i64 c3]) :
    Calls Try.prog 29 #[.slice (some ⟨w1.heap.size + 1, 0, none⟩) 2 2] ((w1.alloc (.cells #[.int .i64 x, .int .i64 y] 3)).alloc (.cells #[.slice (some ⟨w1.heap.size, 0, none⟩) 2 2, .slice (some ⟨cb, 0, none⟩) 4 4] 63))
      fun e w' => (∃ v, e = .returned v ∧ Own intE w' w1.heap.size v [x, y, c0, c1, c2, c3]) ∧ Below w1.heap.size w1 w' := by
  have hb1 : Below w1.heap.size w1 (w1.alloc (.cells #[.int .i64 x, .int .i64 y] 3)) := (Below.refl _ _).alloc (Nat.le_refl _) _
  have hb2 : Below w1.heap.size w1 ((w1.alloc (.cells #[.int .i64 x, .int .i64 y] 3)).alloc (.cells #[.slice (some ⟨w1.heap.size, 0, none⟩) 2 2, .slice (some ⟨cb, 0, none⟩) 4 4] 63)) := hb1.alloc (by simp) _
  have hA : Blk ((w1.alloc (.cells #[.int .i64 x, .int .i64 y] 3)).alloc (.cells #[.slice (some ⟨w1.heap.size, 0, none⟩) 2 2, .slice (some ⟨cb, 0, none⟩) 4 4] 63)) w1.heap.size 3 (0, 0) [.int .i64 x, .int .i64 y] :=
    (Blk.new w1 3 (0, 0) #[.int .i64 x, .int .i64 y]).below ((Below.refl _ _).alloc (Nat.le_refl _) _) (by simp)
  have hG : Blk ((w1.alloc (.cells #[.int .i64 x, .int .i64 y] 3)).alloc (.cells #[.slice (some ⟨w1.heap.size, 0, none⟩) 2 2, .slice (some ⟨cb, 0, none⟩) 4 4] 63)) (w1.heap.size + 1) 63 (0, 0) [.slice (some ⟨w1.heap.size, 0, none⟩) 2 2, .slice (some ⟨cb, 0, none⟩) 4 4] := by
    simpa using Blk.new (w1.alloc (.cells #[.int .i64 x, .int .i64 y] 3)) 63 (0, 0) #[.slice (some ⟨w1.heap.size, 0, none⟩) 2 2, .slice (some ⟨cb, 0, none⟩) 4 4]
  have hC' := hC.below hb2 hC.lt
  refine (concat_any [.slice (some ⟨w1.heap.size, 0, none⟩) 2 2, .slice (some ⟨cb, 0, none⟩) 4 4] [[x, y], [c0, c1, c2, c3]] hG rfl ?_ (by simp) (by simp)).mono ?_
  · intro j X hj
    match j with
    | 0 =>
      simp at hj
      subst hj
      exact ⟨_, _, _, rfl, rd_ints (l := [x, y]) hA 2 rfl (by decide)⟩
    | 1 =>
      simp at hj
      subst hj
      exact ⟨_, _, _, rfl, rd_ints (l := [c0, c1, c2, c3]) hC' 4 rfl (by decide)⟩
    | j + 2 => simp at hj
  · rintro e w' ⟨⟨v, rfl, hO⟩, hb⟩
    exact ⟨⟨v, rfl, hO.mono (by simp; omega)⟩, hb2.trans (hb.mono (by simp; omega))⟩
end Go.Proofs.Ytbpkhnnfdjihdaa
