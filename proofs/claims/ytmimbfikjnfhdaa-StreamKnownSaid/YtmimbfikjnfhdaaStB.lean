/- Concat 41; Frame 19. -/
import Derived.Test.YtmimbfikjnfhdaaStA
namespace Go.Proofs.Ytmimbfikjnfhdaa
open Go.RowKit
set_option maxHeartbeats 4000000 in
set_option maxRecDepth 100000 in
theorem concat_any {w : World} {gl : Nat} (vals : List Value) (Xs : List (List UInt8)) (hG : Blk w gl 41 (0, 0) vals) (hl : vals.length = Xs.length) (hv : ∀ (j : Nat) (X : List UInt8), Xs[j]? = some X → ∃ a n c, vals[j]? = some (.slice a n c) ∧ Rd byteE w a n c X) (hsum : Xs.flatten.length ≤ 70368744177664) (hN : Xs.length ≤ 100) :
    Calls Try.prog 41 #[.slice (some ⟨gl, 0, none⟩) Xs.length Xs.length] w fun e w' => (∃ v, e = .returned v ∧ Own byteE w' w.heap.size v Xs.flatten) ∧ Below w.heap.size w w' := by
  obtain ⟨i0, hi, hz0, hz1, hz2⟩ := info_parts Try.info5
  have hG' := Lib.hid hG
  have hv' := Lib.hid hv
  have hs' := Lib.hid hsum
  clear hG hv hsum
  generalize hNN : Xs.length = N at *
  have hNh := Lib.hid hNN
  clear hNN
  go_enter Try.func41, Try.ntmps41
  go_wp2_with fail
  go_loopw [3, 11] (fun s i wr => ∃ k : Nat, k ≤ N ∧ i = .int .i64 k ∧ s = .int .i64 ((Xs.take k).flatten.length : Nat) ∧ wr = w)
    (fun _ i _ => N - (intOf i).toNat)
  case atStart => exact ⟨0, Nat.zero_le _, rfl, rfl, rfl⟩
  case round =>
    obtain ⟨k, hk, rfl, rfl, rfl⟩ := hrel
    have hle0 := flat_le Xs k
    have hs0 := hs'.out
    by_cases hlt : k < N
    · have hkx : k < Xs.length := by rw [hNh.out]; exact hlt
      obtain ⟨a, n, c, hc1, hr⟩ := hv'.out k Xs[k] (List.getElem?_eq_getElem hkx)
      have hcell : wr.cell? ⟨gl, k, none⟩ = some (.slice a n c) := by rw [hG'.out.cell]; exact hc1
      have hn := hr.len
      have htk := flat_take Xs k hkx
      have hle := flat_le Xs (k + 1)
      rw [htk, List.length_append] at hle
      have htk' : Hid ((Xs.take (k + 1)).flatten.length = (Xs.take k).flatten.length + n) := Lib.hid (by rw [htk, List.length_append, hn])
      have hkI : (k : Int) < N := by omega
      generalize (Xs.take k).flatten.length = D at *
      have hD : D + n ≤ 70368744177664 := by omega
      have hpos : 0 ≤ (D : Int) + n := by omega
      clear hc1 htk hle hr hle0 hs0
      go_wp2_with fail
      go_roundw
      case rel => exact ⟨k + 1, by omega, by go_num, by rw [htk'.out]; go_num, by first | rfl | trivial⟩
      case measure => simp [intOf]; omega
    · have hk' : Xs.take k = Xs := List.take_of_length_le (by have := hNh.out; omega)
      rw [hk']
      have hk2 : k = N := by omega
      subst hk2
      clear hk' hle0 hlt
      obtain ⟨w0, rfl⟩ : ∃ w0, w0 = wr := ⟨_, rfl⟩
      generalize hF : Xs.flatten.length = F at *
      have hFh := Lib.hid hF
      clear hF
      go_wp2_with fail
      refine (grow_nil F w0 hs0).mono ?_
      rintro e w1 ⟨⟨v1, rfl, hO1⟩, hb1⟩
      obtain ⟨a1, c1, rfl⟩ := hO1.shape
      have hO1' := Lib.hid hO1
      clear hO1
      go_wp2_with fail
      go_loopw [6, 27] (fun v i wr => ∃ j : Nat, j ≤ k ∧ i = .int .i64 j ∧ Own byteE wr w0.heap.size v (Xs.take j).flatten ∧ Below w0.heap.size w0 wr)
        (fun _ i _ => k - (intOf i).toNat)
      case atStart => exact ⟨0, Nat.zero_le _, rfl, hO1'.out, hb1⟩
      case round =>
        clear hO1' hb1
        obtain ⟨j, hj, rfl, ho, hb⟩ := hrel
        obtain ⟨a1, cap1, rfl⟩ := ho.shape
        have ho' := Lib.hid ho
        clear ho
        by_cases hlt : j < k
        · have hjx : j < Xs.length := by rw [hNh.out]; exact hlt
          obtain ⟨a, n, c, hc1, hr⟩ := hv'.out j Xs[j] (List.getElem?_eq_getElem hjx)
          have hcell : wr.cell? ⟨gl, j, none⟩ = some (.slice a n c) := (hb.cell (p := ⟨gl, j, none⟩) hG'.out.lt).trans (by rw [hG'.out.cell]; exact hc1)
          have hsrc := Lib.hid ((hr.ext hb).src (P := Try.prog) (tx := 41) Try.underlying41)
          have htk := flat_take Xs j hjx
          have hle := flat_le Xs (j + 1)
          rw [htk, List.length_append] at hle
          have htk' := Lib.hid htk
          have hkI : (j : Int) < k := by omega
          generalize hX : Xs[j] = X at *
          generalize hD : (Xs.take j).flatten = D at *
          have hle' : Hid (D.length + X.length ≤ 70368744177664) := Lib.hid (by have := hFh.out; omega)
          clear hc1 htk hle hr hD hX
          go_wp2_with (at_builtin; refine app_own (E := byteE) rfl (.tmp 31) (.tmp 32) 41 41 rfl Try.underlying41 hi hz0 hz1 hz2 rfl rfl ho'.out rfl hsrc.out ?c1 ?c2 hb.size ?_)
          case c1 => have := hle'.out; simp [maxLen]; omega
          case c2 => have := hle'.out; simp; omega
          intro v3 w3 h3 hg3 _
          obtain ⟨a3, cap3, hv3⟩ := h3.shape
          subst hv3
          have hb3 : Below w0.heap.size w0 w3 := own_below hb hg3 ho'.out hb.size (Nat.le_refl _)
          have h3' := Lib.hid h3
          clear h3
          go_wp2_with fail
          go_roundw
          case rel => exact ⟨j + 1, by omega, by go_num, by rw [htk'.out]; simpa using h3'.out, hb3⟩
          case measure => simp [intOf]; omega
        · have hk' : Xs.take j = Xs := List.take_of_length_le (by have := hNh.out; omega)
          rw [hk'] at ho'
          have hk2 : j = k := by omega
          subst hk2
          rw [hk']
          clear hk'
          go_wp2_with fail
          go_ret
          exact ⟨⟨_, rfl, ho'.out⟩, hb⟩
set_option maxHeartbeats 4000000 in
set_option maxRecDepth 100000 in
theorem frame_ok {w : World} {a : Option Addr} {n c : Nat} {l : List UInt8} (h : Rd byteE w a n c l) (h12 : 12 ≤ n) (hn : n ≤ 65535) :
    Calls Try.prog 19 #[.slice a n c] w fun e w' => (∃ v, e = .returned (.tuple #[v, .int .i64 0]) ∧ Own byteE w' w.heap.size v (be16 l.length ++ l)) ∧ Below w.heap.size w w' := by
  have hl := h.len
  subst hl
  have hH := Lib.hid h
  clear h
  have h12I : (12 : Int) ≤ l.length := by omega
  have hnI : (l.length : Int) ≤ 65535 := by omega
  go_enter Try.func19, Try.ntmps19
  go_wp2_with fail
  refine (put16_ok l.length _ hn).mono ?_
  rintro e w1 ⟨rfl, hB1, k1⟩
  have hX1 := Lib.hid hB1
  clear hB1
  go_wp2_with fail
  have hG := Blk.new w1 41 (0, 0) #[.slice (some ⟨w.heap.size, 0, none⟩) 2 2, .slice a l.length c]
  have ha : Below w1.heap.size w1 (w1.alloc (.cells #[.slice (some ⟨w.heap.size, 0, none⟩) 2 2, .slice a l.length c] 41)) := (Below.refl _ _).alloc (Nat.le_refl _) _
  have hk2 : Below w.heap.size w (w1.alloc (.cells #[.slice (some ⟨w.heap.size, 0, none⟩) 2 2, .slice a l.length c] 41)) := k1.trans (ha.mono k1.size)
  have hX2 := hX1.out.below ha hX1.out.lt
  generalize w1.alloc (.cells #[.slice (some ⟨w.heap.size, 0, none⟩) 2 2, .slice a l.length c] 41) = w2 at *
  have hfl : [be16 l.length, l].flatten = be16 l.length ++ l := by simp
  have hJ := octJoin (w := w2) (gl := w1.heap.size) [.slice (some ⟨w.heap.size, 0, none⟩) 2 2, .slice a l.length c] [be16 l.length, l] hG rfl
    (fun j X hX => match j, hX with
      | 0, hX => by cases hX; exact ⟨_, _, _, rfl, rd_blk (E := byteE) (X := be16 l.length) (by rw [rowOf_byte]; exact hX2) 2 rfl (by decide)⟩
      | 1, hX => by cases hX; exact ⟨_, _, _, rfl, hH.out.ext hk2⟩
      | j + 2, hX => by simp at hX)
    (by rw [hfl]; simp [be16]; omega) (by simp)
  rw [hfl] at hJ
  clear hG ha hX2
  refine hJ.mono ?_
  rintro e w3 ⟨⟨v, rfl, hO⟩, k3⟩
  obtain ⟨a3, c3, rfl⟩ := hO.shape
  have hO' := Lib.hid hO
  clear hO hJ
  go_wp2_with fail
  ((try simp only [Exit.inBlock, Exit.then]); refine bodyPost_ret (results_tmp2 rfl _ _ _) rfl ?_)
  have hQ := hO'.out.mono hk2.size
  rw [List.length_append] at hQ
  exact ⟨⟨_, rfl, hQ⟩, hk2.trans (k3.mono hk2.size)⟩
theorem frame_short {w : World} {a : Option Addr} {n c : Nat} (h12 : n < 12) :
    Calls Try.prog 19 #[.slice a n c] w fun e w' => e = .returned (.tuple #[.slice none 0 0, .int .i64 2]) ∧ w = w' := by
  have h12I : (n : Int) < 12 := by omega
  go_enter Try.func19, Try.ntmps19
  go_wp2_with fail
  ((try simp only [Exit.inBlock, Exit.then]); refine bodyPost_ret (results_tmp2 rfl _ _ _) rfl ?_)
  exact ⟨rfl, rfl⟩
theorem frame_long {w : World} {a : Option Addr} {n c : Nat} (h : 65535 < n) (hn : n ≤ 140737488355328) :
    Calls Try.prog 19 #[.slice a n c] w fun e w' => e = .returned (.tuple #[.slice none 0 0, .int .i64 3]) ∧ w = w' := by
  have h12I : (65535 : Int) < n := by omega
  go_enter Try.func19, Try.ntmps19
  go_wp2_with fail
  refine (put16_no n _ (by omega)).mono ?_
  rintro e w1 ⟨rfl, rfl⟩
  go_wp2_with fail
  ((try simp only [Exit.inBlock, Exit.then]); refine bodyPost_ret (results_tmp2 rfl _ _ _) rfl ?_)
  exact ⟨rfl, rfl⟩
end Go.Proofs.Ytmimbfikjnfhdaa
