/- kit.SameMessage 11 of heads without sections; awake 13; what is read of what was written. -/
import Derived.Test.YtbpkhnnfdjihdaaHdBy
import Derived.Test.YtbpkhnnfdjihdaaHdRd
namespace Go.Proofs.Ytbpkhnnfdjihdaa
open Go Go.RowKit Go.Maps
theorem same_q0 (w : World) : Calls Try.prog 27 #[.slice none 0 0, .slice none 0 0] w fun e w' => e = .returned (.bool true) ∧ w = w' := by
  go_enter Try.func27, Try.ntmps27
  go_wp2_with fail
  refine wp_loop_rounds 1 ?_
  rw [rounds_succ]
  go_wp2_with fail
  go_ret
  exact ⟨rfl, rfl⟩
theorem same_r0 (w : World) : Calls Try.prog 28 #[.slice none 0 0, .slice none 0 0] w fun e w' => e = .returned (.bool true) ∧ w = w' := by
  go_enter Try.func28, Try.ntmps28
  go_wp2_with fail
  refine wp_loop_rounds 1 ?_
  rw [rounds_succ]
  go_wp2_with fail
  go_ret
  exact ⟨rfl, rfl⟩
set_option maxHeartbeats 4000000 in
set_option maxRecDepth 100000 in
theorem same_msg {W : World} (id op rc : Int) (F : Nat → Bool) :
    Calls Try.prog 11 #[mV id op rc F (.slice none 0 0) (.slice none 0 0) (.slice none 0 0) (.slice none 0 0), mV id op rc F (.slice none 0 0) (.slice none 0 0) (.slice none 0 0) (.slice none 0 0)] W fun e w' => e = .returned (.bool true) ∧ Below W.heap.size W w' := by
  have hB : Hid (Below W.heap.size W ((W.alloc (.cells #[.int .u16 id, .bool (F 6), .int .i64 op, .bool (F 5), .bool (F 4), .bool (F 3), .bool (F 2), .bool (F 1), .bool (F 0), .int .i64 rc, .slice none 0 0, .slice none 0 0, .slice none 0 0, .slice none 0 0] 28)).alloc (.cells #[.int .u16 id, .bool (F 6), .int .i64 op, .bool (F 5), .bool (F 4), .bool (F 3), .bool (F 2), .bool (F 1), .bool (F 0), .int .i64 rc, .slice none 0 0, .slice none 0 0, .slice none 0 0, .slice none 0 0] 28))) := Lib.hid (((Below.refl _ _).alloc (Nat.le_refl _) _).alloc (by simp) _)
  unfold mV
  go_enter Try.func11, Try.ntmps11
  go_wp2_with (first | (go_at_call 27; refine (same_q0 _).mono ?_; rintro e w1 ⟨rfl, rfl⟩) | (go_at_call 28; refine (same_r0 _).mono ?_; rintro e w1 ⟨rfl, rfl⟩))
  go_ret
  exact ⟨rfl, hB.out⟩
theorem num_be16 (n : Nat) (h : n < 65536) : numL (be16 n) = n := by
  simp [numL, be16]
  omega
theorem be16_length (n : Nat) : (be16 n).length = 2 := by simp [be16]
theorem be16s_get (L : List Int) (k : Nat) (h : k < L.length) : ((be16s L).drop (2 * k)).take 2 = be16 L[k].toNat := by
  induction L generalizing k with
  | nil => simp at h
  | cons x r ih =>
    have e : be16s (x :: r) = be16 x.toNat ++ be16s r := rfl
    rw [e]
    cases k with
    | zero => rw [Nat.mul_zero, List.drop_zero, List.take_left' (be16_length _)]; rfl
    | succ k =>
      rw [List.drop_append, be16_length, List.drop_of_length_le (by rw [be16_length]; omega), List.nil_append, show 2 * (k + 1) - 2 = 2 * k by omega, ih k (by simpa using h)]
      rfl
theorem hN_be (L : List Int) (k : Nat) (h : k < L.length) (hr : inR L[k] = true) : (hN (be16s L) k : Int) = L[k] := by
  unfold inR at hr
  have hr' := of_decide_eq_true hr
  unfold hN
  rw [if_pos (by rw [be16s_len]; omega), be16s_get L k h, num_be16 _ (by omega)]
  omega
/-- what is read of a head that was written -/
theorem read_back (id op rc : Nat) (F : Nat → Bool) (c0 c1 c2 c3 : Int) (hid : id < 65536) (ho : op ≤ 15) (hr : rc ≤ 15) (hc : (inR c0 && inR c1 && inR c2 && inR c3) = true) :
    hdBad (be16s [(id : Int), (hbits op rc F : Int), c0, c1, c2, c3]) = false ∧
    msgV (hN (be16s [(id : Int), (hbits op rc F : Int), c0, c1, c2, c3]) 0) ((hN (be16s [(id : Int), (hbits op rc F : Int), c0, c1, c2, c3]) 1 / 2048 &&& 15 : Nat) : Int) ((hN (be16s [(id : Int), (hbits op rc F : Int), c0, c1, c2, c3]) 1 &&& 15 : Nat) : Int) (tb (hN (be16s [(id : Int), (hbits op rc F : Int), c0, c1, c2, c3]) 1)) nils
      = mV id op rc F (.slice none 0 0) (.slice none 0 0) (.slice none 0 0) (.slice none 0 0) ∧
    cntV (hN (be16s [(id : Int), (hbits op rc F : Int), c0, c1, c2, c3]) 2) (hN (be16s [(id : Int), (hbits op rc F : Int), c0, c1, c2, c3]) 3) (hN (be16s [(id : Int), (hbits op rc F : Int), c0, c1, c2, c3]) 4) (hN (be16s [(id : Int), (hbits op rc F : Int), c0, c1, c2, c3]) 5) = cV c0 c1 c2 c3 := by
  simp only [Bool.and_eq_true] at hc
  obtain ⟨⟨⟨h0, h1⟩, h2⟩, h3⟩ := hc
  obtain ⟨b1, b2, b3, b4, b5⟩ := back (op := op) (rc := rc) (by omega) (by omega) F
  have i0 : inR (id : Int) = true := by unfold inR; exact decide_eq_true (by omega)
  have i1 : inR (hbits op rc F : Int) = true := by unfold inR; exact decide_eq_true (by omega)
  have e0 := hN_be [(id : Int), (hbits op rc F : Int), c0, c1, c2, c3] 0 (by simp) i0
  have e1 := hN_be [(id : Int), (hbits op rc F : Int), c0, c1, c2, c3] 1 (by simp) i1
  have e2 := hN_be [(id : Int), (hbits op rc F : Int), c0, c1, c2, c3] 2 (by simp) h0
  have e3 := hN_be [(id : Int), (hbits op rc F : Int), c0, c1, c2, c3] 3 (by simp) h1
  have e4 := hN_be [(id : Int), (hbits op rc F : Int), c0, c1, c2, c3] 4 (by simp) h2
  have e5 := hN_be [(id : Int), (hbits op rc F : Int), c0, c1, c2, c3] 5 (by simp) h3
  simp only [List.getElem_cons_zero, List.getElem_cons_succ] at e0 e1 e2 e3 e4 e5
  have e1' : hN (be16s [(id : Int), (hbits op rc F : Int), c0, c1, c2, c3]) 1 = hbits op rc F := by omega
  have hlen := be16s_len [(id : Int), (hbits op rc F : Int), c0, c1, c2, c3]
  generalize be16s [(id : Int), (hbits op rc F : Int), c0, c1, c2, c3] = D at *
  rw [e1', b3, b4]
  refine ⟨?_, ?_, ?_⟩
  · unfold hdBad
    rw [hlen, e1', b2]
    rfl
  · unfold msgV
    rw [cellsH_ext _ _ _ _ b5, e0]
    rfl
  · unfold cntV cV
    rw [e2, e3, e4, e5]
def tF (j : Nat) : Bool := j == 6 || j == 5 || j == 3
theorem awake_list : be16s [(258 : Int), ((hbits 0 3 tF : Nat) : Int), 1, 0, 1, 0] = [1, 2, 133, 3, 0, 1, 0, 0, 0, 1, 0, 0] := by decide
set_option maxHeartbeats 4000000 in
set_option maxRecDepth 100000 in
theorem awake_any {W : World} : Calls Try.prog 13 #[] W fun e w' => e = .returned (.bool true) ∧ Below W.heap.size W w' := by
  have hb : Calls Try.prog 14 #[mV (258 : Nat) (0 : Nat) (3 : Nat) tF (.slice none 0 0) (.slice none 0 0) (.slice none 0 0) (.slice none 0 0), cV 1 0 1 0] W fun e w' => (∃ v, e = .returned (.tuple #[v, .int .i64 0]) ∧ Own byteE w' W.heap.size v [1, 2, 133, 3, 0, 1, 0, 0, 0, 1, 0, 0]) ∧ Below W.heap.size W w' := by
    refine (bytes_any (W := W) 258 0 3 tF (.slice none 0 0) (.slice none 0 0) (.slice none 0 0) (.slice none 0 0) 1 0 1 0 (by decide) (by decide) (by decide)).mono ?_
    rintro e w' ⟨h1, h2⟩
    unfold ByRes at h1
    rw [if_pos (by decide)] at h1
    obtain ⟨v, e1, e2⟩ := h1
    refine ⟨⟨v, e1, ?_⟩, h2⟩
    rw [← awake_list]
    exact e2
  have hb' := Lib.hid hb
  clear hb
  go_enter Try.func13, Try.ntmps13
  go_wp2_with fail
  refine hb'.out.mono ?_
  rintro e w1 ⟨⟨v, rfl, hO⟩, hb1⟩
  obtain ⟨a, c, rfl, hR⟩ := hO.rd
  have hs : (convert 22 9 (.slice a 12 c)).run Try.prog w1 = .ok (.string (mk [1, 2, 133, 3, 0, 1, 0, 0, 0, 1, 0, 0])) w1 := rd_toStr (P := Try.prog) hR 22 9 Try.underlying22 Try.underlying5 Try.underlying9

  clear hO hR
  go_wp2_with fail
  go_ret
  exact ⟨rfl, hb1⟩
end Go.Proofs.Ytbpkhnnfdjihdaa
