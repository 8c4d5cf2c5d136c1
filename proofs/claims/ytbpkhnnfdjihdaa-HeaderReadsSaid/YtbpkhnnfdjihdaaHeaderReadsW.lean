/- The law HeaderReads, walked; printed by gen_hreads.py. -/
import Derived.Test.YtbpkhnnfdjihdaaHdRef
import Derived.Test.YtbpkhnnfdjihdaaHdSm
import Derived.Test.YtbpkhnnfdjihdaaKitC
import Derived.Test.YtbpkhnnfdjihdaaOpenB
namespace Go.Proofs.Ytbpkhnnfdjihdaa
open Go Go.RowKit Go.Maps
theorem and_bit (x i : Nat) : (x &&& 2 ^ i != 0) = (x / 2 ^ i % 2 == 1) := by
  have h : x &&& 2 ^ i = if x / 2 ^ i % 2 = 1 then 2 ^ i else 0 := by
    apply Nat.eq_of_testBit_eq
    intro j
    rw [Nat.testBit_and, Nat.testBit_two_pow]
    by_cases hi : i = j
    · subst hi
      rw [decide_eq_true rfl, Bool.and_true, Nat.testBit_eq_decide_div_mod_eq]
      by_cases hx : x / 2 ^ i % 2 = 1
      · rw [decide_eq_true hx, if_pos hx, Nat.testBit_two_pow, decide_eq_true rfl]
      · rw [decide_eq_false hx, if_neg hx]; simp
    · rw [decide_eq_false hi, Bool.and_false]
      split
      · rw [Nat.testBit_two_pow, decide_eq_false hi]
      · simp
  rw [h]
  have hp : (2 : Nat) ^ i ≠ 0 := Nat.ne_of_gt (Nat.two_pow_pos i)
  by_cases hx : x / 2 ^ i % 2 = 1
  · rw [if_pos hx, hx]; simp
  · rw [if_neg hx]; simp [hx]
theorem has_hi (b3 : Nat) (b2 : UInt8) (wt i : Nat) (h3 : b3 < 256) (hw : wt * 256 = 2 ^ i) : hasB b2 wt = ((b2.toNat * 256 + b3) &&& 2 ^ i != 0) := by
  rw [and_bit]
  unfold hasB
  have e : (b2.toNat * 256 + b3) / 2 ^ i = b2.toNat / wt := by
    rw [← hw, Nat.mul_comm wt 256, ← Nat.div_div_eq_div_mul]
    congr 1
    omega
  rw [e, Bool.eq_iff_iff, beq_iff_eq, beq_iff_eq]
  have e2 : (b2.toNat : Int) / (wt : Int) % 2 = ((b2.toNat / wt % 2 : Nat) : Int) := by simp
  rw [e2]
  omega
theorem has_lo (b2 : Nat) (b3 : UInt8) (wt i k : Nat) (hw : wt = 2 ^ i) (hk : 256 = wt * (2 * k)) (h0 : 0 < wt) : hasB b3 wt = ((b2 * 256 + b3.toNat) &&& 2 ^ i != 0) := by
  rw [and_bit]
  unfold hasB
  have e : (b2 * 256 + b3.toNat) / 2 ^ i = b2 * (2 * k) + b3.toNat / wt := by
    rw [← hw, hk, ← Nat.mul_assoc, Nat.mul_comm b2 wt, Nat.mul_assoc, Nat.mul_add_div h0]
  rw [e, Bool.eq_iff_iff, beq_iff_eq, beq_iff_eq]
  have e2 : (b3.toNat : Int) / (wt : Int) % 2 = ((b3.toNat / wt % 2 : Nat) : Int) := by simp
  have e3 : (b2 * (2 * k) + b3.toNat / wt) % 2 = b3.toNat / wt % 2 := by
    rw [← Nat.mul_assoc, Nat.mul_comm b2 2, Nat.mul_assoc]; omega
  rw [e2, e3]
  omega
theorem reads_same (l : List UInt8) : ∃ (id : Nat) (op rc : Int) (F : Nat → Bool) (c0 c1 c2 c3 k : Int),
    (if hdBad l then Value.tuple #[msgV 0 0 0 (fun _ => false) nils, cntV 0 0 0 0, .int .i64 8] else
      .tuple #[msgV (hN l 0) ((hN l 1 / 2048 &&& 15 : Nat) : Int) ((hN l 1 &&& 15 : Nat) : Int) (tb (hN l 1)) nils, cntV (hN l 2) (hN l 3) (hN l 4) (hN l 5), .int .i64 0]) = .tuple #[mV id op rc F (.slice none 0 0) (.slice none 0 0) (.slice none 0 0) (.slice none 0 0), cV c0 c1 c2 c3, .int .i64 k] ∧
    (if l.length < 12 ∨ hasB (l.getD 3 0) 64 = true then Value.tuple #[msgV 0 0 0 (fun _ => false) nils, cntV 0 0 0 0, .int .i64 8] else
      .tuple #[refV l, cntV (hN l 2) (hN l 3) (hN l 4) (hN l 5), .int .i64 0]) = .tuple #[mV id op rc F (.slice none 0 0) (.slice none 0 0) (.slice none 0 0) (.slice none 0 0), cV c0 c1 c2 c3, .int .i64 k] := by
  by_cases h12 : l.length < 12
  · have hb : hdBad l = true := by unfold hdBad; rw [decide_eq_true h12]; rfl
    rw [if_pos hb, if_pos (.inl h12)]
    exact ⟨0, 0, 0, fun _ => false, 0, 0, 0, 0, 8, rfl, rfl⟩
  · have q2 : l.getD 2 0 = l[2]'(by omega) := by rw [List.getD_eq_getElem?_getD, List.getElem?_eq_getElem (by omega)]; rfl
    have q3 : l.getD 3 0 = l[3]'(by omega) := by rw [List.getD_eq_getElem?_getD, List.getElem?_eq_getElem (by omega)]; rfl
    have hx := hN_at (l := l) 1 (by omega)
    simp only [Nat.reduceMul, Nat.reduceAdd] at hx
    have l2 := (l[2]'(by omega)).toNat_lt
    have l3 := (l[3]'(by omega)).toNat_lt
    have h64 : hdBad l = hasB (l.getD 3 0) 64 := by
      rw [q3, has_lo (l[2]'(by omega)).toNat _ 64 6 2 rfl rfl (by decide), ← hx]
      unfold hdBad
      rw [decide_eq_false h12]; rfl
    cases hb : hdBad l
    · rw [if_neg (by decide), if_neg (by rw [← h64, hb]; simp [h12])]
      refine ⟨hN l 0, _, _, tb (hN l 1), _, _, _, _, 0, rfl, ?_⟩
      unfold refV
      rw [q2, q3]
      have p6 := has_hi (l[3]'(by omega)).toNat (l[2]'(by omega)) 128 15 l3 rfl
      have p5 := has_hi (l[3]'(by omega)).toNat (l[2]'(by omega)) 4 10 l3 rfl
      have p4 := has_hi (l[3]'(by omega)).toNat (l[2]'(by omega)) 2 9 l3 rfl
      have p3 := has_hi (l[3]'(by omega)).toNat (l[2]'(by omega)) 1 8 l3 rfl
      have p2 := has_lo (l[2]'(by omega)).toNat (l[3]'(by omega)) 128 7 1 rfl rfl (by decide)
      have p1 := has_lo (l[2]'(by omega)).toNat (l[3]'(by omega)) 32 5 4 rfl rfl (by decide)
      have p0 := has_lo (l[2]'(by omega)).toNat (l[3]'(by omega)) 16 4 8 rfl rfl (by decide)
      have a15 : ∀ y : Nat, y &&& 15 = y % 16 := fun y => Nat.and_two_pow_sub_one_eq_mod y 4
      have m1 : hN l 1 / 2048 &&& 15 = (l[2]'(by omega)).toNat / 8 % 16 := by rw [a15, hx]; omega
      have m2 : hN l 1 &&& 15 = (l[3]'(by omega)).toNat % 16 := by rw [a15, hx]; omega
      rw [p6, p5, p4, p3, p2, p1, p0, ← hx, m1, m2]
      rfl
    · rw [if_pos rfl, if_pos (.inr (by rw [← h64, hb]))]
      exact ⟨0, 0, 0, fun _ => false, 0, 0, 0, 0, 8, rfl, rfl⟩
set_option maxHeartbeats 16000000 in
set_option maxRecDepth 100000 in
theorem headerReads_walk {W : World} {a : Option Addr} {n c : Nat} {l : List UInt8} (h : Rd byteE W a n c l) (hn : n ≤ 140737488351232) :
    Calls Try.prog 3 #[.slice a n c] W fun e w' => e = .returned (.bool true) ∧ Below W.heap.size W w' := by
  have hl := h.len
  subst hl
  have hH := Lib.hid h; clear h
  obtain ⟨id, op, rc, F, c0, c1, c2, c3, k, e1, e2⟩ := reads_same l
  have he1 := Lib.hid e1
  have he2 := Lib.hid e2
  clear e1 e2
  have heq := fun u : World => eq_arr (u := u) c0 c1 c2 c3
  go_enter Try.func3, Try.ntmps3
  go_wp2_with fail
  refine (lent_bytes hH.out hn).mono ?_
  rintro e w1 ⟨rfl, hB1, hb1⟩
  have hin : Rd byteE w1 (some ⟨W.heap.size, 0, none⟩) (l.length + 3) (l.length + 3) (lentL l) := rd_blk (E := byteE) (by rw [rowOf_byte]; exact hB1) _ (by rw [lentL_length]) (by unfold maxLen; omega)
  have hin0 : Rd byteE w1 (some ⟨W.heap.size, 0, none⟩) l.length (l.length + 3) l := by
    have := hin.cut 0 l.length (l.length + 3) (Nat.zero_le _) (by omega) (by omega) (Nat.le_refl _)
    have e1 : ((lentL l).take l.length).drop 0 = l := by rw [List.drop_zero, lentL, List.take_left' rfl]
    rw [e1] at this
    simpa [show l.length + 3 ≠ 0 by omega, Addr.add] using this
  have hin' := Lib.hid hin; clear hin
  have hin0' := Lib.hid hin0; clear hin0 hB1
  go_wp2_with fail
  refine (read_any hin0'.out (by omega)).mono ?_
  rintro e w2 ⟨rfl, hb2⟩
  rw [he1.out]
  have hb3 := Lib.hid (hb1.trans (hb2.mono hb1.size))
  have hin2 := Lib.hid (hin'.out.ext hb2)
  clear hin' hin0' hb1 hb2
  unfold mV cV
  obtain ⟨WB, hWB⟩ : ∃ WB, (w2.alloc (.cells #[.int .u16 (id : Int), .bool (F 6), .int .i64 op, .bool (F 5), .bool (F 4), .bool (F 3), .bool (F 2), .bool (F 1), .bool (F 0), .int .i64 rc, .slice none 0 0, .slice none 0 0, .slice none 0 0, .slice none 0 0] 28)).alloc (.cells #[.int .i64 c0, .int .i64 c1, .int .i64 c2, .int .i64 c3] 29) = WB := ⟨_, rfl⟩
  have hbB : Below w2.heap.size w2 WB := by rw [← hWB]; exact ((Below.refl _ _).alloc (Nat.le_refl _) _).alloc (by simp) _
  have hBM : Hid (Blk WB w2.heap.size 28 (0, 0) (cellsH id op rc F nils)) := by rw [← hWB]; exact Lib.hid ((Blk.new w2 28 (0, 0) (cellsH id op rc F nils).toArray).alloc _)
  have hBN : Hid (Blk WB (w2.heap.size + 1) 29 (0, 0) [.int .i64 c0, .int .i64 c1, .int .i64 c2, .int .i64 c3]) := by
    rw [← hWB]
    exact Lib.hid (by simpa using Blk.new (w2.alloc (.cells #[.int .u16 (id : Int), .bool (F 6), .int .i64 op, .bool (F 5), .bool (F 4), .bool (F 3), .bool (F 2), .bool (F 1), .bool (F 0), .int .i64 rc, .slice none 0 0, .slice none 0 0, .slice none 0 0, .slice none 0 0] 28)) 29 (0, 0) #[.int .i64 c0, .int .i64 c1, .int .i64 c2, .int .i64 c3])
  have hb5 := Lib.hid (hb3.out.trans (hbB.mono hb3.out.size))
  have hin3 := Lib.hid (hin2.out.ext hbB)
  clear hb3 hin2 hbB
  go_wp2_with fail
  refine (ref_read (hH.out.ext hb5.out) (by omega)).mono ?_
  rintro e w4 ⟨rfl, hb6⟩
  rw [he2.out]
  have hb7 := Lib.hid (hb5.out.trans (hb6.mono hb5.out.size))
  have hin4 := Lib.hid (hin3.out.ext hb6)
  have hBM4 := Lib.hid (hBM.out.below hb6 hBM.out.lt)
  have hBN4 := Lib.hid (hBN.out.below hb6 hBN.out.lt)
  clear hb5 hin3 hb6 hBM hBN
  unfold mV cV
  obtain ⟨WD, hWD⟩ : ∃ WD, (w4.alloc (.cells #[.int .u16 (id : Int), .bool (F 6), .int .i64 op, .bool (F 5), .bool (F 4), .bool (F 3), .bool (F 2), .bool (F 1), .bool (F 0), .int .i64 rc, .slice none 0 0, .slice none 0 0, .slice none 0 0, .slice none 0 0] 28)).alloc (.cells #[.int .i64 c0, .int .i64 c1, .int .i64 c2, .int .i64 c3] 29) = WD := ⟨_, rfl⟩
  have hbD : Below w4.heap.size w4 WD := by rw [← hWD]; exact ((Below.refl _ _).alloc (Nat.le_refl _) _).alloc (by simp) _
  have hBO : Hid (Blk WD w4.heap.size 28 (0, 0) (cellsH id op rc F nils)) := by rw [← hWD]; exact Lib.hid ((Blk.new w4 28 (0, 0) (cellsH id op rc F nils).toArray).alloc _)
  have hBP : Hid (Blk WD (w4.heap.size + 1) 29 (0, 0) [.int .i64 c0, .int .i64 c1, .int .i64 c2, .int .i64 c3]) := by
    rw [← hWD]
    exact Lib.hid (by simpa using Blk.new (w4.alloc (.cells #[.int .u16 (id : Int), .bool (F 6), .int .i64 op, .bool (F 5), .bool (F 4), .bool (F 3), .bool (F 2), .bool (F 1), .bool (F 0), .int .i64 rc, .slice none 0 0, .slice none 0 0, .slice none 0 0, .slice none 0 0] 28)) 29 (0, 0) #[.int .i64 c0, .int .i64 c1, .int .i64 c2, .int .i64 c3])
  have hb8 := Lib.hid (hb7.out.trans (hbD.mono hb7.out.size))
  have hin5 := Lib.hid (hin4.out.ext hbD)
  have hBM5 := Lib.hid (hBM4.out.below hbD hBM4.out.lt)
  have hBN5 := Lib.hid (hBN4.out.below hbD hBN4.out.lt)
  clear hb7 hin4 hbD hBM4 hBN4
  go_wp2_with (first
    | (refine load_whole rfl 28 (.tmp 4) rfl rfl hBM5.out Try.underlying28 rfl (by kernel_rfl) ?_)
    | (refine load_whole rfl 28 (.tmp 7) rfl rfl hBO.out Try.underlying28 rfl (by kernel_rfl) ?_)
    | (go_at_call 11; refine (same_msg id op rc F).mono ?_; rintro e wT ⟨rfl, hbE⟩; have hb9 := Lib.hid (hb8.out.trans (hbE.mono hb8.out.size)); have hin6 := Lib.hid (hin5.out.ext hbE); have fp0 : wT.cell? ⟨w2.heap.size + 1, 0, none⟩ = some (.int .i64 c0) := ((hBN5.out.below hbE hBN5.out.lt).cell 0).trans rfl; have fp1 : wT.cell? ⟨w2.heap.size + 1, 1, none⟩ = some (.int .i64 c1) := ((hBN5.out.below hbE hBN5.out.lt).cell 1).trans rfl; have fp2 : wT.cell? ⟨w2.heap.size + 1, 2, none⟩ = some (.int .i64 c2) := ((hBN5.out.below hbE hBN5.out.lt).cell 2).trans rfl; have fp3 : wT.cell? ⟨w2.heap.size + 1, 3, none⟩ = some (.int .i64 c3) := ((hBN5.out.below hbE hBN5.out.lt).cell 3).trans rfl; have fq0 : wT.cell? ⟨w4.heap.size + 1, 0, none⟩ = some (.int .i64 c0) := ((hBP.out.below hbE hBP.out.lt).cell 0).trans rfl; have fq1 : wT.cell? ⟨w4.heap.size + 1, 1, none⟩ = some (.int .i64 c1) := ((hBP.out.below hbE hBP.out.lt).cell 1).trans rfl; have fq2 : wT.cell? ⟨w4.heap.size + 1, 2, none⟩ = some (.int .i64 c2) := ((hBP.out.below hbE hBP.out.lt).cell 2).trans rfl; have fq3 : wT.cell? ⟨w4.heap.size + 1, 3, none⟩ = some (.int .i64 c3) := ((hBP.out.below hbE hBP.out.lt).cell 3).trans rfl; clear hbE)
    | (go_at_call 12; refine (kept_bytes hin6.out (by omega) (hH.out.ext hb9.out) (by omega) rfl).mono ?_; rintro e wU ⟨rfl, hbU⟩; rw [beq_self_eq_true]))
  go_ret
  exact ⟨rfl, hb9.out.trans (hbU.mono hb9.out.size)⟩
section

theorem headerReads_law {W : World} (a : Option Addr) (n c : Nat) (l : List UInt8) (hb : RB W a n c l) (_ : World) :
    Calls Try.prog 3 #[.slice a n c] W fun e w' => e = .returned (.bool true) ∧ Below W.heap.size W w' := by
  have := hb.rd.cap
  have := hb.most
  exact headerReads_walk hb.rd (by unfold reachBytes at this; omega)
end
end Go.Proofs.Ytbpkhnnfdjihdaa
