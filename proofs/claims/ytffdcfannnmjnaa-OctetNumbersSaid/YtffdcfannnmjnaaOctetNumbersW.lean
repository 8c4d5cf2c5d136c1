/- OctetNumbers returns true for any numbers, bytes and place. The walk. -/
import Derived.Test.YtffdcfannnmjnaaNumB
import Derived.Test.YtffdcfannnmjnaaNameCallsW
namespace Go.Proofs.Ytffdcfannnmjnaa
open Go.RowKit
set_option maxHeartbeats 16000000 in
set_option maxRecDepth 100000 in
theorem octetNumbers_walk {W : World} (nn0 : Int) (m : Nat) (hm : m < 4294967296) {b : Option Addr} {nb cb : Nat} {lb : List UInt8} (h : RB W b nb cb lb) (at_ : Int) (ha : -9223372036854775808 ≤ at_ ∧ at_ ≤ 9223372036854775807) :
    Calls Try.prog 4 #[.int .i64 nn0, .int .u32 m, .slice b nb cb, .int .i64 at_] W fun e w' => e = .returned (.bool true) ∧ Below W.heap.size W w' := by
  have zb : nb ≤ 140737488351232 := by
    have := h.rd.cap
    have := h.most
    simp only [reachBytes] at this
    omega
  have hb0 := Lib.hid h.rd
  have hlb := Lib.hid h.rd.len
  obtain ⟨p2, q2, hN2⟩ : ∃ x y, numP lb at_ 2 = (x, y) := ⟨_, _, rfl⟩
  obtain ⟨p4, q4, hN4⟩ : ∃ x y, numP lb at_ 4 = (x, y) := ⟨_, _, rfl⟩
  clear h
  by_cases hy : nn0 < 0 ∨ 65535 < nn0
  · go_enter Try.func4, Try.ntmps4
    go_wp2_with fail
    refine (lent_bytes hb0.out (by omega)).mono ?_
    rintro e w1 ⟨rfl, hB1, k1⟩
    have hI1 := Lib.hid hB1
    clear hB1
    go_wp2_with fail
    refine (put16_no nn0 _ hy).mono ?_
    rintro e w2 ⟨rfl, rfl⟩
    go_wp2_with fail
    refine (rput16_no nn0 _ hy).mono ?_
    rintro e w3 ⟨rfl, rfl⟩
    have hI3 := hI1
    have hb3 := k1
    go_wp2_with fail
    refine (put32_any m w1 hm).mono ?_
    rintro e w4 ⟨rfl, hB4, k4⟩
    have hZ4 := Lib.hid hB4
    clear hB4
    have hb4 : Below W.heap.size W w4 := hb3.trans (k4.mono hb3.size)
    have hI4 := Lib.hid (hI3.out.below k4 hI3.out.lt)
    have hin : Hid (Rd byteE w4 (some ⟨W.heap.size, 0, none⟩) nb (nb + 3) lb) := Lib.hid (rd_pre (E := byteE) (l := lb) (r := [lentM lb.length, lentM (lb.length + 1), lentM (lb.length + 2)]) (by rw [rowOf_byte]; exact hI4.out) nb (nb + 3) hlb.out.symm (by rw [hlb.out]; rfl) (by simp [maxLen]; omega))
    go_wp2_with fail
    refine (u16_any hin.out at_ ha (by omega)).mono ?_
    rw [hN2]
    dsimp only
    rintro e w5 ⟨rfl, rfl⟩
    go_wp2_with fail
    refine (ru16_any (hb0.out.ext hb4) at_ ha (by omega)).mono ?_
    rw [hN2]
    dsimp only
    rintro e w5 ⟨rfl, rfl⟩
    go_wp2_with fail
    refine (u32_any hin.out at_ ha (by omega)).mono ?_
    rw [hN4]
    dsimp only
    rintro e w5 ⟨rfl, rfl⟩
    go_wp2_with fail
    refine (ru32_any (hb0.out.ext hb4) at_ ha (by omega)).mono ?_
    rw [hN4]
    dsimp only
    rintro e w5 ⟨rfl, rfl⟩
    go_wp2_with fail
    refine (same_bytes (Rd.nil byteE w4) (Rd.nil byteE w4)).mono ?_
    rw [beq_self_eq_true]
    rintro e w5 ⟨rfl, rfl⟩
    go_wp2_with fail
    refine (rput32_any m w4 hm).mono ?_
    rintro e w5 ⟨rfl, hB5, k5⟩
    have hV5 := Lib.hid hB5
    clear hB5
    have hb5 : Below W.heap.size W w5 := hb4.trans (k5.mono hb4.size)
    have hI5 := Lib.hid (hI4.out.below k5 hI4.out.lt)
    have hZ5 := Lib.hid (hZ4.out.below k5 hZ4.out.lt)
    go_wp2_with fail
    refine (same_bytes (rd_blk (E := byteE) (X := be32 m) (by rw [rowOf_byte]; exact hZ5.out) 4 rfl (by decide)) (rd_blk (E := byteE) (X := be32 m) (by rw [rowOf_byte]; exact hV5.out) 4 rfl (by decide))).mono ?_
    rw [beq_self_eq_true]
    rintro e w6 ⟨rfl, rfl⟩
    have hkr : Hid (Rd byteE w5 (some ⟨W.heap.size, 0, none⟩) (nb + 3) (nb + 3) (lentL lb)) := Lib.hid (rd_blk (E := byteE) (by rw [rowOf_byte]; exact hI5.out) _ (by rw [lentL_length, hlb.out]) (by simp [maxLen]; omega))
    go_wp2_with fail
    refine (kept_bytes (n := nb) hkr.out (by omega) (hb0.out.ext hb5) (by omega) rfl).mono ?_
    rw [beq_self_eq_true]
    rintro e w6 ⟨rfl, k6⟩
    have hb6 : Below W.heap.size W w6 := hb5.trans (k6.mono hb5.size)
    have hI6 := Lib.hid (hI5.out.below k6 hI5.out.lt)
    have hZ6 := Lib.hid (hZ5.out.below k6 hZ5.out.lt)
    go_wp2_with fail
    refine (put32_any m w6 hm).mono ?_
    rintro e w7 ⟨rfl, hB7, k7⟩
    have hb7 : Below W.heap.size W w7 := hb6.trans (k7.mono hb6.size)
    have s1 := k1.size
    have s4 := k4.size
    have s5 := k5.size
    have s6 := k6.size
    have s7 := k7.size
    have l1 := hI1.out.lt
    have l4 := hZ4.out.lt
    have l7 := hB7.lt
    let LL : List Ap := [(some W.heap.size, nb, lentL lb), (none, 0, []), (some w1.heap.size, 4, be32 m), (some w6.heap.size, 4, be32 m)]
    have hkk : Below w7.heap.size w7 (w7.alloc (.cells (LL.map apV).toArray 27)) := (Below.refl _ _).alloc (Nat.le_refl _) _
    have hI7 := (hI6.out.below k7 hI6.out.lt).below hkk (Nat.lt_of_lt_of_le hI6.out.lt s7)
    have hZ7 := (hZ6.out.below k7 hZ6.out.lt).below hkk (Nat.lt_of_lt_of_le hZ6.out.lt s7)
    have hQ7 := hB7.below hkk l7
    have hAps : Hid (Aps (w7.alloc (.cells (LL.map apV).toArray 27)) W.heap.size w7.heap.size LL) := Lib.hid (by
      refine ⟨fun j p hp => ?_, fun i j p q g hp hq e1 e2 => ?_⟩
      · match j, hp with
        | 0, hp => cases hp; exact ⟨hI7, by rw [lentL_length, hlb.out]; omega, by rw [lentL_length, hlb.out]; omega, Nat.le_refl _, by omega⟩
        | 1, hp => cases hp; rfl
        | 2, hp => cases hp; exact ⟨hZ7, show 4 ≤ 4 by decide, show 4 ≤ 140737488355328 by decide, by omega, by omega⟩
        | 3, hp => cases hp; exact ⟨hQ7, show 4 ≤ 4 by decide, show 4 ≤ 140737488355328 by decide, by omega, by omega⟩
        | j + 4, hp => simp [LL] at hp
      · match i, hp, j, hq with
        | 0, hp, 0, hq => rfl
        | 0, hp, 1, hq => cases hp; cases hq; simp at e1 e2
        | 0, hp, 2, hq => cases hp; cases hq; simp at e1 e2; omega
        | 0, hp, 3, hq => cases hp; cases hq; simp at e1 e2; omega
        | 1, hp, 0, hq => cases hp; cases hq; simp at e1 e2
        | 1, hp, 1, hq => rfl
        | 1, hp, 2, hq => cases hp; cases hq; simp at e1 e2
        | 1, hp, 3, hq => cases hp; cases hq; simp at e1 e2
        | 2, hp, 0, hq => cases hp; cases hq; simp at e1 e2; omega
        | 2, hp, 1, hq => cases hp; cases hq; simp at e1 e2
        | 2, hp, 2, hq => rfl
        | 2, hp, 3, hq => cases hp; cases hq; simp at e1 e2; omega
        | 3, hp, 0, hq => cases hp; cases hq; simp at e1 e2; omega
        | 3, hp, 1, hq => cases hp; cases hq; simp at e1 e2
        | 3, hp, 2, hq => cases hp; cases hq; simp at e1 e2; omega
        | 3, hp, 3, hq => rfl
        | i + 4, hp, _, _ => simp [LL] at hp
        | 0, _, j + 4, hq => simp [LL] at hq
        | 1, _, j + 4, hq => simp [LL] at hq
        | 2, _, j + 4, hq => simp [LL] at hq
        | 3, _, j + 4, hq => simp [LL] at hq)
    have hGl : Hid (Blk (w7.alloc (.cells (LL.map apV).toArray 27)) w7.heap.size 27 (0, 0) (LL.map apV)) := Lib.hid (Blk.new w7 27 (0, 0) (LL.map apV).toArray)
    have hv0 : apV (some W.heap.size, nb, lentL lb) = .slice (some ⟨W.heap.size, 0, none⟩) nb (nb + 3) := by show Value.slice (some ⟨W.heap.size, 0, none⟩) nb (lentL lb).length = _; rw [lentL_length, hlb.out]
    have hb8 : Below W.heap.size W (w7.alloc (.cells (LL.map apV).toArray 27)) := hb7.trans (hkk.mono (by omega))
    have hLL : (LL.map apV).toArray = #[.slice (some ⟨W.heap.size, 0, none⟩) nb (nb + 3), .slice none 0 0, .slice (some ⟨w1.heap.size, 0, none⟩) 4 4, .slice (some ⟨w6.heap.size, 0, none⟩) 4 4] := by
      show (#[apV (some W.heap.size, nb, lentL lb), _, _, _] : Array Value) = _
      rw [hv0]; rfl
    clear hI7 hZ7 hQ7 hB7 hkk hv0
    have hgo := Lib.hid (apart_any hAps.out hGl.out (Nat.le_refl _) (by omega) (show 4 ≤ 100 by decide))
    have hgo2 : Hid (Calls Try.prog 32 #[.slice (some ⟨w7.heap.size, 0, none⟩) 4 4] (w7.alloc (.cells (LL.map apV).toArray 27)) fun e w' => e = .returned (.bool true) ∧ Below W.heap.size (w7.alloc (.cells (LL.map apV).toArray 27)) w') := hgo
    rw [hLL] at hgo2 hb8
    clear hgo hAps hGl hLL
    clear_value LL
    clear LL s1 s4 s5 s6 s7 l1 l4 l7
    go_wp2_with fail
    refine hgo2.out.mono ?_
    rintro e w9 ⟨rfl, k9⟩
    go_wp2_with fail
    go_ret
    exact ⟨rfl, hb8.trans k9⟩
  · obtain ⟨nn, rfl⟩ : ∃ k : Nat, nn0 = k := ⟨nn0.toNat, by omega⟩
    have hy : nn ≤ 65535 := by omega
    go_enter Try.func4, Try.ntmps4
    go_wp2_with fail
    refine (lent_bytes hb0.out (by omega)).mono ?_
    rintro e w1 ⟨rfl, hB1, k1⟩
    have hI1 := Lib.hid hB1
    clear hB1
    go_wp2_with fail
    refine (put16_ok nn _ hy).mono ?_
    rintro e w2 ⟨rfl, hB2, k2⟩
    have hX2 := Lib.hid hB2
    clear hB2
    have hb2 : Below W.heap.size W w2 := k1.trans (k2.mono k1.size)
    have hI2 := Lib.hid (hI1.out.below k2 hI1.out.lt)
    go_wp2_with fail
    refine (rput16_ok nn _ hy).mono ?_
    rintro e w3 ⟨rfl, hB3, k3⟩
    have hY3 := Lib.hid hB3
    clear hB3
    have hb3 : Below W.heap.size W w3 := hb2.trans (k3.mono hb2.size)
    have hI3 := Lib.hid (hI2.out.below k3 hI2.out.lt)
    have hX3 := Lib.hid (hX2.out.below k3 hX2.out.lt)
    go_wp2_with fail
    refine (put32_any m w3 hm).mono ?_
    rintro e w4 ⟨rfl, hB4, k4⟩
    have hZ4 := Lib.hid hB4
    clear hB4
    have hb4 : Below W.heap.size W w4 := hb3.trans (k4.mono hb3.size)
    have hI4 := Lib.hid (hI3.out.below k4 hI3.out.lt)
    have hX4 := Lib.hid (hX3.out.below k4 hX3.out.lt)
    have hY4 := Lib.hid (hY3.out.below k4 hY3.out.lt)
    have hin : Hid (Rd byteE w4 (some ⟨W.heap.size, 0, none⟩) nb (nb + 3) lb) := Lib.hid (rd_pre (E := byteE) (l := lb) (r := [lentM lb.length, lentM (lb.length + 1), lentM (lb.length + 2)]) (by rw [rowOf_byte]; exact hI4.out) nb (nb + 3) hlb.out.symm (by rw [hlb.out]; rfl) (by simp [maxLen]; omega))
    go_wp2_with fail
    refine (u16_any hin.out at_ ha (by omega)).mono ?_
    rw [hN2]
    dsimp only
    rintro e w5 ⟨rfl, rfl⟩
    go_wp2_with fail
    refine (ru16_any (hb0.out.ext hb4) at_ ha (by omega)).mono ?_
    rw [hN2]
    dsimp only
    rintro e w5 ⟨rfl, rfl⟩
    go_wp2_with fail
    refine (u32_any hin.out at_ ha (by omega)).mono ?_
    rw [hN4]
    dsimp only
    rintro e w5 ⟨rfl, rfl⟩
    go_wp2_with fail
    refine (ru32_any (hb0.out.ext hb4) at_ ha (by omega)).mono ?_
    rw [hN4]
    dsimp only
    rintro e w5 ⟨rfl, rfl⟩
    go_wp2_with fail
    refine (same_bytes (rd_blk (E := byteE) (X := be16 nn) (by rw [rowOf_byte]; exact hX4.out) 2 rfl (by decide)) (rd_blk (E := byteE) (X := be16 nn) (by rw [rowOf_byte]; exact hY4.out) 2 rfl (by decide))).mono ?_
    rw [beq_self_eq_true]
    rintro e w5 ⟨rfl, rfl⟩
    go_wp2_with fail
    refine (rput32_any m w4 hm).mono ?_
    rintro e w5 ⟨rfl, hB5, k5⟩
    have hV5 := Lib.hid hB5
    clear hB5
    have hb5 : Below W.heap.size W w5 := hb4.trans (k5.mono hb4.size)
    have hI5 := Lib.hid (hI4.out.below k5 hI4.out.lt)
    have hZ5 := Lib.hid (hZ4.out.below k5 hZ4.out.lt)
    have hX5 := Lib.hid (hX4.out.below k5 hX4.out.lt)
    go_wp2_with fail
    refine (same_bytes (rd_blk (E := byteE) (X := be32 m) (by rw [rowOf_byte]; exact hZ5.out) 4 rfl (by decide)) (rd_blk (E := byteE) (X := be32 m) (by rw [rowOf_byte]; exact hV5.out) 4 rfl (by decide))).mono ?_
    rw [beq_self_eq_true]
    rintro e w6 ⟨rfl, rfl⟩
    have hkr : Hid (Rd byteE w5 (some ⟨W.heap.size, 0, none⟩) (nb + 3) (nb + 3) (lentL lb)) := Lib.hid (rd_blk (E := byteE) (by rw [rowOf_byte]; exact hI5.out) _ (by rw [lentL_length, hlb.out]) (by simp [maxLen]; omega))
    go_wp2_with fail
    refine (kept_bytes (n := nb) hkr.out (by omega) (hb0.out.ext hb5) (by omega) rfl).mono ?_
    rw [beq_self_eq_true]
    rintro e w6 ⟨rfl, k6⟩
    have hb6 : Below W.heap.size W w6 := hb5.trans (k6.mono hb5.size)
    have hI6 := Lib.hid (hI5.out.below k6 hI5.out.lt)
    have hZ6 := Lib.hid (hZ5.out.below k6 hZ5.out.lt)
    have hX6 := Lib.hid (hX5.out.below k6 hX5.out.lt)
    go_wp2_with fail
    refine (put32_any m w6 hm).mono ?_
    rintro e w7 ⟨rfl, hB7, k7⟩
    have hb7 : Below W.heap.size W w7 := hb6.trans (k7.mono hb6.size)
    have s1 := k1.size
    have s2 := k2.size
    have s3 := k3.size
    have s4 := k4.size
    have s5 := k5.size
    have s6 := k6.size
    have s7 := k7.size
    have l1 := hI1.out.lt
    have l2 := hX2.out.lt
    have l3 := hY3.out.lt
    have l4 := hZ4.out.lt
    have l7 := hB7.lt
    let LL : List Ap := [(some W.heap.size, nb, lentL lb), (some w1.heap.size, 2, be16 nn), (some w3.heap.size, 4, be32 m), (some w6.heap.size, 4, be32 m)]
    have hkk : Below w7.heap.size w7 (w7.alloc (.cells (LL.map apV).toArray 27)) := (Below.refl _ _).alloc (Nat.le_refl _) _
    have hI7 := (hI6.out.below k7 hI6.out.lt).below hkk (Nat.lt_of_lt_of_le hI6.out.lt s7)
    have hZ7 := (hZ6.out.below k7 hZ6.out.lt).below hkk (Nat.lt_of_lt_of_le hZ6.out.lt s7)
    have hX7 := (hX6.out.below k7 hX6.out.lt).below hkk (Nat.lt_of_lt_of_le hX6.out.lt s7)
    have hQ7 := hB7.below hkk l7
    have hAps : Hid (Aps (w7.alloc (.cells (LL.map apV).toArray 27)) W.heap.size w7.heap.size LL) := Lib.hid (by
      refine ⟨fun j p hp => ?_, fun i j p q g hp hq e1 e2 => ?_⟩
      · match j, hp with
        | 0, hp => cases hp; exact ⟨hI7, by rw [lentL_length, hlb.out]; omega, by rw [lentL_length, hlb.out]; omega, Nat.le_refl _, by omega⟩
        | 1, hp => cases hp; exact ⟨hX7, show 2 ≤ 2 by decide, show 2 ≤ 140737488355328 by decide, by omega, by omega⟩
        | 2, hp => cases hp; exact ⟨hZ7, show 4 ≤ 4 by decide, show 4 ≤ 140737488355328 by decide, by omega, by omega⟩
        | 3, hp => cases hp; exact ⟨hQ7, show 4 ≤ 4 by decide, show 4 ≤ 140737488355328 by decide, by omega, by omega⟩
        | j + 4, hp => simp [LL] at hp
      · match i, hp, j, hq with
        | 0, hp, 0, hq => rfl
        | 0, hp, 1, hq => cases hp; cases hq; simp at e1 e2; omega
        | 0, hp, 2, hq => cases hp; cases hq; simp at e1 e2; omega
        | 0, hp, 3, hq => cases hp; cases hq; simp at e1 e2; omega
        | 1, hp, 0, hq => cases hp; cases hq; simp at e1 e2; omega
        | 1, hp, 1, hq => rfl
        | 1, hp, 2, hq => cases hp; cases hq; simp at e1 e2; omega
        | 1, hp, 3, hq => cases hp; cases hq; simp at e1 e2; omega
        | 2, hp, 0, hq => cases hp; cases hq; simp at e1 e2; omega
        | 2, hp, 1, hq => cases hp; cases hq; simp at e1 e2; omega
        | 2, hp, 2, hq => rfl
        | 2, hp, 3, hq => cases hp; cases hq; simp at e1 e2; omega
        | 3, hp, 0, hq => cases hp; cases hq; simp at e1 e2; omega
        | 3, hp, 1, hq => cases hp; cases hq; simp at e1 e2; omega
        | 3, hp, 2, hq => cases hp; cases hq; simp at e1 e2; omega
        | 3, hp, 3, hq => rfl
        | i + 4, hp, _, _ => simp [LL] at hp
        | 0, _, j + 4, hq => simp [LL] at hq
        | 1, _, j + 4, hq => simp [LL] at hq
        | 2, _, j + 4, hq => simp [LL] at hq
        | 3, _, j + 4, hq => simp [LL] at hq)
    have hGl : Hid (Blk (w7.alloc (.cells (LL.map apV).toArray 27)) w7.heap.size 27 (0, 0) (LL.map apV)) := Lib.hid (Blk.new w7 27 (0, 0) (LL.map apV).toArray)
    have hv0 : apV (some W.heap.size, nb, lentL lb) = .slice (some ⟨W.heap.size, 0, none⟩) nb (nb + 3) := by show Value.slice (some ⟨W.heap.size, 0, none⟩) nb (lentL lb).length = _; rw [lentL_length, hlb.out]
    have hb8 : Below W.heap.size W (w7.alloc (.cells (LL.map apV).toArray 27)) := hb7.trans (hkk.mono (by omega))
    have hLL : (LL.map apV).toArray = #[.slice (some ⟨W.heap.size, 0, none⟩) nb (nb + 3), .slice (some ⟨w1.heap.size, 0, none⟩) 2 2, .slice (some ⟨w3.heap.size, 0, none⟩) 4 4, .slice (some ⟨w6.heap.size, 0, none⟩) 4 4] := by
      show (#[apV (some W.heap.size, nb, lentL lb), _, _, _] : Array Value) = _
      rw [hv0]; rfl
    clear hI7 hZ7 hX7 hQ7 hB7 hkk hv0
    have hgo := Lib.hid (apart_any hAps.out hGl.out (Nat.le_refl _) (by omega) (show 4 ≤ 100 by decide))
    have hgo2 : Hid (Calls Try.prog 32 #[.slice (some ⟨w7.heap.size, 0, none⟩) 4 4] (w7.alloc (.cells (LL.map apV).toArray 27)) fun e w' => e = .returned (.bool true) ∧ Below W.heap.size (w7.alloc (.cells (LL.map apV).toArray 27)) w') := hgo
    rw [hLL] at hgo2 hb8
    clear hgo hAps hGl hLL
    clear_value LL
    clear LL s1 s4 s5 s6 s7 l1 l4 l7
    go_wp2_with fail
    refine hgo2.out.mono ?_
    rintro e w9 ⟨rfl, k9⟩
    go_wp2_with fail
    go_ret
    exact ⟨rfl, hb8.trans k9⟩
theorem wf_u32 {q : Int} (h : (Lit.int .u32 q).wf = true) : 0 ≤ q ∧ q < 4294967296 := by
  simp [Lit.wf, IntKind.min, IntKind.max, IntKind.signed, IntKind.bits] at h
  omega
theorem wf_i64 {q : Int} (h : (Lit.int .i64 q).wf = true) : -9223372036854775808 ≤ q ∧ q ≤ 9223372036854775807 := by
  simp [Lit.wf, IntKind.min, IntKind.max, IntKind.signed, IntKind.bits] at h
  omega
theorem octetNumbers_law {W : World} (x : Int) (_ : (Lit.int .i64 x).wf = true) (m : Int) (hm : (Lit.int .u32 m).wf = true) (b : Option Addr) (nb cb : Nat) (lb : List UInt8) (h : RB W b nb cb lb) (p : Int) (hp : (Lit.int .i64 p).wf = true) (_ : World) :
    Calls Try.prog 4 #[.int .i64 x, .int .u32 m, .slice b nb cb, .int .i64 p] W fun e w' => e = .returned (.bool true) ∧ Below W.heap.size W w' := by
  have h1 := wf_u32 hm
  obtain ⟨k, rfl⟩ : ∃ k : Nat, m = k := ⟨m.toNat, by omega⟩
  exact octetNumbers_walk x k (by omega) h p (wf_i64 hp)
end Go.Proofs.Ytffdcfannnmjnaa
