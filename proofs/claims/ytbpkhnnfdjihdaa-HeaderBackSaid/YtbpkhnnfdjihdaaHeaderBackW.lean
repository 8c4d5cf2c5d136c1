/- The law HeaderBack, walked; printed by gen_hback.py. -/
import Derived.Test.YtbpkhnnfdjihdaaHdSm
import Derived.Test.YtbpkhnnfdjihdaaHdSo
import Derived.Test.YtbpkhnnfdjihdaaOpenH
namespace Go.Proofs.Ytbpkhnnfdjihdaa
open Go Go.RowKit Go.Maps
theorem and64 (x : Nat) : x &&& 64 = if x / 64 % 2 = 1 then 64 else 0 := by
  have e : (2 : Nat) ^ 6 = 64 := rfl
  have ht : ∀ i, Nat.testBit 64 i = decide (6 = i) := fun i => by rw [← e]; exact Nat.testBit_two_pow
  apply Nat.eq_of_testBit_eq
  intro i
  rw [Nat.testBit_and, ht]
  by_cases hi : 6 = i
  · subst hi
    rw [decide_eq_true rfl, Bool.and_true, Nat.testBit_eq_decide_div_mod_eq, e]
    by_cases hx : x / 64 % 2 = 1
    · rw [decide_eq_true hx, if_pos hx]; rfl
    · rw [decide_eq_false hx, if_neg hx]; rfl
  · rw [decide_eq_false hi, Bool.and_false]
    split
    · rw [ht, decide_eq_false hi]
    · simp
theorem keep4 {w wa wb wc wd : World} {s : Nat} (ha : w.grownBy wa (some s)) (hb : wa.grownBy wb (some s)) (hc : wb.grownBy wc (some s)) (hd : wc.grownBy wd (some s)) {k : Nat} (hk : k < w.heap.size) (hne : k ≠ s) : wd.heap[k]? = w.heap[k]? := by
  obtain ⟨_, _, _, sa, ka⟩ := ha
  obtain ⟨_, _, _, sb, kb⟩ := hb
  obtain ⟨_, _, _, sc, kc⟩ := hc
  obtain ⟨_, _, _, sd, kd⟩ := hd
  have hn : (some k : Option Nat) ≠ some s := fun e => hne (Option.some.inj e)
  rw [kd k (by omega) hn, kc k (by omega) hn, kb k (by omega) hn, ka k hk hn]
theorem below4 {W w wa wb wc wd : World} {s B : Nat} (h0 : Below B W w) (hs : B ≤ s) (hB : B ≤ w.heap.size) (ha : w.grownBy wa (some s)) (hb : wa.grownBy wb (some s)) (hc : wb.grownBy wc (some s)) (hd : wc.grownBy wd (some s)) : Below B W wd := by
  have kk : ∀ k, k < B → wd.heap[k]? = w.heap[k]? := fun k hk => keep4 ha hb hc hd (by omega) (by omega)
  obtain ⟨a1, a2, a3, sa, _⟩ := ha
  obtain ⟨b1, b2, b3, sb, _⟩ := hb
  obtain ⟨c1, c2, c3, sc, _⟩ := hc
  obtain ⟨d1, d2, d3, sd, _⟩ := hd
  exact h0.trans ⟨d1.trans (c1.trans (b1.trans a1)), d2.trans (c2.trans (b2.trans a2)), d3.trans (c3.trans (b3.trans a3)), by omega, kk⟩
theorem bad_len {l : List UInt8} (h : hdBad l = false) : 12 ≤ l.length := by
  unfold hdBad at h
  rw [Bool.or_eq_false_iff] at h
  have := of_decide_eq_false h.1
  omega
theorem list12 {l : List UInt8} (h : 12 ≤ l.length) : ∃ a0 a1 a2 a3 a4 a5 a6 a7 a8 a9 b0 b1 r, l = a0 :: a1 :: a2 :: a3 :: a4 :: a5 :: a6 :: a7 :: a8 :: a9 :: b0 :: b1 :: r := by
  match l, h with
  | a0 :: a1 :: a2 :: a3 :: a4 :: a5 :: a6 :: a7 :: a8 :: a9 :: b0 :: b1 :: r, _ => exact ⟨a0, a1, a2, a3, a4, a5, a6, a7, a8, a9, b0, b1, r, rfl⟩
theorem be_num (x y : UInt8) : be16 (numL [x, y]) = [x, y] := by
  have h1 := x.toNat_lt
  have h2 := y.toNat_lt
  unfold numL be16
  simp only [List.foldl_cons, List.foldl_nil]
  have e1 : (((0 * 256 + x.toNat) * 256 + y.toNat) / 256) = x.toNat := by omega
  have e2 : (((0 * 256 + x.toNat) * 256 + y.toNat) % 256) = y.toNat := by omega
  rw [e1, e2, UInt8.ofNat_toNat, UInt8.ofNat_toNat]
theorem bad_bit {l : List UInt8} (h : hdBad l = true) (h12 : 12 ≤ l.length) : ∃ x : UInt8, l[3]'(by omega) = x ∧ bits .and .u8 (x.toNat : Int) 64 = 64 := by
  obtain ⟨a0, a1, a2, a3, a4, a5, a6, a7, a8, a9, b0, b1, r, rfl⟩ := list12 h12
  refine ⟨a3, rfl, ?_⟩
  have e := (bits_nat .u8 8 (by decide) (fun n h0 h1 => by rw [IntKind.wrap_u8]; omega) a3.toNat 64 (by have := a3.toNat_lt; omega) (by decide)).1
  have e2 : bits .and .u8 (a3.toNat : Int) 64 = ((a3.toNat &&& 64 : Nat) : Int) := e
  rw [e2, and64]
  unfold hdBad at h
  rw [Bool.or_eq_true] at h
  rcases h with h | h
  · have := of_decide_eq_true h
    omega
  · have hn : hN (a0 :: a1 :: a2 :: a3 :: a4 :: a5 :: a6 :: a7 :: a8 :: a9 :: b0 :: b1 :: r) 1 = a2.toNat * 256 + a3.toNat := by
      unfold hN
      rw [if_pos (by simp)]
      simp [numL]
    rw [hn, and64] at h
    have h3 : a3.toNat / 64 % 2 = 1 := by
      by_cases hx : (a2.toNat * 256 + a3.toNat) / 64 % 2 = 1
      · omega
      · rw [if_neg hx] at h; simp at h
    rw [if_pos h3]
    rfl
theorem forth_bytes {l : List UInt8} (h : hdBad l = false) : be16s [(hN l 0 : Int), ((hbits (hN l 1 / 2048 &&& 15) (hN l 1 &&& 15) (tb (hN l 1)) : Nat) : Int), (hN l 2 : Int), (hN l 3 : Int), (hN l 4 : Int), (hN l 5 : Int)] = l.take 12 := by
  have h12 := bad_len h
  have h64 : hN l 1 &&& 64 = 0 := by
    unfold hdBad at h
    rw [Bool.or_eq_false_iff] at h
    simpa using h.2
  rw [forth (hN_lt l 1) h64]
  obtain ⟨a0, a1, a2, a3, a4, a5, a6, a7, a8, a9, b0, b1, r, rfl⟩ := list12 h12
  simp only [be16s, List.flatMap_cons, List.flatMap_nil, Int.toNat_natCast, hN]
  simp [be_num]
def okH (op rc c0 c1 c2 c3 : Int) : Bool := decide (0 ≤ op) && decide (op ≤ 15) && decide (0 ≤ rc) && decide (rc ≤ 15) && (inR c0 && inR c1 && inR c2 && inR c3)
theorem ok_parts {op rc c0 c1 c2 c3 : Int} (h : okH op rc c0 c1 c2 c3 = true) : 0 ≤ op ∧ op ≤ 15 ∧ 0 ≤ rc ∧ rc ≤ 15 ∧ (inR c0 && inR c1 && inR c2 && inR c3) = true := by
  unfold okH at h
  rw [Bool.and_eq_true, Bool.and_eq_true, Bool.and_eq_true, Bool.and_eq_true] at h
  exact ⟨of_decide_eq_true h.1.1.1.1, of_decide_eq_true h.1.1.1.2, of_decide_eq_true h.1.1.2, of_decide_eq_true h.1.2, h.2⟩
theorem bytes_all {W : World} {s0 s1 s2 s3 : Value} (id : Nat) (hid : id < 65536) (op rc : Int) (F : Nat → Bool) (c0 c1 c2 c3 : Int) :
    Calls Try.prog 14 #[mV id op rc F s0 s1 s2 s3, cV c0 c1 c2 c3] W fun e w' => (if okH op rc c0 c1 c2 c3 = true then ∃ v, e = .returned (.tuple #[v, .int .i64 0]) ∧ Own byteE w' W.heap.size v (be16s [(id : Int), ((hbits op.toNat rc.toNat F : Nat) : Int), c0, c1, c2, c3]) else e = .returned (.tuple #[.slice none 0 0, .int .i64 2])) ∧ Below W.heap.size W w' := by
  by_cases hb : op < 0 ∨ 15 < op ∨ rc < 0 ∨ 15 < rc
  · have hno : ¬ okH op rc c0 c1 c2 c3 = true := fun h => by have := ok_parts h; omega
    refine (bytes_bad1 (W := W) id op rc F s0 s1 s2 s3 c0 c1 c2 c3 hb).mono ?_
    rintro e w' ⟨h1, h2⟩
    rw [if_neg hno]
    exact ⟨h1, h2⟩
  · have h := bytes_any (W := W) id op.toNat rc.toNat F s0 s1 s2 s3 c0 c1 c2 c3 hid (by omega) (by omega)
    rw [Int.toNat_of_nonneg (by omega), Int.toNat_of_nonneg (by omega)] at h
    refine h.mono ?_
    rintro e w' ⟨h1, h2⟩
    refine ⟨?_, h2⟩
    have e1 : okH op rc c0 c1 c2 c3 = (inR c0 && inR c1 && inR c2 && inR c3) := by
      unfold okH
      rw [decide_eq_true (by omega : 0 ≤ op), decide_eq_true (by omega : op ≤ 15), decide_eq_true (by omega : 0 ≤ rc), decide_eq_true (by omega : rc ≤ 15)]
      rfl
    rw [e1]
    exact h1
set_option maxHeartbeats 16000000 in
set_option maxRecDepth 100000 in
theorem headerBack_walk {W : World} (id : Nat) (hid : id < 65536) (op rc : Int) (F : Nat → Bool) (s0 s1 s2 s3 : Value) (c0 c1 c2 c3 : Int) {ab : Option Addr} {n c : Nat} {l : List UInt8} (hR : Rd byteE W ab n c l) (hn : n ≤ 140737488355328) :
    Calls Try.prog 4 #[mV id op rc F s0 s1 s2 s3, cV c0 c1 c2 c3, .slice ab n c] W fun e w' => e = .returned (.bool true) ∧ Below W.heap.size W w' := by
  have hb0 : Below W.heap.size W ((W.alloc (.cells #[.int .u16 (id : Int), .bool (F 6), .int .i64 op, .bool (F 5), .bool (F 4), .bool (F 3), .bool (F 2), .bool (F 1), .bool (F 0), .int .i64 rc, s0, s1, s2, s3] 28)).alloc (.cells #[.int .i64 c0, .int .i64 c1, .int .i64 c2, .int .i64 c3] 29)) := ((Below.refl _ _).alloc (Nat.le_refl _) _).alloc (by simp) _
  have hBm : Blk ((W.alloc (.cells #[.int .u16 (id : Int), .bool (F 6), .int .i64 op, .bool (F 5), .bool (F 4), .bool (F 3), .bool (F 2), .bool (F 1), .bool (F 0), .int .i64 rc, s0, s1, s2, s3] 28)).alloc (.cells #[.int .i64 c0, .int .i64 c1, .int .i64 c2, .int .i64 c3] 29)) W.heap.size 28 (0, 0) (cellsH id op rc F [s0, s1, s2, s3]) :=
    (Blk.new W 28 (0, 0) (cellsH id op rc F [s0, s1, s2, s3]).toArray).below ((Below.refl _ _).alloc (Nat.le_refl _) _) (by simp)
  have hBc : Blk ((W.alloc (.cells #[.int .u16 (id : Int), .bool (F 6), .int .i64 op, .bool (F 5), .bool (F 4), .bool (F 3), .bool (F 2), .bool (F 1), .bool (F 0), .int .i64 rc, s0, s1, s2, s3] 28)).alloc (.cells #[.int .i64 c0, .int .i64 c1, .int .i64 c2, .int .i64 c3] 29)) (W.heap.size + 1) 29 (0, 0) [.int .i64 c0, .int .i64 c1, .int .i64 c2, .int .i64 c3] := by
    simpa using Blk.new (W.alloc (.cells #[.int .u16 (id : Int), .bool (F 6), .int .i64 op, .bool (F 5), .bool (F 4), .bool (F 3), .bool (F 2), .bool (F 1), .bool (F 0), .int .i64 rc, s0, s1, s2, s3] 28)) 29 (0, 0) #[.int .i64 c0, .int .i64 c1, .int .i64 c2, .int .i64 c3]
  have hWW := Lib.hid (And.intro hb0 (And.intro hBm hBc))
  have hRW := Lib.hid hR
  have hR' := Lib.hid (hR.ext hb0)
  have hl := hR.len
  clear hb0 hBm hBc hR
  unfold mV cV
  go_enter Try.func4, Try.ntmps4
  go_wp2_with fail
  generalize ((W.alloc (.cells #[.int .u16 (id : Int), .bool (F 6), .int .i64 op, .bool (F 5), .bool (F 4), .bool (F 3), .bool (F 2), .bool (F 1), .bool (F 0), .int .i64 rc, s0, s1, s2, s3] 28)).alloc (.cells #[.int .i64 c0, .int .i64 c1, .int .i64 c2, .int .i64 c3] 29)) = w0 at *
  obtain ⟨hb0, hBm, hBc⟩ := hWW.out
  refine awake_any.mono ?_
  rintro e w1 ⟨rfl, hb1⟩
  have hb2 := Lib.hid (hb0.trans (hb1.mono hb0.size))
  have hBm1 := Lib.hid (hBm.below hb1 hBm.lt)
  have hBc1 := Lib.hid (hBc.below hb1 hBc.lt)
  have hR1 := Lib.hid (hR'.out.ext hb1)
  clear hb0 hb1 hBm hBc hWW hR'
  go_wp2_with (first | (refine load_whole rfl 28 (.tmp 3) rfl rfl hBm1.out Try.underlying28 rfl (by kernel_rfl) ?_) | (refine load_whole rfl 29 (.tmp 4) rfl rfl hBc1.out Try.underlying29 rfl (by kernel_rfl) ?_))
  refine (bytes_all (s0 := s0) (s1 := s1) (s2 := s2) (s3 := s3) id hid op rc F c0 c1 c2 c3).mono ?_
  rintro e w2 ⟨h2, hb3⟩
  have hb4 := Lib.hid (hb2.out.trans (hb3.mono hb2.out.size))
  have hBm2 := Lib.hid (hBm1.out.below hb3 hBm1.out.lt)
  have hBc2 := Lib.hid (hBc1.out.below hb3 hBc1.out.lt)
  have hR2 := Lib.hid (hR1.out.ext hb3)
  clear hBm1 hBc1 hb2 hb3 hR1
  cases hok : okH op rc c0 c1 c2 c3
  · rw [hok, if_neg (by decide)] at h2
    subst h2
    have hbT := hb4
    have hRT := hR2
    clear hBm2 hBc2 hb4 hR2
    go_wp2_with fail
    refine (read_any hRT.out hn).mono ?_
    rintro e w5 ⟨rfl, hb5⟩
    have hb6 := Lib.hid (hbT.out.trans (hb5.mono hbT.out.size))
    have hR6 := Lib.hid (hRT.out.ext hb5)
    clear hb5 hRT hbT
    cases hbd : hdBad l
    · rw [if_neg (by decide)]
      have hfo := Lib.hid (forth_bytes hbd)
      have h12 : Hid (12 ≤ l.length) := Lib.hid (bad_len hbd)
      have hm : msgV (hN l 0) ((hN l 1 / 2048 &&& 15 : Nat) : Int) ((hN l 1 &&& 15 : Nat) : Int) (tb (hN l 1)) nils = mV (hN l 0 : Nat) ((hN l 1 / 2048 &&& 15 : Nat) : Int) ((hN l 1 &&& 15 : Nat) : Int) (tb (hN l 1)) (.slice none 0 0) (.slice none 0 0) (.slice none 0 0) (.slice none 0 0) := rfl
      have hc : cntV (hN l 2) (hN l 3) (hN l 4) (hN l 5) = cV (hN l 2 : Nat) (hN l 3 : Nat) (hN l 4 : Nat) (hN l 5 : Nat) := rfl
      rw [hm, hc]
      clear hm hc
      have k0 : Hid (hN l 0 < 65536) := Lib.hid (hN_lt l 0)
      have k1 : Hid (hN l 1 / 2048 &&& 15 ≤ 15 ∧ hN l 1 &&& 15 ≤ 15) := Lib.hid (by have := and_lt16 (hN l 1 / 2048); have := and_lt16 (hN l 1); omega)
      have kk : Hid ((inR (hN l 2 : Nat) && inR (hN l 3 : Nat) && inR (hN l 4 : Nat) && inR (hN l 5 : Nat)) = true) := Lib.hid (by
        have i2 : inR (hN l 2 : Nat) = true := by have := hN_lt l 2; unfold inR; exact decide_eq_true (by omega)
        have i3 : inR (hN l 3 : Nat) = true := by have := hN_lt l 3; unfold inR; exact decide_eq_true (by omega)
        have i4 : inR (hN l 4 : Nat) = true := by have := hN_lt l 4; unfold inR; exact decide_eq_true (by omega)
        have i5 : inR (hN l 5 : Nat) = true := by have := hN_lt l 5; unfold inR; exact decide_eq_true (by omega)
        rw [i2, i3, i4, i5]; rfl)
      generalize hN l 1 / 2048 &&& 15 = opn at *
      generalize hN l 1 &&& 15 = rcn at *
      generalize tb (hN l 1) = G at *
      generalize hN l 0 = x0 at *
      generalize hN l 2 = x2 at *
      generalize hN l 3 = x3 at *
      generalize hN l 4 = x4 at *
      generalize hN l 5 = x5 at *
      unfold mV cV
      go_wp2_with fail
      refine (bytes_any x0 opn rcn G (.slice none 0 0) (.slice none 0 0) (.slice none 0 0) (.slice none 0 0) x2 x3 x4 x5 k0.out k1.out.1 k1.out.2).mono ?_
      rintro e w8 ⟨h8, hb8⟩
      unfold ByRes at h8
      rw [if_pos kk.out] at h8
      obtain ⟨v8, rfl, hO8⟩ := h8
      rw [hfo.out] at hO8
      have hbA : Below w5.heap.size w5 w8 := Below.trans (B := w5.heap.size) (((Below.refl _ _).alloc (Nat.le_refl _) _).alloc (by simp) _) (hb8.mono (by simp; omega))
      obtain ⟨a8, c8, rfl, hR8⟩ := hO8.rd
      have hln : (l.take 12).length = 12 := by have := h12.out; simp; omega
      rw [hln] at hR8
      have hnI : (12 : Int) ≤ n := by have := h12.out; omega
      obtain ⟨a9, hcut, hR9⟩ := cut_h (P := Try.prog) (hR6.out.ext hbA) 22 Try.underlying22 (by kernel_rfl) .i64 12 12 rfl (by have := h12.out; omega)
      have hR8' := Lib.hid hR8
      have hR9' := Lib.hid hR9
      have hb9 := Lib.hid (hb6.out.trans (hbA.mono hb6.out.size))
      rw [hln]
      clear hbA hb8 hO8 hR8 hR9 hln kk k0 k1
      go_wp2_with fail
      refine (same_bytes hR8'.out hR9'.out).mono ?_
      rw [beq_self_eq_true]
      rintro e w9 ⟨rfl, rfl⟩
      go_wp2_with fail
      go_ret
      exact ⟨rfl, hb9.out⟩
    · rw [if_pos rfl]
      have hm : msgV 0 0 0 (fun _ => false) nils = .agg #[.int .u16 0, .bool false, .int .i64 0, .bool false, .bool false, .bool false, .bool false, .bool false, .bool false, .int .i64 0, .slice none 0 0, .slice none 0 0, .slice none 0 0, .slice none 0 0] := rfl
      have hc : cntV 0 0 0 0 = .agg #[.int .i64 0, .int .i64 0, .int .i64 0, .int .i64 0] := rfl
      rw [hm, hc]
      clear hm hc
      have hbE := Lib.hid (((hb6.out.alloc hb6.out.size (.cells #[.int .u16 0, .bool false, .int .i64 0, .bool false, .bool false, .bool false, .bool false, .bool false, .bool false, .int .i64 0, .slice none 0 0, .slice none 0 0, .slice none 0 0, .slice none 0 0] 28)).alloc (by have := hb6.out.size; simp; omega) (.cells #[.int .i64 0, .int .i64 0, .int .i64 0, .int .i64 0] 29)))
      by_cases h12 : n < 12
      · have h12I : (n : Int) < 12 := by omega
        go_wp2_with fail
        go_ret
        exact ⟨rfl, hbE.out⟩
      · have h12I : ¬ (n : Int) < 12 := by omega
        obtain ⟨x, hx, hbit⟩ := bad_bit hbd (by omega)
        obtain ⟨b, o, rfl, hcb⟩ := rd_byte hR6.out (by omega)
        have hlt : b < w5.heap.size := World.block_lt_of_cell? w5 _ (hcb 0 (by omega))
        have h3 := hcb 3 (by omega)
        rw [hx] at h3
        have h3' := Lib.cell?_alloc_some (.cells #[.int .i64 0, .int .i64 0, .int .i64 0, .int .i64 0] 29) (Lib.cell?_alloc_some (.cells #[.int .u16 0, .bool false, .int .i64 0, .bool false, .bool false, .bool false, .bool false, .bool false, .bool false, .int .i64 0, .slice none 0 0, .slice none 0 0, .slice none 0 0, .slice none 0 0] 28) h3)
        have h3I : (3 : Int) < n := by omega
        clear hcb h3
        go_wp2_with fail
        go_ret
        exact ⟨rfl, hbE.out⟩
  · rw [hok, if_pos rfl] at h2
    obtain ⟨v, rfl, hO⟩ := h2
    obtain ⟨hop0, hop1, hrc0, hrc1, hcc⟩ := ok_parts hok
    have hrb := Lib.hid (read_back id op.toNat rc.toNat F c0 c1 c2 c3 hid (by omega) (by omega) hcc)
    obtain ⟨av, cv, rfl, hRv⟩ := hO.rd
    have hlv := be16s_len [(id : Int), ((hbits op.toNat rc.toNat F : Nat) : Int), c0, c1, c2, c3]
    generalize be16s [(id : Int), ((hbits op.toNat rc.toNat F : Nat) : Int), c0, c1, c2, c3] = D at *
    have hD : D.length = 12 := hlv
    rw [hD] at hRv ⊢
    have hRv' := Lib.hid hRv
    clear hO hRv hlv hcc
    go_wp2_with fail
    refine (read_any hRv'.out (by decide)).mono ?_
    rintro e w3 ⟨rfl, hb5⟩
    rw [hrb.out.1, if_neg (by decide), hrb.out.2.1, hrb.out.2.2]
    rw [Int.toNat_of_nonneg hop0, Int.toNat_of_nonneg hrc0]
    have hb6 := Lib.hid (hb4.out.trans (hb5.mono hb4.out.size))
    have hBm3 := hBm2.out.below hb5 hBm2.out.lt
    have hBc3 := hBc2.out.below hb5 hBc2.out.lt
    have hR3 := Lib.hid (hR2.out.ext hb5)
    clear hb5 hR2 hb4 hrb hD hRv' hBm2 hBc2
    unfold mV cV
    have hBm3' := Lib.hid hBm3
    have hBc3' := Lib.hid hBc3
    obtain ⟨WB, hWB⟩ : ∃ WB, (w3.alloc (.cells #[.int .u16 (id : Int), .bool (F 6), .int .i64 op, .bool (F 5), .bool (F 4), .bool (F 3), .bool (F 2), .bool (F 1), .bool (F 0), .int .i64 rc, .slice none 0 0, .slice none 0 0, .slice none 0 0, .slice none 0 0] 28)).alloc (.cells #[.int .i64 c0, .int .i64 c1, .int .i64 c2, .int .i64 c3] 29) = WB := ⟨_, rfl⟩
    have hbB : Below w3.heap.size w3 WB := by rw [← hWB]; exact ((Below.refl _ _).alloc (Nat.le_refl _) _).alloc (by simp) _
    have hBM : Hid (Blk WB w3.heap.size 28 (0, 0) (cellsH id op rc F nils)) := by rw [← hWB]; exact Lib.hid ((Blk.new w3 28 (0, 0) (cellsH id op rc F nils).toArray).alloc _)
    have hBN : Hid (Blk WB (w3.heap.size + 1) 29 (0, 0) [.int .i64 c0, .int .i64 c1, .int .i64 c2, .int .i64 c3]) := by
      rw [← hWB]
      exact Lib.hid (by simpa using Blk.new (w3.alloc (.cells #[.int .u16 (id : Int), .bool (F 6), .int .i64 op, .bool (F 5), .bool (F 4), .bool (F 3), .bool (F 2), .bool (F 1), .bool (F 0), .int .i64 rc, .slice none 0 0, .slice none 0 0, .slice none 0 0, .slice none 0 0] 28)) 29 (0, 0) #[.int .i64 c0, .int .i64 c1, .int .i64 c2, .int .i64 c3])
    have hBA := Lib.hid (hBm3'.out.below hbB hBm3'.out.lt)
    have hBC := Lib.hid (hBc3'.out.below hbB hBc3'.out.lt)
    have hbW := Lib.hid (hb6.out.trans (hbB.mono hb6.out.size))
    have hRB := Lib.hid (hR3.out.ext hbB)
    have hlt : Hid (W.heap.size + 1 < w3.heap.size) := Lib.hid hBc3'.out.lt
    clear hBm3 hBc3 hbB hBm3' hBc3' hb6 hR3
    have heq := fun u : World => eq_arr (u := u) c0 c1 c2 c3
    go_wp2_with (first
      | (refine store_one rfl 25 (.tmp 33) (.const (.slice none 0 0)) rfl rfl rfl hBA.out (by exact (by decide : 10 < 14)) (by kernel_rfl) rfl ?_; intro wa hBa hga hsa; have hBa9 := Lib.hid hBa; clear hBa)
      | (refine store_one rfl 26 (.tmp 34) (.const (.slice none 0 0)) rfl rfl rfl hBa9.out (by exact (by decide : 11 < 14)) (by kernel_rfl) rfl ?_; intro wb hBb hgb hsb; have hBb9 := Lib.hid hBb; clear hBb)
      | (refine store_one rfl 26 (.tmp 35) (.const (.slice none 0 0)) rfl rfl rfl hBb9.out (by exact (by decide : 12 < 14)) (by kernel_rfl) rfl ?_; intro wc hBc hgc hsc; have hBc9 := Lib.hid hBc; clear hBc)
      | (refine store_one rfl 26 (.tmp 36) (.const (.slice none 0 0)) rfl rfl rfl hBc9.out (by exact (by decide : 13 < 14)) (by kernel_rfl) rfl ?_; intro wd hBd hgd hsd; have hX : Blk wd W.heap.size 28 (0, 0) (cellsH id op rc F nils) := hBd
        ; have hY : Blk wd (W.heap.size + 1) 29 (0, 0) [.int .i64 c0, .int .i64 c1, .int .i64 c2, .int .i64 c3] := (keep4 hga hgb hgc hgd hBC.out.lt (by omega)).trans hBC.out
        ; have hM : Blk wd w3.heap.size 28 (0, 0) (cellsH id op rc F nils) := (keep4 hga hgb hgc hgd hBM.out.lt (by have := hlt.out; omega)).trans hBM.out
        ; have hN' : Blk wd (w3.heap.size + 1) 29 (0, 0) [.int .i64 c0, .int .i64 c1, .int .i64 c2, .int .i64 c3] := (keep4 hga hgb hgc hgd hBN.out.lt (by have := hlt.out; omega)).trans hBN.out
        ; have hbD := Lib.hid (below4 hbW.out (Nat.le_refl _) hbW.out.size hga hgb hgc hgd)
        ; have hRD := Lib.hid (hRW.out.ext hbD.out)
        ; have fhX0 : wd.cell? ⟨W.heap.size, 0, none⟩ = some (.int .u16 (id : Int)) := (hX.cell 0).trans rfl; have fhX1 : wd.cell? ⟨W.heap.size, 1, none⟩ = some (.bool (F 6)) := (hX.cell 1).trans rfl; have fhX2 : wd.cell? ⟨W.heap.size, 2, none⟩ = some (.int .i64 op) := (hX.cell 2).trans rfl; have fhX3 : wd.cell? ⟨W.heap.size, 3, none⟩ = some (.bool (F 5)) := (hX.cell 3).trans rfl; have fhX4 : wd.cell? ⟨W.heap.size, 4, none⟩ = some (.bool (F 4)) := (hX.cell 4).trans rfl; have fhX5 : wd.cell? ⟨W.heap.size, 5, none⟩ = some (.bool (F 3)) := (hX.cell 5).trans rfl; have fhX6 : wd.cell? ⟨W.heap.size, 6, none⟩ = some (.bool (F 2)) := (hX.cell 6).trans rfl; have fhX7 : wd.cell? ⟨W.heap.size, 7, none⟩ = some (.bool (F 1)) := (hX.cell 7).trans rfl; have fhX8 : wd.cell? ⟨W.heap.size, 8, none⟩ = some (.bool (F 0)) := (hX.cell 8).trans rfl; have fhX9 : wd.cell? ⟨W.heap.size, 9, none⟩ = some (.int .i64 rc) := (hX.cell 9).trans rfl; have fhX10 : wd.cell? ⟨W.heap.size, 10, none⟩ = some (.slice none 0 0) := (hX.cell 10).trans rfl; have fhX11 : wd.cell? ⟨W.heap.size, 11, none⟩ = some (.slice none 0 0) := (hX.cell 11).trans rfl; have fhX12 : wd.cell? ⟨W.heap.size, 12, none⟩ = some (.slice none 0 0) := (hX.cell 12).trans rfl; have fhX13 : wd.cell? ⟨W.heap.size, 13, none⟩ = some (.slice none 0 0) := (hX.cell 13).trans rfl; have fhY0 : wd.cell? ⟨(W.heap.size + 1), 0, none⟩ = some (.int .i64 c0) := (hY.cell 0).trans rfl; have fhY1 : wd.cell? ⟨(W.heap.size + 1), 1, none⟩ = some (.int .i64 c1) := (hY.cell 1).trans rfl; have fhY2 : wd.cell? ⟨(W.heap.size + 1), 2, none⟩ = some (.int .i64 c2) := (hY.cell 2).trans rfl; have fhY3 : wd.cell? ⟨(W.heap.size + 1), 3, none⟩ = some (.int .i64 c3) := (hY.cell 3).trans rfl; have fhM0 : wd.cell? ⟨w3.heap.size, 0, none⟩ = some (.int .u16 (id : Int)) := (hM.cell 0).trans rfl; have fhM1 : wd.cell? ⟨w3.heap.size, 1, none⟩ = some (.bool (F 6)) := (hM.cell 1).trans rfl; have fhM2 : wd.cell? ⟨w3.heap.size, 2, none⟩ = some (.int .i64 op) := (hM.cell 2).trans rfl; have fhM3 : wd.cell? ⟨w3.heap.size, 3, none⟩ = some (.bool (F 5)) := (hM.cell 3).trans rfl; have fhM4 : wd.cell? ⟨w3.heap.size, 4, none⟩ = some (.bool (F 4)) := (hM.cell 4).trans rfl; have fhM5 : wd.cell? ⟨w3.heap.size, 5, none⟩ = some (.bool (F 3)) := (hM.cell 5).trans rfl; have fhM6 : wd.cell? ⟨w3.heap.size, 6, none⟩ = some (.bool (F 2)) := (hM.cell 6).trans rfl; have fhM7 : wd.cell? ⟨w3.heap.size, 7, none⟩ = some (.bool (F 1)) := (hM.cell 7).trans rfl; have fhM8 : wd.cell? ⟨w3.heap.size, 8, none⟩ = some (.bool (F 0)) := (hM.cell 8).trans rfl; have fhM9 : wd.cell? ⟨w3.heap.size, 9, none⟩ = some (.int .i64 rc) := (hM.cell 9).trans rfl; have fhM10 : wd.cell? ⟨w3.heap.size, 10, none⟩ = some (.slice none 0 0) := (hM.cell 10).trans rfl; have fhM11 : wd.cell? ⟨w3.heap.size, 11, none⟩ = some (.slice none 0 0) := (hM.cell 11).trans rfl; have fhM12 : wd.cell? ⟨w3.heap.size, 12, none⟩ = some (.slice none 0 0) := (hM.cell 12).trans rfl; have fhM13 : wd.cell? ⟨w3.heap.size, 13, none⟩ = some (.slice none 0 0) := (hM.cell 13).trans rfl; have fhN'0 : wd.cell? ⟨(w3.heap.size + 1), 0, none⟩ = some (.int .i64 c0) := (hN'.cell 0).trans rfl; have fhN'1 : wd.cell? ⟨(w3.heap.size + 1), 1, none⟩ = some (.int .i64 c1) := (hN'.cell 1).trans rfl; have fhN'2 : wd.cell? ⟨(w3.heap.size + 1), 2, none⟩ = some (.int .i64 c2) := (hN'.cell 2).trans rfl; have fhN'3 : wd.cell? ⟨(w3.heap.size + 1), 3, none⟩ = some (.int .i64 c3) := (hN'.cell 3).trans rfl
        ; clear hBd hX hY hM hN' hga hgb hgc hgd hsa hsb hsc hsd hBa9 hBb9 hBc9 hBA hBC hBM hBN)
      | (go_at_call 11; refine (same_msg id op rc F).mono ?_; rintro e wT ⟨rfl, hbE⟩; have hbT := Lib.hid (hbD.out.trans (hbE.mono hbD.out.size)); have hRT := Lib.hid (hRW.out.ext hbT.out); clear hbE))
    clear hbD hRD hbW hRB hlt
    refine (read_any hRT.out hn).mono ?_
    rintro e w5 ⟨rfl, hb5⟩
    have hb6 := Lib.hid (hbT.out.trans (hb5.mono hbT.out.size))
    have hR6 := Lib.hid (hRT.out.ext hb5)
    clear hb5 hRT hbT
    cases hbd : hdBad l
    · rw [if_neg (by decide)]
      have hfo := Lib.hid (forth_bytes hbd)
      have h12 : Hid (12 ≤ l.length) := Lib.hid (bad_len hbd)
      have hm : msgV (hN l 0) ((hN l 1 / 2048 &&& 15 : Nat) : Int) ((hN l 1 &&& 15 : Nat) : Int) (tb (hN l 1)) nils = mV (hN l 0 : Nat) ((hN l 1 / 2048 &&& 15 : Nat) : Int) ((hN l 1 &&& 15 : Nat) : Int) (tb (hN l 1)) (.slice none 0 0) (.slice none 0 0) (.slice none 0 0) (.slice none 0 0) := rfl
      have hc : cntV (hN l 2) (hN l 3) (hN l 4) (hN l 5) = cV (hN l 2 : Nat) (hN l 3 : Nat) (hN l 4 : Nat) (hN l 5 : Nat) := rfl
      rw [hm, hc]
      clear hm hc
      have k0 : Hid (hN l 0 < 65536) := Lib.hid (hN_lt l 0)
      have k1 : Hid (hN l 1 / 2048 &&& 15 ≤ 15 ∧ hN l 1 &&& 15 ≤ 15) := Lib.hid (by have := and_lt16 (hN l 1 / 2048); have := and_lt16 (hN l 1); omega)
      have kk : Hid ((inR (hN l 2 : Nat) && inR (hN l 3 : Nat) && inR (hN l 4 : Nat) && inR (hN l 5 : Nat)) = true) := Lib.hid (by
        have i2 : inR (hN l 2 : Nat) = true := by have := hN_lt l 2; unfold inR; exact decide_eq_true (by omega)
        have i3 : inR (hN l 3 : Nat) = true := by have := hN_lt l 3; unfold inR; exact decide_eq_true (by omega)
        have i4 : inR (hN l 4 : Nat) = true := by have := hN_lt l 4; unfold inR; exact decide_eq_true (by omega)
        have i5 : inR (hN l 5 : Nat) = true := by have := hN_lt l 5; unfold inR; exact decide_eq_true (by omega)
        rw [i2, i3, i4, i5]; rfl)
      generalize hN l 1 / 2048 &&& 15 = opn at *
      generalize hN l 1 &&& 15 = rcn at *
      generalize tb (hN l 1) = G at *
      generalize hN l 0 = x0 at *
      generalize hN l 2 = x2 at *
      generalize hN l 3 = x3 at *
      generalize hN l 4 = x4 at *
      generalize hN l 5 = x5 at *
      unfold mV cV
      go_wp2_with fail
      refine (bytes_any x0 opn rcn G (.slice none 0 0) (.slice none 0 0) (.slice none 0 0) (.slice none 0 0) x2 x3 x4 x5 k0.out k1.out.1 k1.out.2).mono ?_
      rintro e w8 ⟨h8, hb8⟩
      unfold ByRes at h8
      rw [if_pos kk.out] at h8
      obtain ⟨v8, rfl, hO8⟩ := h8
      rw [hfo.out] at hO8
      have hbA : Below w5.heap.size w5 w8 := Below.trans (B := w5.heap.size) (((Below.refl _ _).alloc (Nat.le_refl _) _).alloc (by simp) _) (hb8.mono (by simp; omega))
      obtain ⟨a8, c8, rfl, hR8⟩ := hO8.rd
      have hln : (l.take 12).length = 12 := by have := h12.out; simp; omega
      rw [hln] at hR8
      have hnI : (12 : Int) ≤ n := by have := h12.out; omega
      obtain ⟨a9, hcut, hR9⟩ := cut_h (P := Try.prog) (hR6.out.ext hbA) 22 Try.underlying22 (by kernel_rfl) .i64 12 12 rfl (by have := h12.out; omega)
      have hR8' := Lib.hid hR8
      have hR9' := Lib.hid hR9
      have hb9 := Lib.hid (hb6.out.trans (hbA.mono hb6.out.size))
      rw [hln]
      clear hbA hb8 hO8 hR8 hR9 hln kk k0 k1
      go_wp2_with fail
      refine (same_bytes hR8'.out hR9'.out).mono ?_
      rw [beq_self_eq_true]
      rintro e w9 ⟨rfl, rfl⟩
      go_wp2_with fail
      go_ret
      exact ⟨rfl, hb9.out⟩
    · rw [if_pos rfl]
      have hm : msgV 0 0 0 (fun _ => false) nils = .agg #[.int .u16 0, .bool false, .int .i64 0, .bool false, .bool false, .bool false, .bool false, .bool false, .bool false, .int .i64 0, .slice none 0 0, .slice none 0 0, .slice none 0 0, .slice none 0 0] := rfl
      have hc : cntV 0 0 0 0 = .agg #[.int .i64 0, .int .i64 0, .int .i64 0, .int .i64 0] := rfl
      rw [hm, hc]
      clear hm hc
      have hbE := Lib.hid (((hb6.out.alloc hb6.out.size (.cells #[.int .u16 0, .bool false, .int .i64 0, .bool false, .bool false, .bool false, .bool false, .bool false, .bool false, .int .i64 0, .slice none 0 0, .slice none 0 0, .slice none 0 0, .slice none 0 0] 28)).alloc (by have := hb6.out.size; simp; omega) (.cells #[.int .i64 0, .int .i64 0, .int .i64 0, .int .i64 0] 29)))
      by_cases h12 : n < 12
      · have h12I : (n : Int) < 12 := by omega
        go_wp2_with fail
        go_ret
        exact ⟨rfl, hbE.out⟩
      · have h12I : ¬ (n : Int) < 12 := by omega
        obtain ⟨x, hx, hbit⟩ := bad_bit hbd (by omega)
        obtain ⟨b, o, rfl, hcb⟩ := rd_byte hR6.out (by omega)
        have hlt : b < w5.heap.size := World.block_lt_of_cell? w5 _ (hcb 0 (by omega))
        have h3 := hcb 3 (by omega)
        rw [hx] at h3
        have h3' := Lib.cell?_alloc_some (.cells #[.int .i64 0, .int .i64 0, .int .i64 0, .int .i64 0] 29) (Lib.cell?_alloc_some (.cells #[.int .u16 0, .bool false, .int .i64 0, .bool false, .bool false, .bool false, .bool false, .bool false, .bool false, .int .i64 0, .slice none 0 0, .slice none 0 0, .slice none 0 0, .slice none 0 0] 28) h3)
        have h3I : (3 : Int) < n := by omega
        clear hcb h3
        go_wp2_with fail
        go_ret
        exact ⟨rfl, hbE.out⟩
section
open Go.Joins Go.ChangeShapes Go.WideShapes Go.Deep
theorem headerBack_law {H : Type} {enc : TypeId × Value → H} {W : World} {ts : List TypeId} {ds : List (DataW H)} (v : Value) (d : DataW H) (p : List MemPlace) (h : DataW.Trod enc Try.prog W 0 (fun _ => true) true 28 v d p) {r : Reach} {b0 : Nat} (hv : Value.okWide Try.prog W r b0 28 v) (_ : (DataW.weightsEach Try.prog ts ds).all (· ≤ reachBytes) = true)
    (v' : Value) (d' : DataW H) (p' : List MemPlace) (h' : DataW.Trod enc Try.prog W 0 (fun _ => true) true 29 v' d' p') {r' : Reach} {b0' : Nat} (hv' : Value.okWide Try.prog W r' b0' 29 v') (_ : (DataW.weightsEach Try.prog ts ds).all (· ≤ reachBytes) = true)
    (a : Option Addr) (n c : Nat) (l : List UInt8) (hb : RB W a n c l) (_ : World) :
    Calls Try.prog 4 #[v, v', .slice a n c] W fun e w' => e = .returned (.bool true) ∧ Below W.heap.size W w' := by
  obtain ⟨id, op, rc, F, s0, s1, s2, s3, hid, rfl⟩ := open_head hv h
  obtain ⟨c0, c1, c2, c3, rfl⟩ := open_counts hv' h'
  have := hb.rd.cap
  have := hb.most
  exact headerBack_walk id hid op rc F s0 s1 s2 s3 c0 c1 c2 c3 hb.rd (by unfold reachBytes at this; omega)
end
end Go.Proofs.Ytbpkhnnfdjihdaa
