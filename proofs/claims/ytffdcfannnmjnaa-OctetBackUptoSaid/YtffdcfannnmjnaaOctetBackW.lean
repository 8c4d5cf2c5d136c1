/- OctetBack returns true for any numbers, bytes and place. The walk. -/
import Derived.Test.YtffdcfannnmjnaaOctC
import Derived.Test.YtffdcfannnmjnaaOpenU
namespace Go.Proofs.Ytffdcfannnmjnaa
open Go.RowKit
theorem own_grown {α : Type} {E : Enc α} {u v : World} {base r : Nat} {x : Value} {l : List α} (h : Own E u base x l) (g : u.grownBy v (some r)) (hr : r < base) : Own E v base x l :=
  h.keep fun k hk => g.block k (h.lt k hk).2 (fun e => by have := (h.lt k hk).1; cases e; omega)
theorem below_grown {B r : Nat} {W u v : World} (h : Below B W u) (g : u.grownBy v (some r)) (hr : B ≤ r) (hB : B ≤ W.heap.size) : Below B W v :=
  ⟨g.os.trans h.os, g.tape.trans h.tape, g.output.trans h.output, Nat.le_trans h.size g.size, fun i hi => (g.block i (by have := h.size; omega) (fun e => by cases e; omega)).trans (h.block i hi)⟩
set_option maxHeartbeats 16000000 in
set_option maxRecDepth 100000 in
theorem octetBack_walk {W : World} (nn0 : Int) (m : Nat) (hm : m < 4294967296) {b : Option Addr} {nb cb : Nat} {lb : List UInt8} (h : Rd byteE W b nb cb lb) (hz : nb ≤ 1048576) (at0 : Int) :
    Calls Try.prog 15 #[.int .i64 nn0, .int .u32 m, .slice b nb cb, .int .i64 at0] W fun e w' => e = .returned (.bool true) ∧ Below W.heap.size W w' := by
  have hlb := h.len
  subst hlb
  have hb0 := Lib.hid h
  clear h
  obtain ⟨n, hn⟩ : ∃ k : Nat, nn0 % 65536 = k := ⟨(nn0 % 65536).toNat, by omega⟩
  have hn6 : n ≤ 65535 := by omega
  have hnI : (n : Int) ≤ 65535 := by omega
  obtain ⟨q, hq⟩ : ∃ k : Nat, at0 % ((lb.length : Int) + 1) = k := ⟨(at0 % ((lb.length : Int) + 1)).toNat, by have := Int.emod_nonneg at0 (b := (lb.length : Int) + 1) (by omega); omega⟩
  have hql : q ≤ lb.length := by have := Int.emod_lt_of_pos at0 (b := (lb.length : Int) + 1) (by omega); omega
  have hqI : (q : Int) ≤ lb.length := by omega
  have hmI : (m : Int) < 4294967296 := by omega
  go_enter Try.func15, Try.ntmps15
  go_wp2_with fail
  refine (pick_any nn0 65536 _ (by omega) (by omega)).mono ?_
  rw [hn]
  rintro e w1 ⟨rfl, rfl⟩
  go_wp2_with fail
  refine (pick_any at0 ((lb.length : Int) + 1) _ (by omega) (by omega)).mono ?_
  rw [hq]
  rintro e w1 ⟨rfl, rfl⟩
  go_wp2_with fail
  refine (put16_ok n _ hn6).mono ?_
  rintro e w1 ⟨rfl, hB1, k1⟩
  have hX1 := Lib.hid hB1
  clear hB1
  go_wp2_with fail
  refine (put32_any m w1 hm).mono ?_
  rintro e w2 ⟨rfl, hB2, k2⟩
  have hY2 := Lib.hid hB2
  clear hB2
  have hX2 := Lib.hid (hX1.out.below k2 hX1.out.lt)
  have hk2 : Below W.heap.size W w2 := k1.trans (k2.mono k1.size)
  go_wp2_with fail
  have hG := Blk.new w2 27 (0, 0) #[.slice b lb.length cb, .slice (some ⟨W.heap.size, 0, none⟩) 2 2, .slice (some ⟨w1.heap.size, 0, none⟩) 4 4]
  have ha : Below w2.heap.size w2 (w2.alloc (.cells #[.slice b lb.length cb, .slice (some ⟨W.heap.size, 0, none⟩) 2 2, .slice (some ⟨w1.heap.size, 0, none⟩) 4 4] 27)) := (Below.refl _ _).alloc (Nat.le_refl _) _
  have hk3 : Below W.heap.size W (w2.alloc (.cells #[.slice b lb.length cb, .slice (some ⟨W.heap.size, 0, none⟩) 2 2, .slice (some ⟨w1.heap.size, 0, none⟩) 4 4] 27)) := hk2.trans (ha.mono hk2.size)
  have hX3 := Lib.hid (hX2.out.below ha hX2.out.lt)
  have hY3 := Lib.hid (hY2.out.below ha hY2.out.lt)
  have hsz3 : (w2.alloc (.cells #[.slice b lb.length cb, .slice (some ⟨W.heap.size, 0, none⟩) 2 2, .slice (some ⟨w1.heap.size, 0, none⟩) 4 4] 27)).heap.size = w2.heap.size + 1 := by simp
  have hs2 := hk2.size
  generalize w2.alloc (.cells #[.slice b lb.length cb, .slice (some ⟨W.heap.size, 0, none⟩) 2 2, .slice (some ⟨w1.heap.size, 0, none⟩) 4 4] 27) = w3 at *
  have hBL := backL lb n m
  have hJ := octJoin (w := w3) (gl := w2.heap.size) [.slice b lb.length cb, .slice (some ⟨W.heap.size, 0, none⟩) 2 2, .slice (some ⟨w1.heap.size, 0, none⟩) 4 4] [lb, be16 n, be32 m] hG rfl
    (fun j X hX => match j, hX with
      | 0, hX => by cases hX; exact ⟨_, _, _, rfl, hb0.out.ext hk3⟩
      | 1, hX => by cases hX; exact ⟨_, _, _, rfl, rd_blk (E := byteE) (X := be16 n) (by rw [rowOf_byte]; exact hX3.out) 2 rfl (by decide)⟩
      | 2, hX => by cases hX; exact ⟨_, _, _, rfl, rd_blk (E := byteE) (X := be32 m) (by rw [rowOf_byte]; exact hY3.out) 4 rfl (by decide)⟩
      | j + 3, hX => by simp at hX)
    (by rw [hBL.len]; omega) (by simp)
  have hJ' := Lib.hid hJ
  clear hJ hG
  generalize [lb, be16 n, be32 m].flatten = L at *
  have hL := hBL.len
  have hBL' := Lib.hid hBL
  clear hBL
  refine hJ'.out.mono ?_
  rintro e w4 ⟨⟨v, rfl, hO⟩, k4⟩
  obtain ⟨a4, c4, rfl⟩ := hO.shape
  have hk4 : Below W.heap.size W w4 := hk3.trans (k4.mono hk3.size)
  obtain ⟨aa, cc, e4, hR4⟩ := hO.rd
  cases e4
  rw [hL] at hR4
  have hR4' := Lib.hid hR4
  clear hR4 hO hJ'
  go_wp2_with fail
  refine (u16_any hR4'.out lb.length (by omega) (by omega)).mono ?_
  rw [hBL'.out.p2 hn6]
  dsimp only
  rintro e w5 ⟨rfl, rfl⟩
  go_wp2_with fail
  refine (u32_any hR4'.out ((lb.length : Int) + 2) (by omega) (by omega)).mono ?_
  rw [hBL'.out.p4 hm]
  dsimp only
  rintro e w5 ⟨rfl, rfl⟩
  have hLI : (L.length : Int) = (lb.length : Int) + 6 := by omega
  go_wp2_with fail
  refine (hex_any (hb0.out.ext hk4) hz).mono ?_
  rintro e w5 ⟨rfl, k5⟩
  have hk5 : Below W.heap.size W w5 := hk4.trans (k5.mono hk4.size)
  have hR5 := Lib.hid (hR4'.out.ext k5)
  have hxl := hexL_len lb
  have hxI : ((hexL lb).length : Int) = 2 * (lb.length : Int) := by omega
  go_wp2_with fail
  by_cases hle : 65535 < lb.length
  · have hleI : (65535 : Int) < (lb.length : Int) := by omega
    refine (unhex_long (s := hexL lb) (by omega) (by omega) _).mono ?_
    rintro e w6 ⟨rfl, rfl⟩
    go_wp2_with fail
    go_ret
    exact ⟨rfl, hk5⟩
  refine (unhex_ok (l := lb) (by omega) _).mono ?_
  rintro e w6 ⟨rfl, hC6, k6⟩
  have hk6 : Below W.heap.size W w6 := hk5.trans (k6.mono hk5.size)
  have hR6 := Lib.hid (hR5.out.ext k6)
  have hC6' := Lib.hid hC6
  clear hC6
  go_wp2_with fail
  refine (same_bytes (hb0.out.ext hk6) (rd_blk (E := byteE) (X := lb) (by rw [rowOf_byte]; exact hC6'.out) lb.length rfl (by simp [maxLen]; omega))).mono ?_
  rw [beq_self_eq_true]
  rintro e w7 ⟨rfl, rfl⟩
  go_wp2_with fail
  refine (new_any hR6.out (by omega)).mono ?_
  rintro e w7 ⟨g, rfl, hg, hD7, k7⟩
  have hk7 : Below W.heap.size W w7 := hk6.trans (k7.mono hk6.size)
  have hD7' := Lib.hid hD7
  clear hD7
  go_wp2_with fail
  refine (rdr_Take hD7'.out (by omega) (lb.length : Int)).mono ?_
  rw [hBL'.out.take0, tkAt_ok L 0 lb.length (by omega), tk_ok L 0 lb.length (by omega), Nat.zero_add, Bool.not_true]
  rintro e w8 ⟨⟨v8, rfl, hO8⟩, hD8, g8⟩
  have hgW : W.heap.size ≤ g := by have := hk6.size; omega
  have hg7 : g < w7.heap.size := hD7'.out.lt
  have hD8' := Lib.hid hD8
  clear hD8
  have hk8 : Below W.heap.size W w8 := below_grown hk7 g8 hgW (Nat.le_refl _)
  have hO8' := Lib.hid hO8
  clear hO8
  obtain ⟨a8, c8, rfl⟩ := hO8'.out.shape
  go_wp2_with fail
  refine (rdr_Jump hD8'.out (by omega) (q : Int)).mono ?_
  rw [(jmp_ok L q (by omega)).2, (jmp_ok L q (by omega)).1, Bool.not_true]
  rintro e w9 ⟨rfl, hD9, g9⟩
  have hD9' := Lib.hid hD9
  clear hD9
  have hk9 : Below W.heap.size W w9 := below_grown hk8 g9 hgW (Nat.le_refl _)
  have hO9' := Lib.hid (own_grown hO8'.out g9 hg7)
  go_wp2_with fail
  have hcast : (lb.length : Int) - q = ((lb.length - q : Nat) : Int) := by omega
  refine (rdr_Take hD9'.out (by omega) ((lb.length : Int) - q)).mono ?_
  intro e w10 hp
  rw [hcast, hBL'.out.takeAt hql, tkAt_ok L q (lb.length - q) (by omega), tk_ok L q (lb.length - q) (by omega), Nat.add_sub_cancel' hql, Bool.not_true] at hp
  obtain ⟨⟨v10, rfl, hO10⟩, hD10, g10⟩ := hp
  have hD10' := Lib.hid hD10
  clear hD10
  have hk10 : Below W.heap.size W w10 := below_grown hk9 g10 hgW (Nat.le_refl _)
  have hg9 : g < w9.heap.size := hD9'.out.lt
  have hA10 := Lib.hid (own_grown hO9'.out g10 hg7)
  have hO10' := Lib.hid hO10
  clear hO10
  obtain ⟨a10, c10, e10, hr10⟩ := hO10'.out.rd
  subst e10
  obtain ⟨a11, c11, e11, hr11⟩ := hA10.out.rd
  cases e11
  have hdl : (lb.drop q).length = lb.length - q := by simp
  rw [hdl] at hr10
  have hr10' := Lib.hid hr10
  have hr11' := Lib.hid hr11
  clear hr10 hr11 hcast
  have hb10 := hb0.out.ext hk10
  obtain ⟨ac, hcut, hrc⟩ := cut_l (P := Try.prog) hb10 27 Try.underlying27 (by kernel_rfl) .i64 (q : Int) q rfl hql
  have hrc' := Lib.hid hrc
  clear hrc hb10
  rw [hdl]
  go_wp2_with fail
  refine (same_bytes hr11'.out (hb0.out.ext hk10)).mono ?_
  rw [beq_self_eq_true]
  rintro e w11 ⟨rfl, rfl⟩
  go_wp2_with fail
  refine (same_bytes hr10'.out hrc'.out).mono ?_
  rw [beq_self_eq_true]
  rintro e w11 ⟨rfl, rfl⟩
  go_wp2_with fail
  refine (rdr_u16 hD10'.out (by omega)).mono ?_
  have hq2 : tk L lb.length false 2 = true := tk_ok L lb.length 2 (by omega)
  have hp2 : tkAt L lb.length false 2 = lb.length + 2 := tkAt_ok L lb.length 2 (by omega)
  rw [hBL'.out.n16 hn6, hp2, hq2, Bool.not_true]
  rintro e w11 ⟨rfl, hD11, g11⟩
  have hD11' := Lib.hid hD11
  clear hD11
  have hk11 : Below W.heap.size W w11 := below_grown hk10 g11 hgW (Nat.le_refl _)
  go_wp2_with fail
  refine (rdr_u32 hD11'.out (by omega)).mono ?_
  have hq4 : tk L (lb.length + 2) false 4 = true := tk_ok L (lb.length + 2) 4 (by omega)
  have hp4 : tkAt L (lb.length + 2) false 4 = lb.length + 6 := tkAt_ok L (lb.length + 2) 4 (by omega)
  rw [hBL'.out.n32 hm, hp4, hq4, Bool.not_true]
  rintro e w12 ⟨rfl, hD12, g12⟩
  have hD12' := Lib.hid hD12
  clear hD12
  have hk12 : Below W.heap.size W w12 := below_grown hk11 g12 hgW (Nat.le_refl _)
  go_wp2_with fail
  refine (rdr_left hD12'.out (by omega)).mono ?_
  rw [if_neg (by decide), show (L.length : Int) - ((lb.length + 6 : Nat) : Int) = 0 by omega]
  rintro e w13 ⟨rfl, k13⟩
  have hk13 : Below W.heap.size W w13 := hk12.trans (k13.mono hk12.size)
  have hD13 := Lib.hid (hD12'.out.keep (fun b _ hb => k13.block b (Nat.lt_of_le_of_lt hb hD12'.out.lt)) hg)
  go_wp2_with fail
  refine (rdr_bad hD13.out).mono ?_
  rintro e w14 ⟨rfl, rfl⟩
  go_wp2_with fail
  refine (rdr_at hD13.out).mono ?_
  rintro e w14 ⟨rfl, rfl⟩
  go_wp2_with fail
  go_ret
  exact ⟨rfl, hk13⟩
theorem wf_u32b {q : Int} (h : (Lit.int .u32 q).wf = true) : 0 ≤ q ∧ q < 4294967296 := by
  simp [Lit.wf, IntKind.min, IntKind.max, IntKind.signed, IntKind.bits] at h
  omega
theorem octetBack_law {W : World} (x : Int) (_ : (Lit.int .i64 x).wf = true) (m : Int) (hm : (Lit.int .u32 m).wf = true) (b : Option Addr) (nb cb : Nat) (lb : List UInt8) (h : RB W b nb cb lb) (hz : nb ≤ 1048576) (p : Int) (_ : (Lit.int .i64 p).wf = true) (_ : World) :
    Calls Try.prog 15 #[.int .i64 x, .int .u32 m, .slice b nb cb, .int .i64 p] W fun e w' => e = .returned (.bool true) ∧ Below W.heap.size W w' := by
  obtain ⟨k, rfl, hk⟩ : ∃ k : Nat, m = k ∧ k < 4294967296 := by
    have h1 := wf_u32b hm
    exact ⟨m.toNat, by omega, by omega⟩
  exact octetBack_walk x k hk h.rd hz p
end Go.Proofs.Ytffdcfannnmjnaa
