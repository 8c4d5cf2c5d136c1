/- Layer 1: what was written is read again. Plain laws and the short ways. -/
import Derived.Test.YtffdcfannnmjnaaOctB
import Derived.Test.YtffdcfannnmjnaaNameE
import Derived.Test.YtffdcfannnmjnaaRdrE
namespace Go.Proofs.Ytffdcfannnmjnaa
open Go.RowKit
theorem unhex_long {s : List UInt8} (hn : 131070 < s.length) (hm : s.length ≤ 4194304) (w : World) :
    Calls Try.prog 61 #[.string (mk s)] w fun e w' => e = .returned (.tuple #[.slice none 0 0, .int .i64 3]) ∧ w = w' := by
  go_enter Try.func61, Try.ntmps61
  go_wp2_with fail
  ((try simp only [Exit.inBlock, Exit.then]); refine bodyPost_ret (results_tmp2 rfl _ _ _) rfl ?_)
  exact ⟨rfl, rfl⟩
theorem numL_be16 (n : Nat) (h : n ≤ 65535) : numL (be16 n) = n := by
  simp only [numL, be16, List.foldl_cons, List.foldl_nil, UInt8.toNat_ofNat']
  omega
theorem numL_be32 (n : Nat) (h : n < 4294967296) : numL (be32 n) = n := by
  simp only [numL, be32, List.foldl_cons, List.foldl_nil, UInt8.toNat_ofNat']
  omega
/-- bytes, then a number of two, then one of four -/
structure BackL (L b : List UInt8) (n m : Nat) : Prop where
  len : L.length = b.length + 6
  t0 : L.take b.length = b
  t1 : (L.drop b.length).take 2 = be16 n
  t2 : (L.drop (b.length + 2)).take 4 = be32 m
theorem backL (b : List UInt8) (n m : Nat) : BackL [b, be16 n, be32 m].flatten b n m := by
  have e : [b, be16 n, be32 m].flatten = b ++ (be16 n ++ be32 m) := by simp
  rw [e]
  refine ⟨by simp [be16, be32], by simp, by simp [be16], ?_⟩
  rw [← List.drop_drop, List.drop_left' rfl]
  simp [be16, be32]
theorem BackL.p2 {L b : List UInt8} {n m : Nat} (h : BackL L b n m) (hn : n ≤ 65535) : numP L b.length 2 = (n, true) := by
  have := h.len
  unfold numP
  rw [if_pos (by omega), Int.toNat_natCast, h.t1, numL_be16 n hn]
theorem BackL.p4 {L b : List UInt8} {n m : Nat} (h : BackL L b n m) (hm : m < 4294967296) : numP L ((b.length : Int) + 2) 4 = (m, true) := by
  have := h.len
  unfold numP
  rw [if_pos (by omega), show ((b.length : Int) + 2).toNat = b.length + 2 by omega, h.t2, numL_be32 m hm]
theorem tk_ok (L : List UInt8) (p : Nat) (n : Nat) (h : p + n ≤ L.length) : tk L p false n = true := by
  simp only [tk, Bool.not_false, Bool.true_and, decide_eq_true_eq]; omega
theorem tkAt_ok (L : List UInt8) (p : Nat) (n : Nat) (h : p + n ≤ L.length) : tkAt L p false n = p + n := by
  rw [tkAt, tk_ok L p n h]; simp
theorem tkL_ok (L : List UInt8) (p : Nat) (n : Nat) (h : p + n ≤ L.length) : tkL L p false n = (L.drop p).take n := by
  rw [tkL, tk_ok L p n h]; simp
theorem BackL.take0 {L b : List UInt8} {n m : Nat} (h : BackL L b n m) : tkL L 0 false b.length = b := by
  rw [tkL_ok _ _ _ (by have := h.len; omega), List.drop_zero, h.t0]
theorem BackL.takeAt {L b : List UInt8} {n m : Nat} (h : BackL L b n m) {q : Nat} (hq : q ≤ b.length) : tkL L q false ((b.length - q : Nat) : Int) = b.drop q := by
  rw [tkL_ok _ _ _ (by have := h.len; omega), ← List.drop_take, h.t0]
theorem BackL.n16 {L b : List UInt8} {n m : Nat} (h : BackL L b n m) (hn : n ≤ 65535) : tkN L b.length false 2 = n := by
  have := tkL_ok L b.length 2 (by have := h.len; omega)
  rw [h.t1] at this
  unfold tkN
  rw [show ((2 : Nat) : Int) = 2 from rfl] at this
  first | rw [this, numL_be16 n hn] | (show numL (tkL L b.length false 2) = n; rw [this, numL_be16 n hn])
theorem BackL.n32 {L b : List UInt8} {n m : Nat} (h : BackL L b n m) (hm : m < 4294967296) : tkN L (b.length + 2) false 4 = m := by
  have := tkL_ok L (b.length + 2) 4 (by have := h.len; omega)
  rw [h.t2] at this
  unfold tkN
  rw [show ((4 : Nat) : Int) = 4 from rfl] at this
  first | rw [this, numL_be32 m hm] | (show numL (tkL L (b.length + 2) false 4) = m; rw [this, numL_be32 m hm])
theorem jmp_ok (L : List UInt8) (q : Nat) (h : q ≤ L.length) : jmp L false q = true ∧ jmpAt L false q = q := by
  have e : jmp L false q = true := by simp only [jmp, Bool.not_false, Bool.true_and, decide_eq_true_eq]; omega
  exact ⟨e, by rw [jmpAt, e]; simp⟩
end Go.Proofs.Ytffdcfannnmjnaa
