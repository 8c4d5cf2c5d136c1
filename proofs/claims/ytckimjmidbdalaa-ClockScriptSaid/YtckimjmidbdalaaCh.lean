/- Layer 22: numbers that are mixed, and chances. -/
import Derived.Test.YtckimjmidbdalaaCut
import Derived.Test.YtckimjmidbdalaaProg
import Derived.Laws.Bits64
import Derived.Laws.BitsAllLaws
import Derived.RegionTactic
import Derived.WalkSmall
import Derived.Deep.RegionHeld3
namespace Go.Proofs.Ytckimjmidbdalaa
open Go.RowKit

def mixA (n : Int) : Int := bits BinOp.xor IntKind.u32 (n * 2654435761 % 4294967296) (n * 2654435761 % 4294967296 / 32768)
def mixB (n : Int) : Int := bits BinOp.xor IntKind.u32 (n * 2246822519 % 4294967296) (n * 2246822519 % 4294967296 / 8192)
def x1 (s : Int) : Int := bits BinOp.xor IntKind.u64 s (IntKind.u64.wrap (s * 8192))
def x2 (s : Int) : Int := bits BinOp.xor IntKind.u64 s (s / 128)
def x3 (s : Int) : Int := bits BinOp.xor IntKind.u64 s (IntKind.u64.wrap (s * 131072))
def xs (s : Int) : Int := x3 (x2 (x1 s))
def nextS (s n : Int) : Int := if n = 0 then s else xs s
def drawS (s n : Int) : Int := if n = 0 then 0 else (xs s).tmod n
theorem u64_in (a b : Int) : 0 ≤ bits BinOp.xor IntKind.u64 a b ∧ bits BinOp.xor IntKind.u64 a b < 18446744073709551616 := by
  have h := IntKind.wrap_u64 (((BitVec.ofInt 64 a) ^^^ (BitVec.ofInt 64 b)).toNat : Int)
  have e : bits BinOp.xor IntKind.u64 a b = IntKind.u64.wrap (((BitVec.ofInt 64 a) ^^^ (BitVec.ofInt 64 b)).toNat : Int) := rfl
  rw [e, h]; omega
theorem xs_in (s : Int) : 0 ≤ xs s ∧ xs s < 18446744073709551616 := u64_in _ _
theorem xs_zero : xs 0 = 0 := by decide +kernel

theorem xor_shift_inj (k : Nat) (hk : 0 < k) (a b : Nat) (ha : a < 2 ^ 32) (hb : b < 2 ^ 32) (h : a ^^^ (a / 2 ^ k) = b ^^^ (b / 2 ^ k)) : a = b := by
  have key : ∀ d i, 32 ≤ i + d → a.testBit i = b.testBit i := by
    intro d
    induction d with
    | zero =>
      intro i hi
      have hp : 2 ^ 32 ≤ 2 ^ i := Nat.pow_le_pow_right (by decide) (by omega)
      rw [Nat.testBit_lt_two_pow (Nat.lt_of_lt_of_le ha hp), Nat.testBit_lt_two_pow (Nat.lt_of_lt_of_le hb hp)]
    | succ d ih =>
      intro i hi
      have e := congrArg (fun n => Nat.testBit n i) h
      simp only [Nat.testBit_xor, Nat.testBit_div_two_pow] at e
      rw [ih (i + k) (by omega)] at e
      revert e
      cases a.testBit i <;> cases b.testBit i <;> cases b.testBit (i + k) <;> simp
  exact Nat.eq_of_testBit_eq fun i => key 32 i (by omega)
theorem xor_u32_nat (a b : Nat) (ha : a < 4294967296) (hb : b < 4294967296) : bits .xor .u32 (a : Int) (b : Int) = ((a ^^^ b : Nat) : Int) := by
  have hx : a ^^^ b < 2 ^ 32 := Nat.xor_lt_two_pow (by omega) (by omega)
  have h1 : (BitVec.ofInt 32 (a : Int)).toNat = a := by
    rw [BitVec.ofInt_natCast, BitVec.toNat_ofNat]; exact Nat.mod_eq_of_lt (by omega)
  have h2 : (BitVec.ofInt 32 (b : Int)).toNat = b := by
    rw [BitVec.ofInt_natCast, BitVec.toNat_ofNat]; exact Nat.mod_eq_of_lt (by omega)
  show IntKind.u32.wrap ((BitVec.ofInt 32 (a : Int) ^^^ BitVec.ofInt 32 (b : Int)).toNat : Int) = _
  rw [BitVec.toNat_xor, h1, h2, IntKind.wrap_u32']
  omega
theorem xor_shift_u32 (k : Nat) (hk : 0 < k) (D : Int) (hD : D = ((2 ^ k : Nat) : Int)) (a b : Int) (ha0 : 0 ≤ a) (ha : a < 4294967296) (hb0 : 0 ≤ b) (hb : b < 4294967296) (h : bits .xor .u32 a (a / D) = bits .xor .u32 b (b / D)) : a = b := by
  subst hD
  obtain ⟨A, rfl⟩ := Int.eq_ofNat_of_zero_le ha0
  obtain ⟨B, rfl⟩ := Int.eq_ofNat_of_zero_le hb0
  rw [← Int.natCast_ediv, ← Int.natCast_ediv, xor_u32_nat _ _ (by omega) (Nat.lt_of_le_of_lt (Nat.div_le_self _ _) (by omega)), xor_u32_nat _ _ (by omega) (Nat.lt_of_le_of_lt (Nat.div_le_self _ _) (by omega))] at h
  have := xor_shift_inj k hk A B (by omega) (by omega) (by exact_mod_cast h)
  rw [this]
theorem inv_mod (M C I k a : Int) (h : C * I = 1 + k * M) (h0 : 0 ≤ a) (h1 : a < M) : (a * C % M) * I % M = a := by
  rw [Int.mul_emod (a * C % M) I M, Int.emod_emod, ← Int.mul_emod, Int.mul_assoc, h, Int.mul_add, Int.mul_one, ← Int.mul_assoc, Int.add_mul_emod_self_right, Int.emod_eq_of_lt h0 h1]
theorem mixA_inj (a b : Int) (ha0 : 0 ≤ a) (ha : a < 4294967296) (hb0 : 0 ≤ b) (hb : b < 4294967296) (h : mixA a = mixA b) : a = b := by
  have h2 : a * 2654435761 % 4294967296 = b * 2654435761 % 4294967296 := xor_shift_u32 15 (by decide) 32768 rfl _ _ (by omega) (by omega) (by omega) (by omega) h
  have e1 := inv_mod 4294967296 2654435761 244002641 150801925 a (by decide) ha0 ha
  have e2 := inv_mod 4294967296 2654435761 244002641 150801925 b (by decide) hb0 hb
  rw [h2] at e1
  exact e1.symm.trans e2
theorem mixB_inj (a b : Int) (ha0 : 0 ≤ a) (ha : a < 4294967296) (hb0 : 0 ≤ b) (hb : b < 4294967296) (h : mixB a = mixB b) : a = b := by
  have h2 : a * 2246822519 % 4294967296 = b * 2246822519 % 4294967296 := xor_shift_u32 13 (by decide) 8192 rfl _ _ (by omega) (by omega) (by omega) (by omega) h
  have e1 := inv_mod 4294967296 2246822519 3066638151 1604247758 a (by decide) ha0 ha
  have e2 := inv_mod 4294967296 2246822519 3066638151 1604247758 b (by decide) hb0 hb
  rw [h2] at e1
  exact e1.symm.trans e2
theorem u32_in (a b : Int) : 0 ≤ bits BinOp.xor IntKind.u32 a b ∧ bits BinOp.xor IntKind.u32 a b < 4294967296 := by
  have h := IntKind.wrap_u32' (((BitVec.ofInt 32 a) ^^^ (BitVec.ofInt 32 b)).toNat : Int)
  have e : bits BinOp.xor IntKind.u32 a b = IntKind.u32.wrap (((BitVec.ofInt 32 a) ^^^ (BitVec.ofInt 32 b)).toNat : Int) := rfl
  rw [e, h]; omega
theorem mix_inj (a b : Int) (ha0 : 0 ≤ a) (ha : a < 4294967296) (hb0 : 0 ≤ b) (hb : b < 4294967296) (h : mixB (mixA a) = mixB (mixA b)) : a = b :=
  mixA_inj a b ha0 ha hb0 hb (mixB_inj _ _ (u32_in _ _).1 (u32_in _ _).2 (u32_in _ _).1 (u32_in _ _).2 h)

theorem grown_refl (w : World) (r : Option Nat) : w.grownBy w r := ⟨rfl, rfl, rfl, Nat.le_refl _, fun _ _ _ => rfl⟩
theorem grown_set (w : World) (g j : Nat) (v : Value) : w.grownBy (w.setCell ⟨g, j, none⟩ v) (some g) := ⟨rfl, rfl, rfl, by simp, fun k _ hk => Below.heap_setCell _ _ _ _ (fun e => hk (by rw [e]))⟩
theorem grown_trans {u v w : World} {r : Option Nat} (h : u.grownBy v r) (k : v.grownBy w r) : u.grownBy w r :=
  ⟨k.os.trans h.os, k.tape.trans h.tape, k.output.trans h.output, Nat.le_trans h.size k.size, fun i hi hne => (k.block i (Nat.lt_of_lt_of_le hi h.size) hne).trans (h.block i hi hne)⟩
theorem grown_drewN (w : World) (n : Nat) (r : Option Nat) : w.grownBy (w.drewN n) r := ⟨rfl, rfl, rfl, Nat.le_refl _, fun _ _ _ => rfl⟩

theorem mix_any (n : Int) {w : World} : Calls Try.prog 14 #[.int .u32 n] w fun e w' => e = .returned (.int .u32 (mixB (mixA n))) ∧ w = w' := by
  go_enter Try.func14, Try.ntmps14
  go_wp2
  go_ret
  exact ⟨rfl, rfl⟩
theorem rmix_any (n : Int) {w : World} : Calls Try.prog 15 #[.int .u32 n] w fun e w' => e = .returned (.int .u32 (mixB (mixA n))) ∧ w = w' := by
  go_enter Try.func15, Try.ntmps15
  go_wp2
  go_ret
  exact ⟨rfl, rfl⟩
set_option maxHeartbeats 2000000 in
theorem draw_any {w : World} {g e : Nat} {s : Int} (h : Blk w g e (0, 0) [.int .u64 s]) :
    Calls Try.prog 26 #[.pointer (some ⟨g, 0, none⟩)] w fun en w' => en = .returned (.int .u64 (xs s)) ∧ Blk w' g e (0, 0) [.int .u64 (xs s)] ∧ w.grownBy w' (some g) := by
  have c0 : w.cell? ⟨g, 0, none⟩ = some (.int .u64 s) := by rw [h.cell]; rfl
  have f0 : w.frozen? ⟨g, 0, none⟩ = false := by rw [h.frozen]; simp
  have hS := Lib.hid (h.set 0 (.int .u64 (xs s))); clear h
  go_enter Try.func26, Try.ntmps26
  go_wp2
  go_ret
  exact ⟨rfl, hS.out, grown_set _ _ _ _⟩
set_option maxHeartbeats 2000000 in
theorem chance_draw {w : World} {g : Nat} {s : Int} (h : Blk w g 62 (0, 0) [.int .u64 s]) (n : Int) :
    Calls Try.prog 12 #[.pointer (some ⟨g, 0, none⟩), .int .u64 n] w fun en w' => en = .returned (.int .u64 (drawS s n)) ∧ Blk w' g 62 (0, 0) [.int .u64 (nextS s n)] ∧ w.grownBy w' (some g) := by
  have c0 : w.cell? ⟨g, 0, none⟩ = some (.int .u64 s) := by rw [h.cell]; rfl
  by_cases hn : n = 0
  · subst hn
    have hH := Lib.hid h; clear h
    go_enter Try.func12, Try.ntmps12
    go_wp2
    all_goals go_ret
    all_goals exact ⟨rfl, hH.out, grown_refl _ _⟩
  · by_cases hs : s = 0
    · subst hs
      have hH := Lib.hid h; clear h
      go_enter Try.func12, Try.ntmps12
      go_wp2
      go_ret
      refine ⟨?_, ?_, grown_refl _ _⟩
      · simp [drawS, hn, xs_zero]
      · simp only [nextS, hn, if_false, xs_zero]; exact hH.out
    · have hH := Lib.hid h; clear h
      go_enter Try.func12, Try.ntmps12
      go_wp2_with (go_at_call 26; refine (draw_any hH.out).mono ?_; rintro en w1 ⟨rfl, hB, hg⟩)
      · rename_i hx; simp [hs, hn] at hx
      go_ret
      refine ⟨?_, ?_, hg⟩
      · simp [drawS, hn]
      · simp only [nextS, hn, if_false]; exact hB
set_option maxHeartbeats 2000000 in
theorem new_chance (s : Int) {w : World} :
    Calls Try.prog 10 #[.int .u64 s] w fun en w' => en = .returned (.pointer (some ⟨w.heap.size, 0, none⟩)) ∧ w' = w.alloc (.cells #[.int .u64 (if s = 0 then 11400714819323198485 else s)] 62) := by
  by_cases hs : s = 0
  · subst hs
    go_enter Try.func10, Try.ntmps10
    go_wp2
    go_ret
    exact ⟨rfl, rfl⟩
  · go_enter Try.func10, Try.ntmps10
    go_wp2
    go_ret
    simp
set_option maxHeartbeats 2000000 in
theorem rnew_chance (s : Int) {w : World} :
    Calls Try.prog 11 #[.int .u64 s] w fun en w' => en = .returned (.pointer (some ⟨w.heap.size, 0, none⟩)) ∧ w' = w.alloc (.cells #[.int .u64 (if s = 0 then 11400714819323198485 else s)] 65) := by
  by_cases hs : s = 0
  · subst hs
    go_enter Try.func11, Try.ntmps11
    go_wp2
    go_ret
    exact ⟨rfl, rfl⟩
  · go_enter Try.func11, Try.ntmps11
    go_wp2
    go_ret
    simp
end Go.Proofs.Ytckimjmidbdalaa
