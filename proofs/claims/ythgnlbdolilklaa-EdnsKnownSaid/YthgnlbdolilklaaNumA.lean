
/- Layer 1: numbers written, and read at a place. -/
import Derived.Test.YthgnlbdolilklaaOctA
namespace Go.Proofs.Ythgnlbdolilklaa
open Go.RowKit
theorem u8_of (n : Nat) (h : n < 256) : ((UInt8.ofNat n).toNat : Int) = n := by simp; omega
def be16 (n : Nat) : List UInt8 := [UInt8.ofNat (n / 256), UInt8.ofNat (n % 256)]
def be32 (n : Nat) : List UInt8 := [UInt8.ofNat (n / 16777216), UInt8.ofNat (n / 65536 % 256), UInt8.ofNat (n / 256 % 256), UInt8.ofNat (n % 256)]
theorem u8_lit (n : Nat) (h : n < 256) : Value.int .u8 (n : Int) = u8 (UInt8.ofNat n) := by unfold u8; rw [u8_of n h]
theorem be16_row (n : Nat) (hn : n ≤ 65535) : [Value.int .u8 ((n : Int) / 256), .int .u8 ((n : Int) % 256)] = u8s (be16 n) := by
  have e1 := u8_lit (n / 256) (by omega)
  have e2 := u8_lit (n % 256) (by omega)
  simp only [be16, u8s, List.map_cons, List.map_nil, ← e1, ← e2]; rfl
theorem be32_row (n : Nat) (hn : n < 4294967296) : [Value.int .u8 ((n : Int) / 16777216), .int .u8 ((n : Int) / 65536 % 256), .int .u8 ((n : Int) / 256 % 256), .int .u8 ((n : Int) % 256)] = u8s (be32 n) := by
  have e1 := u8_lit (n / 16777216) (by omega)
  have e2 := u8_lit (n / 65536 % 256) (by omega)
  have e3 := u8_lit (n / 256 % 256) (by omega)
  have e4 := u8_lit (n % 256) (by omega)
  simp only [be32, u8s, List.map_cons, List.map_nil, ← e1, ← e2, ← e3, ← e4]; rfl
def numP (l : List UInt8) (p : Int) (k : Nat) : Nat × Bool := if 0 ≤ p ∧ p + k ≤ l.length then (numL ((l.drop p.toNat).take k), true) else (0, false)
theorem put16_ok (n : Nat) (w : World) (hn : n ≤ 65535) :
    Calls Try.prog 37 #[.int .i64 n] w fun e w' => e = .returned (.tuple #[.slice (some ⟨w.heap.size, 0, none⟩) 2 2, .int .i64 0]) ∧ Blk w' w.heap.size 5 (0, 0) (u8s (be16 n)) ∧ Below w.heap.size w w' := by
  go_enter Try.func37, Try.ntmps37
  go_wp2_with fail
  go_ret2
  refine ⟨rfl, ?_, (Below.refl _ _).alloc (Nat.le_refl _) _⟩
  rw [← be16_row n hn]
  exact Blk.new w 5 (0, 0) #[Value.int .u8 ((n : Int) / 256), .int .u8 ((n : Int) % 256)]
theorem put16_no (n : Int) (w : World) (hn : n < 0 ∨ 65535 < n) :
    Calls Try.prog 37 #[.int .i64 n] w fun e w' => e = .returned (.tuple #[.slice none 0 0, .int .i64 2]) ∧ w = w' := by
  rcases hn with h | h
  · go_enter Try.func37, Try.ntmps37
    go_wp2_with fail
    go_ret2
    exact ⟨rfl, rfl⟩
  · have h2 : ¬ n < 0 := by omega
    go_enter Try.func37, Try.ntmps37
    go_wp2_with fail
    go_ret2
    exact ⟨rfl, rfl⟩
end Go.Proofs.Ythgnlbdolilklaa
