/- Layer 1: numbers written, and read at a place. -/
import Derived.Test.YtffdcfannnmjnaaOctA
import Derived.Test.YtffdcfannnmjnaaNameK
namespace Go.Proofs.Ytffdcfannnmjnaa
open Go.RowKit
def be16 (n : Nat) : List UInt8 := [UInt8.ofNat (n / 256), UInt8.ofNat (n % 256)]
def be32 (n : Nat) : List UInt8 := [UInt8.ofNat (n / 16777216), UInt8.ofNat (n / 65536 % 256), UInt8.ofNat (n / 256 % 256), UInt8.ofNat (n % 256)]
theorem u8_lit (n : Nat) (h : n < 256) : Value.int .u8 (n : Int) = u8 (UInt8.ofNat n) := by unfold u8; rw [u8_of n h]
theorem be16_row (n : Nat) (hn : n ≤ 65535) : [Value.int .u8 ((n : Int) / 256), .int .u8 ((n : Int) % 256)] = u8s (be16 n) := by
  have e1 := u8_lit (n / 256) (by omega)
  have e2 := u8_lit (n % 256) (by omega)
  simp only [be16, u8s, List.map_cons, List.map_nil, ← e1, ← e2]; rfl
theorem be32_row (n : Nat) (hn : n < 4294967296) : [Value.int .u8 ((n : Int) / 16777216), .int .u8 ((n : Int) / 65536 % 256), .int .u8 ((n : Int) / 256 % 256), .int .u8 ((n : Int) % 256)] = u8s (be32 n) := by
  have e1 := u8_lit (n / 16777216) (by omega)
  have e2 := u8_lit (n / 65536 % 256) (by omega)
  have e3 := u8_lit (n / 256 % 256) (by omega)
  have e4 := u8_lit (n % 256) (by omega)
  simp only [be32, u8s, List.map_cons, List.map_nil, ← e1, ← e2, ← e3, ← e4]; rfl
def numP (l : List UInt8) (p : Int) (k : Nat) : Nat × Bool := if 0 ≤ p ∧ p + k ≤ l.length then (numL ((l.drop p.toNat).take k), true) else (0, false)
theorem put16_ok (n : Nat) (w : World) (hn : n ≤ 65535) :
    Calls Try.prog 22 #[.int .i64 n] w fun e w' => e = .returned (.tuple #[.slice (some ⟨w.heap.size, 0, none⟩) 2 2, .int .i64 0]) ∧ Blk w' w.heap.size 5 (0, 0) (u8s (be16 n)) ∧ Below w.heap.size w w' := by
  go_enter Try.func22, Try.ntmps22
  go_wp2_with fail
  go_ret2
  refine ⟨rfl, ?_, (Below.refl _ _).alloc (Nat.le_refl _) _⟩
  rw [← be16_row n hn]
  exact Blk.new w 5 (0, 0) #[Value.int .u8 ((n : Int) / 256), .int .u8 ((n : Int) % 256)]
theorem rput16_ok (n : Nat) (w : World) (hn : n ≤ 65535) :
    Calls Try.prog 23 #[.int .i64 n] w fun e w' => e = .returned (.tuple #[.slice (some ⟨w.heap.size, 0, none⟩) 2 2, .int .i64 0]) ∧ Blk w' w.heap.size 5 (0, 0) (u8s (be16 n)) ∧ Below w.heap.size w w' := by
  go_enter Try.func23, Try.ntmps23
  go_wp2_with fail
  go_ret2
  refine ⟨rfl, ?_, (Below.refl _ _).alloc (Nat.le_refl _) _⟩
  rw [← be16_row n hn]
  exact Blk.new w 5 (0, 0) #[Value.int .u8 ((n : Int) / 256), .int .u8 ((n : Int) % 256)]
theorem put16_no (n : Int) (w : World) (hn : n < 0 ∨ 65535 < n) :
    Calls Try.prog 22 #[.int .i64 n] w fun e w' => e = .returned (.tuple #[.slice none 0 0, .int .i64 2]) ∧ w = w' := by
  rcases hn with h | h
  · go_enter Try.func22, Try.ntmps22
    go_wp2_with fail
    go_ret2
    exact ⟨rfl, rfl⟩
  · have h2 : ¬ n < 0 := by omega
    go_enter Try.func22, Try.ntmps22
    go_wp2_with fail
    go_ret2
    exact ⟨rfl, rfl⟩
theorem rput16_no (n : Int) (w : World) (hn : n < 0 ∨ 65535 < n) :
    Calls Try.prog 23 #[.int .i64 n] w fun e w' => e = .returned (.tuple #[.slice none 0 0, .int .i64 2]) ∧ w = w' := by
  rcases hn with h | h
  · go_enter Try.func23, Try.ntmps23
    go_wp2_with fail
    go_ret2
    exact ⟨rfl, rfl⟩
  · have h2 : ¬ n < 0 := by omega
    go_enter Try.func23, Try.ntmps23
    go_wp2_with fail
    go_ret2
    exact ⟨rfl, rfl⟩
theorem put32_any (n : Nat) (w : World) (hn : n < 4294967296) :
    Calls Try.prog 24 #[.int .u32 n] w fun e w' => e = .returned (.slice (some ⟨w.heap.size, 0, none⟩) 4 4) ∧ Blk w' w.heap.size 5 (0, 0) (u8s (be32 n)) ∧ Below w.heap.size w w' := by
  go_enter Try.func24, Try.ntmps24
  go_wp2_with fail
  go_ret
  refine ⟨rfl, ?_, (Below.refl _ _).alloc (Nat.le_refl _) _⟩
  rw [← be32_row n hn]
  exact Blk.new w 5 (0, 0) #[Value.int .u8 ((n : Int) / 16777216), .int .u8 ((n : Int) / 65536 % 256), .int .u8 ((n : Int) / 256 % 256), .int .u8 ((n : Int) % 256)]
theorem rput32_any (n : Nat) (w : World) (hn : n < 4294967296) :
    Calls Try.prog 30 #[.int .u32 n] w fun e w' => e = .returned (.slice (some ⟨w.heap.size, 0, none⟩) 4 4) ∧ Blk w' w.heap.size 5 (0, 0) (u8s (be32 n)) ∧ Below w.heap.size w w' := by
  go_enter Try.func30, Try.ntmps30
  go_wp2_with fail
  go_ret
  refine ⟨rfl, ?_, (Below.refl _ _).alloc (Nat.le_refl _) _⟩
  rw [← be32_row n hn]
  exact Blk.new w 5 (0, 0) #[Value.int .u8 ((n : Int) / 16777216), .int .u8 ((n : Int) / 65536 % 256), .int .u8 ((n : Int) / 256 % 256), .int .u8 ((n : Int) % 256)]
set_option maxRecDepth 100000 in
theorem u16_any {w : World} {a : Option Addr} {n c : Nat} {l : List UInt8} (h : Rd byteE w a n c l) (p : Int) (hp : -9223372036854775808 ≤ p ∧ p ≤ 9223372036854775807) (hn : n ≤ 140737488355328) :
    Calls Try.prog 25 #[.slice a n c, .int .i64 p] w fun e w' => e = .returned (.tuple #[.int .i64 (numP l p 2).1, .bool (numP l p 2).2]) ∧ w = w' := by
  have hl := h.len
  have hcm := h.most
  simp only [maxLen] at hcm
  have hH := Lib.hid h
  clear h
  by_cases hy : 0 ≤ p ∧ p + (2 : Nat) ≤ n
  · obtain ⟨q, rfl⟩ : ∃ q : Nat, p = q := ⟨p.toNat, by omega⟩
    have hN : numP l q 2 = (numL ((l.drop q).take 2), true) := by unfold numP; rw [hl, if_pos hy]; rfl
    have hlt := numL_lt ((l.drop q).take 2)
    have hlen : ((l.drop q).take 2).length = 2 := by simp; omega
    rw [hlen] at hlt
    have hlt : numL ((l.drop q).take 2) < 65536 := hlt
    have hN' := Lib.hid hN
    clear hN hlen hl
    go_enter Try.func25, Try.ntmps25
    go_wp2_with fail
    refine (number_yes hH.out q 2 (by omega) hn hcm (by omega)).mono ?_
    generalize numL ((l.drop q).take 2) = N at *
    rintro e w1 ⟨rfl, rfl⟩
    go_wp2_with fail
    go_ret2
    exact ⟨by rw [hN'.out]; rfl, rfl⟩
  · have hN : numP l p 2 = (0, false) := by unfold numP; rw [hl, if_neg hy]
    have hN' := Lib.hid hN
    have hno : ¬ (0 ≤ p ∧ p ≤ n ∧ ((2 : Nat) : Int) ≤ n - p) := fun h => hy ⟨h.1, by omega⟩
    clear hN hl hy
    go_enter Try.func25, Try.ntmps25
    go_wp2_with fail
    refine (number_no p 2 hp (by omega) hno).mono ?_
    rintro e w1 ⟨rfl, rfl⟩
    go_wp2_with fail
    go_ret2
    exact ⟨by rw [hN'.out]; rfl, rfl⟩
set_option maxRecDepth 100000 in
theorem ru16_any {w : World} {a : Option Addr} {n c : Nat} {l : List UInt8} (h : Rd byteE w a n c l) (p : Int) (hp : -9223372036854775808 ≤ p ∧ p ≤ 9223372036854775807) (hn : n ≤ 140737488355328) :
    Calls Try.prog 26 #[.slice a n c, .int .i64 p] w fun e w' => e = .returned (.tuple #[.int .i64 (numP l p 2).1, .bool (numP l p 2).2]) ∧ w = w' := by
  have hl := h.len
  have hcm := h.most
  simp only [maxLen] at hcm
  have hH := Lib.hid h
  clear h
  by_cases hy : 0 ≤ p ∧ p + (2 : Nat) ≤ n
  · obtain ⟨q, rfl⟩ : ∃ q : Nat, p = q := ⟨p.toNat, by omega⟩
    have hN : numP l q 2 = (numL ((l.drop q).take 2), true) := by unfold numP; rw [hl, if_pos hy]; rfl
    have hlt := numL_lt ((l.drop q).take 2)
    have hlen : ((l.drop q).take 2).length = 2 := by simp; omega
    rw [hlen] at hlt
    have hlt : numL ((l.drop q).take 2) < 65536 := hlt
    have hN' := Lib.hid hN
    clear hN hlen hl
    go_enter Try.func26, Try.ntmps26
    go_wp2_with fail
    refine (rnumber_yes hH.out q 2 (by omega) hn (by omega)).mono ?_
    generalize numL ((l.drop q).take 2) = N at *
    rintro e w1 ⟨rfl, rfl⟩
    go_wp2_with fail
    go_ret2
    exact ⟨by rw [hN'.out]; rfl, rfl⟩
  · have hN : numP l p 2 = (0, false) := by unfold numP; rw [hl, if_neg hy]
    have hN' := Lib.hid hN
    have hno : ¬ (0 ≤ p ∧ p ≤ n ∧ ((2 : Nat) : Int) ≤ n - p) := fun h => hy ⟨h.1, by omega⟩
    clear hN hl hy
    go_enter Try.func26, Try.ntmps26
    go_wp2_with fail
    refine (rnumber_no p 2 hp (by omega) hno).mono ?_
    rintro e w1 ⟨rfl, rfl⟩
    go_wp2_with fail
    go_ret2
    exact ⟨by rw [hN'.out]; rfl, rfl⟩
set_option maxRecDepth 100000 in
theorem u32_any {w : World} {a : Option Addr} {n c : Nat} {l : List UInt8} (h : Rd byteE w a n c l) (p : Int) (hp : -9223372036854775808 ≤ p ∧ p ≤ 9223372036854775807) (hn : n ≤ 140737488355328) :
    Calls Try.prog 27 #[.slice a n c, .int .i64 p] w fun e w' => e = .returned (.tuple #[.int .u32 (numP l p 4).1, .bool (numP l p 4).2]) ∧ w = w' := by
  have hl := h.len
  have hcm := h.most
  simp only [maxLen] at hcm
  have hH := Lib.hid h
  clear h
  by_cases hy : 0 ≤ p ∧ p + (4 : Nat) ≤ n
  · obtain ⟨q, rfl⟩ : ∃ q : Nat, p = q := ⟨p.toNat, by omega⟩
    have hN : numP l q 4 = (numL ((l.drop q).take 4), true) := by unfold numP; rw [hl, if_pos hy]; rfl
    have hlt := numL_lt ((l.drop q).take 4)
    have hlen : ((l.drop q).take 4).length = 4 := by simp; omega
    rw [hlen] at hlt
    have hlt : numL ((l.drop q).take 4) < 4294967296 := hlt
    have hN' := Lib.hid hN
    clear hN hlen hl
    go_enter Try.func27, Try.ntmps27
    go_wp2_with fail
    refine (number_yes hH.out q 4 (by omega) hn hcm (by omega)).mono ?_
    generalize numL ((l.drop q).take 4) = N at *
    rintro e w1 ⟨rfl, rfl⟩
    go_wp2_with fail
    go_ret2
    exact ⟨by rw [hN'.out]; rfl, rfl⟩
  · have hN : numP l p 4 = (0, false) := by unfold numP; rw [hl, if_neg hy]
    have hN' := Lib.hid hN
    have hno : ¬ (0 ≤ p ∧ p ≤ n ∧ ((4 : Nat) : Int) ≤ n - p) := fun h => hy ⟨h.1, by omega⟩
    clear hN hl hy
    go_enter Try.func27, Try.ntmps27
    go_wp2_with fail
    refine (number_no p 4 hp (by omega) hno).mono ?_
    rintro e w1 ⟨rfl, rfl⟩
    go_wp2_with fail
    go_ret2
    exact ⟨by rw [hN'.out]; rfl, rfl⟩
set_option maxRecDepth 100000 in
theorem ru32_any {w : World} {a : Option Addr} {n c : Nat} {l : List UInt8} (h : Rd byteE w a n c l) (p : Int) (hp : -9223372036854775808 ≤ p ∧ p ≤ 9223372036854775807) (hn : n ≤ 140737488355328) :
    Calls Try.prog 28 #[.slice a n c, .int .i64 p] w fun e w' => e = .returned (.tuple #[.int .u32 (numP l p 4).1, .bool (numP l p 4).2]) ∧ w = w' := by
  have hl := h.len
  have hcm := h.most
  simp only [maxLen] at hcm
  have hH := Lib.hid h
  clear h
  by_cases hy : 0 ≤ p ∧ p + (4 : Nat) ≤ n
  · obtain ⟨q, rfl⟩ : ∃ q : Nat, p = q := ⟨p.toNat, by omega⟩
    have hN : numP l q 4 = (numL ((l.drop q).take 4), true) := by unfold numP; rw [hl, if_pos hy]; rfl
    have hlt := numL_lt ((l.drop q).take 4)
    have hlen : ((l.drop q).take 4).length = 4 := by simp; omega
    rw [hlen] at hlt
    have hlt : numL ((l.drop q).take 4) < 4294967296 := hlt
    have hN' := Lib.hid hN
    clear hN hlen hl
    go_enter Try.func28, Try.ntmps28
    go_wp2_with fail
    refine (rnumber_yes hH.out q 4 (by omega) hn (by omega)).mono ?_
    generalize numL ((l.drop q).take 4) = N at *
    rintro e w1 ⟨rfl, rfl⟩
    go_wp2_with fail
    go_ret2
    exact ⟨by rw [hN'.out]; rfl, rfl⟩
  · have hN : numP l p 4 = (0, false) := by unfold numP; rw [hl, if_neg hy]
    have hN' := Lib.hid hN
    have hno : ¬ (0 ≤ p ∧ p ≤ n ∧ ((4 : Nat) : Int) ≤ n - p) := fun h => hy ⟨h.1, by omega⟩
    clear hN hl hy
    go_enter Try.func28, Try.ntmps28
    go_wp2_with fail
    refine (rnumber_no p 4 hp (by omega) hno).mono ?_
    rintro e w1 ⟨rfl, rfl⟩
    go_wp2_with fail
    go_ret2
    exact ⟨by rw [hN'.out]; rfl, rfl⟩
end Go.Proofs.Ytffdcfannnmjnaa
