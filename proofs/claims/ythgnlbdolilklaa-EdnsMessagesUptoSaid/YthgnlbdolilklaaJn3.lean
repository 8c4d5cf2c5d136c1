/- Layer 1, octet: numbers in bytes. Layer 1: numbers written, and read at a place. -/
import Derived.Test.YthgnlbdolilklaaJn2
namespace Go.Proofs.Ythgnlbdolilklaa
open Go.RowKit

def numL (l : List UInt8) : Nat := l.foldl (fun n c => n * 256 + c.toNat) 0
theorem numL_snoc (l : List UInt8) (c : UInt8) : numL (l ++ [c]) = numL l * 256 + c.toNat := by simp [numL]
theorem numF_lt : ∀ (l : List UInt8) (a : Nat), l.foldl (fun n c => n * 256 + c.toNat) a < (a + 1) * 256 ^ l.length
  | [], a => by simp
  | c :: l, a => by
    have h := numF_lt l (a * 256 + c.toNat)
    have hc := c.toNat_lt
    rw [List.foldl_cons, List.length_cons, Nat.pow_succ]
    have : (a * 256 + c.toNat + 1) * 256 ^ l.length ≤ (a + 1) * 256 * 256 ^ l.length := Nat.mul_le_mul_right _ (by omega)
    rw [Nat.mul_comm (256 ^ l.length) 256, ← Nat.mul_assoc]; omega
theorem numL_lt (l : List UInt8) : numL l < 256 ^ l.length := by have := numF_lt l 0; simpa [numL] using this
theorem numL_lt4 (l : List UInt8) (h : l.length ≤ 4) : numL l < 4294967296 := by
  have h1 := numL_lt l
  have : 256 ^ l.length ≤ 256 ^ 4 := Nat.pow_le_pow_right (by decide) h
  omega
theorem numL_lt3 (l : List UInt8) (h : l.length ≤ 3) : numL l < 16777216 := by
  have h1 := numL_lt l
  have : 256 ^ l.length ≤ 256 ^ 3 := Nat.pow_le_pow_right (by decide) h
  omega
theorem numL_take (l : List UInt8) (k : Nat) (h : k < l.length) : numL (l.take (k + 1)) = numL (l.take k) * 256 + l[k].toNat := by
  rw [List.take_succ_eq_append_getElem h, numL_snoc]
theorem or_byte (N : Nat) (c : UInt8) (h : N < 16777216) : bits BinOp.or IntKind.u32 ((N : Int) * 256) (c.toNat : Int) = ((N * 256 + c.toNat : Nat) : Int) := by
  have hc := c.toNat_lt
  have h1 := u32_or_nat (N * 256) c.toNat (by omega) (by omega)
  rw [nat_join 8 (N * 256) c.toNat (by omega) (by omega)] at h1
  rw [← h1]; congr 1; 
set_option maxHeartbeats 2000000 in
set_option maxRecDepth 100000 in
theorem number_no {w : World} {a : Option Addr} {n c : Nat} (p : Int) (size : Nat) (hp : -9223372036854775808 ≤ p ∧ p ≤ 9223372036854775807) (hs : size ≤ 4) (hno : ¬ (0 ≤ p ∧ p ≤ n ∧ (size : Int) ≤ n - p)) :
    Calls Try.prog 72 #[.slice a n c, .int .i64 p, .int .i64 size] w fun e w' => e = .returned (.tuple #[.int .u32 0, .bool false]) ∧ w = w' := by
  by_cases h1 : p < 0
  · clear hno
    go_enter Try.func72, Try.ntmps72
    go_wp2_with fail
    go_ret2
    exact ⟨rfl, rfl⟩
  · by_cases h2 : (n : Int) < p
    · clear hno
      go_enter Try.func72, Try.ntmps72
      go_wp2_with fail
      go_ret2
      exact ⟨rfl, rfl⟩
    · have h3 : (n : Int) - p < size := by omega
      clear hno hp
      go_enter Try.func72, Try.ntmps72
      go_wp2_with fail
      go_ret2
      exact ⟨rfl, rfl⟩
set_option maxHeartbeats 2000000 in
set_option maxRecDepth 100000 in
theorem number_yes {w : World} {a : Option Addr} {n c : Nat} {l : List UInt8} (h : Rd byteE w a n c l) (p size : Nat) (hs : size ≤ 4) (hn : n ≤ 140737488355328) (_hc : c ≤ 9223372036854775807) (hy : p + size ≤ n) :
    Calls Try.prog 72 #[.slice a n c, .int .i64 p, .int .i64 size] w fun e w' => e = .returned (.tuple #[.int .u32 (numL ((l.drop p).take size)), .bool true]) ∧ w = w' := by
  have hsz1 : (Try.prog.info? byteE.e).map (·.size) = some byteE.k := by kernel_rfl
  obtain ⟨a', hsl, hr⟩ := cut_lh (P := Try.prog) h 33 Try.underlying33 hsz1 .i64 .i64 p ((p : Int) + size) p (p + size) rfl (by omega) (by omega) hy
  have hd : (l.take (p + size)).drop p = (l.drop p).take size := by rw [List.drop_take]; congr 1; omega
  rw [hd, show p + size - p = size by omega] at hr
  rw [show p + size - p = size by omega] at hsl
  generalize hq : (l.drop p).take size = q at *
  have hql := hr.len
  have hQ := Lib.hid hr; clear hr hd hq
  have hcap := h.cap
  clear h
  have hqL := Lib.hid hql; clear hql
  go_enter Try.func72, Try.ntmps72
  go_wp2_with fail
  go_loop [8, 34] (fun v i => ∃ k : Nat, k ≤ size ∧ i = .int .i64 k ∧ v = .int .u32 (numL (q.take k)))
    (fun _ i => size - (intOf i).toNat)
  case atStart => exact ⟨0, Nat.zero_le _, rfl, by simp [numL]⟩
  case round =>
    obtain ⟨k, hk, rfl, rfl⟩ := hrel
    by_cases hlt : k < size
    · have hkq : k < q.length := by rw [hqL.out]; exact hlt
      obtain ⟨b, o, rfl, hcl⟩ := rd_byte hQ.out (by omega)
      have hcell := hcl k hkq
      clear hcl
      have hst := Lib.hid (numL_take q k hkq)
      have hlt3 := numL_lt3 (q.take k) (by simp; omega)
      have hb : (q[k].toNat : Int) < 256 := by have := q[k].toNat_lt; omega
      go_wp2_with fail
      rw [or_byte _ _ hlt3]
      go_round
      case rel => exact ⟨k + 1, by omega, by go_num, by rw [hst.out]⟩
      case measure => simp [intOf]; omega
    · have hk' : q.take k = q := List.take_of_length_le (by have := hqL.out; omega)
      rw [hk']
      clear hk'
      go_wp2_with fail
      go_ret2
      exact ⟨rfl, rfl⟩

end Go.Proofs.Ythgnlbdolilklaa
namespace Go.Proofs.Ythgnlbdolilklaa
open Go.RowKit
theorem u8_of (n : Nat) (h : n < 256) : ((UInt8.ofNat n).toNat : Int) = n := by simp; omega
def be16 (n : Nat) : List UInt8 := [UInt8.ofNat (n / 256), UInt8.ofNat (n % 256)]
theorem u8_lit (n : Nat) (h : n < 256) : Value.int .u8 (n : Int) = u8 (UInt8.ofNat n) := by unfold u8; rw [u8_of n h]
theorem be16_row (n : Nat) (hn : n ≤ 65535) : [Value.int .u8 ((n : Int) / 256), .int .u8 ((n : Int) % 256)] = u8s (be16 n) := by
  have e1 := u8_lit (n / 256) (by omega)
  have e2 := u8_lit (n % 256) (by omega)
  simp only [be16, u8s, List.map_cons, List.map_nil, ← e1, ← e2]; rfl
theorem put16_ok (n : Nat) (w : World) (hn : n ≤ 65535) :
    Calls Try.prog 37 #[.int .i64 n] w fun e w' => e = .returned (.tuple #[.slice (some ⟨w.heap.size, 0, none⟩) 2 2, .int .i64 0]) ∧ Blk w' w.heap.size 5 (0, 0) (u8s (be16 n)) ∧ Below w.heap.size w w' := by
  go_enter Try.func37, Try.ntmps37
  go_wp2_with fail
  go_ret2
  refine ⟨rfl, ?_, (Below.refl _ _).alloc (Nat.le_refl _) _⟩
  rw [← be16_row n hn]
  exact Blk.new w 5 (0, 0) #[Value.int .u8 ((n : Int) / 256), .int .u8 ((n : Int) % 256)]
theorem put16_no (n : Int) (w : World) (hn : n < 0 ∨ 65535 < n) :
    Calls Try.prog 37 #[.int .i64 n] w fun e w' => e = .returned (.tuple #[.slice none 0 0, .int .i64 2]) ∧ w = w' := by
  rcases hn with h | h
  · go_enter Try.func37, Try.ntmps37
    go_wp2_with fail
    go_ret2
    exact ⟨rfl, rfl⟩
  · have h2 : ¬ n < 0 := by omega
    go_enter Try.func37, Try.ntmps37
    go_wp2_with fail
    go_ret2
    exact ⟨rfl, rfl⟩
end Go.Proofs.Ythgnlbdolilklaa
