
/- Layer 1, octet: numbers in bytes. -/
import Derived.Test.YthgnlbdolilklaaKitC
import Derived.Test.YthgnlbdolilklaaCut
namespace Go.Proofs.Ythgnlbdolilklaa
open Go.RowKit

def numL (l : List UInt8) : Nat := l.foldl (fun n c => n * 256 + c.toNat) 0
theorem numL_snoc (l : List UInt8) (c : UInt8) : numL (l ++ [c]) = numL l * 256 + c.toNat := by simp [numL]
theorem numF_lt : ∀ (l : List UInt8) (a : Nat), l.foldl (fun n c => n * 256 + c.toNat) a < (a + 1) * 256 ^ l.length
  | [], a => by simp
  | c :: l, a => by
    have h := numF_lt l (a * 256 + c.toNat)
    have hc := c.toNat_lt
    rw [List.foldl_cons, List.length_cons, Nat.pow_succ]
    have : (a * 256 + c.toNat + 1) * 256 ^ l.length ≤ (a + 1) * 256 * 256 ^ l.length := Nat.mul_le_mul_right _ (by omega)
    rw [Nat.mul_comm (256 ^ l.length) 256, ← Nat.mul_assoc]; omega
theorem numL_lt (l : List UInt8) : numL l < 256 ^ l.length := by have := numF_lt l 0; simpa [numL] using this
theorem numL_lt4 (l : List UInt8) (h : l.length ≤ 4) : numL l < 4294967296 := by
  have h1 := numL_lt l
  have : 256 ^ l.length ≤ 256 ^ 4 := Nat.pow_le_pow_right (by decide) h
  omega
theorem numL_lt3 (l : List UInt8) (h : l.length ≤ 3) : numL l < 16777216 := by
  have h1 := numL_lt l
  have : 256 ^ l.length ≤ 256 ^ 3 := Nat.pow_le_pow_right (by decide) h
  omega
theorem numL_take (l : List UInt8) (k : Nat) (h : k < l.length) : numL (l.take (k + 1)) = numL (l.take k) * 256 + l[k].toNat := by
  rw [List.take_succ_eq_append_getElem h, numL_snoc]
theorem or_byte (N : Nat) (c : UInt8) (h : N < 16777216) : bits BinOp.or IntKind.u32 ((N : Int) * 256) (c.toNat : Int) = ((N * 256 + c.toNat : Nat) : Int) := by
  have hc := c.toNat_lt
  have h1 := u32_or_nat (N * 256) c.toNat (by omega) (by omega)
  rw [nat_join 8 (N * 256) c.toNat (by omega) (by omega)] at h1
  rw [← h1]; congr 1; 
/-- the number in 'size' bytes from a place on -/
def numAt (l : List UInt8) (at_ : Int) (size : Nat) : Option Nat := if 0 ≤ at_ ∧ at_ ≤ l.length ∧ size ≤ l.length - at_ then some (numL ((l.drop at_.toNat).take size)) else none

set_option maxHeartbeats 2000000 in
set_option maxRecDepth 100000 in
theorem number_no {w : World} {a : Option Addr} {n c : Nat} (p : Int) (size : Nat) (hp : -9223372036854775808 ≤ p ∧ p ≤ 9223372036854775807) (hs : size ≤ 4) (hno : ¬ (0 ≤ p ∧ p ≤ n ∧ (size : Int) ≤ n - p)) :
    Calls Try.prog 72 #[.slice a n c, .int .i64 p, .int .i64 size] w fun e w' => e = .returned (.tuple #[.int .u32 0, .bool false]) ∧ w = w' := by
  by_cases h1 : p < 0
  · clear hno
    go_enter Try.func72, Try.ntmps72
    go_wp2_with fail
    go_ret2
    exact ⟨rfl, rfl⟩
  · by_cases h2 : (n : Int) < p
    · clear hno
      go_enter Try.func72, Try.ntmps72
      go_wp2_with fail
      go_ret2
      exact ⟨rfl, rfl⟩
    · have h3 : (n : Int) - p < size := by omega
      clear hno hp
      go_enter Try.func72, Try.ntmps72
      go_wp2_with fail
      go_ret2
      exact ⟨rfl, rfl⟩
set_option maxHeartbeats 2000000 in
set_option maxRecDepth 100000 in
theorem number_yes {w : World} {a : Option Addr} {n c : Nat} {l : List UInt8} (h : Rd byteE w a n c l) (p size : Nat) (hs : size ≤ 4) (hn : n ≤ 140737488355328) (_hc : c ≤ 9223372036854775807) (hy : p + size ≤ n) :
    Calls Try.prog 72 #[.slice a n c, .int .i64 p, .int .i64 size] w fun e w' => e = .returned (.tuple #[.int .u32 (numL ((l.drop p).take size)), .bool true]) ∧ w = w' := by
  have hsz1 : (Try.prog.info? byteE.e).map (·.size) = some byteE.k := by kernel_rfl
  obtain ⟨a', hsl, hr⟩ := cut_lh (P := Try.prog) h 33 Try.underlying33 hsz1 .i64 .i64 p ((p : Int) + size) p (p + size) rfl (by omega) (by omega) hy
  have hd : (l.take (p + size)).drop p = (l.drop p).take size := by rw [List.drop_take]; congr 1; omega
  rw [hd, show p + size - p = size by omega] at hr
  rw [show p + size - p = size by omega] at hsl
  generalize hq : (l.drop p).take size = q at *
  have hql := hr.len
  have hQ := Lib.hid hr; clear hr hd hq
  have hcap := h.cap
  clear h
  have hqL := Lib.hid hql; clear hql
  go_enter Try.func72, Try.ntmps72
  go_wp2_with fail
  go_loop [8, 34] (fun v i => ∃ k : Nat, k ≤ size ∧ i = .int .i64 k ∧ v = .int .u32 (numL (q.take k)))
    (fun _ i => size - (intOf i).toNat)
  case atStart => exact ⟨0, Nat.zero_le _, rfl, by simp [numL]⟩
  case round =>
    obtain ⟨k, hk, rfl, rfl⟩ := hrel
    by_cases hlt : k < size
    · have hkq : k < q.length := by rw [hqL.out]; exact hlt
      obtain ⟨b, o, rfl, hcl⟩ := rd_byte hQ.out (by omega)
      have hcell := hcl k hkq
      clear hcl
      have hst := Lib.hid (numL_take q k hkq)
      have hlt3 := numL_lt3 (q.take k) (by simp; omega)
      have hb : (q[k].toNat : Int) < 256 := by have := q[k].toNat_lt; omega
      go_wp2_with fail
      rw [or_byte _ _ hlt3]
      go_round
      case rel => exact ⟨k + 1, by omega, by go_num, by rw [hst.out]⟩
      case measure => simp [intOf]; omega
    · have hk' : q.take k = q := List.take_of_length_le (by have := hqL.out; omega)
      rw [hk']
      clear hk'
      go_wp2_with fail
      go_ret2
      exact ⟨rfl, rfl⟩

end Go.Proofs.Ythgnlbdolilklaa
