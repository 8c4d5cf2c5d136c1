/- How many bits are unlike: bits 16. -/
import Derived.Test.YthdnbipfdahnlaaNtN
import Derived.Laws.Bits64
namespace Go.Proofs.Ythdnbipfdahnlaa
open Go Go.RowKit
theorem xor_bits (a b : UInt8) : bits .xor .u8 (a.toNat : Int) (b.toNat : Int) = ((a ^^^ b).toNat : Int) := by
  have h1 := a.toNat_lt
  have h2 := b.toNat_lt
  have hx : a.toNat ^^^ b.toNat < 2 ^ 8 := Nat.xor_lt_two_pow (by omega) (by omega)
  have e1 : (BitVec.ofInt 8 (a.toNat : Int)).toNat = a.toNat := by
    rw [BitVec.ofInt_natCast, BitVec.toNat_ofNat]; exact Nat.mod_eq_of_lt (by omega)
  have e2 : (BitVec.ofInt 8 (b.toNat : Int)).toNat = b.toNat := by
    rw [BitVec.ofInt_natCast, BitVec.toNat_ofNat]; exact Nat.mod_eq_of_lt (by omega)
  show IntKind.u8.wrap ((BitVec.ofInt 8 (a.toNat : Int) ^^^ BitVec.ofInt 8 (b.toNat : Int)).toNat : Int) = _
  rw [BitVec.toNat_xor, e1, e2, UInt8.toNat_xor]
  simp [IntKind.wrap, IntKind.bits, IntKind.signed]
  omega
/-- how many bits of a byte are set -/
def pop (x : UInt8) : Nat := ((List.range 8).filter (fun i => (x.toNat >>> i) % 2 == 1)).length
theorem low_bits (x : UInt8) (h : x ≠ 0) : bits .and .u8 (x.toNat : Int) ((x.toNat : Int) - 1) = ((x &&& (x - 1)).toNat : Int) ∧ pop (x &&& (x - 1)) + 1 = pop x ∧ (x &&& (x - 1)).toNat < x.toNat := by
  have key : ∀ n : Fin 256, n.val ≠ 0 → bits .and .u8 (n.val : Int) ((n.val : Int) - 1) = ((UInt8.ofNat n.val &&& (UInt8.ofNat n.val - 1)).toNat : Int) ∧ pop (UInt8.ofNat n.val &&& (UInt8.ofNat n.val - 1)) + 1 = pop (UInt8.ofNat n.val) ∧ (UInt8.ofNat n.val &&& (UInt8.ofNat n.val - 1)).toNat < (UInt8.ofNat n.val).toNat := by decide +kernel
  have hx : x.toNat ≠ 0 := fun e => h (UInt8.toNat_inj.1 (by simpa using e))
  have := key ⟨x.toNat, x.toNat_lt⟩ hx
  simpa using this
theorem pop_flip (c : UInt8) {r : Nat} (hr : r < 8) : pop (c ^^^ flipB c r) = 1 ∧ pop (flipB c r ^^^ c) = 1 := by
  have key : ∀ n : Fin 256, ∀ r : Fin 8, pop (UInt8.ofNat n.val ^^^ flipB (UInt8.ofNat n.val) r.val) = 1 ∧ pop (flipB (UInt8.ofNat n.val) r.val ^^^ UInt8.ofNat n.val) = 1 := by decide +kernel
  have := key ⟨c.toNat, c.toNat_lt⟩ ⟨r, hr⟩
  simpa using this
def bitsL : List UInt8 → List UInt8 → Nat
  | x :: r, y :: s => pop (x ^^^ y) + bitsL r s
  | _, _ => 0
theorem bitsL_snoc : ∀ (a b : List UInt8) (x y : UInt8), a.length = b.length → bitsL (a ++ [x]) (b ++ [y]) = bitsL a b + pop (x ^^^ y)
  | [], [], x, y, _ => by simp [bitsL]
  | [], _ :: _, _, _, h => by cases h
  | _ :: _, [], _, _, h => by cases h
  | u :: r, v :: s, x, y, h => by
    have := bitsL_snoc r s x y (by simpa using h)
    simp only [List.cons_append, bitsL, this]
    omega
theorem pop_le (x : UInt8) : pop x ≤ 8 := Nat.le_trans (List.length_filter_le _ _) (by simp)
set_option maxHeartbeats 8000000 in
set_option maxRecDepth 100000 in
theorem bits_any {w : World} {a a' : Option Addr} {n c c' : Nat} {l l' : List UInt8} (h : Rd byteE w a n c l) (h' : Rd byteE w a' n c' l') (hn : n ≤ 100000000000) :
    Calls Try.prog 16 #[.slice a n c, .slice a' n c'] w fun e w' => e = .returned (.int .i64 (bitsL l l')) ∧ Below w.heap.size w w' := by
  have hl := h.len
  have hl' := h'.len
  have hH := Lib.hid h
  have hH' := Lib.hid h'
  clear h h'
  go_enter Try.func16, Try.ntmps16
  go_wp2_with fail
  go_loopw [5, 6] (fun m i wr => ∃ k t : Nat, k ≤ n ∧ i = .int .i64 k ∧ m = .int .i64 t ∧ t ≤ 8 * k ∧ Hid (t = bitsL (l.take k) (l'.take k)) ∧ Hid (Below w.heap.size w wr)) (fun _ i _ => n - (intOf i).toNat)
  case atStart => exact ⟨0, 0, Nat.zero_le _, rfl, rfl, Nat.zero_le _, Lib.hid rfl, Lib.hid (Below.refl _ _)⟩
  case round =>
    obtain ⟨k, t, hk, rfl, rfl, ht8, ht, hb⟩ := hrel
    by_cases hlt : k < n
    · have hkI : (k : Int) < n := by omega
      have hk0 : 0 ≤ (k : Int) := by omega
      have hkl : k < l.length := by omega
      have hkl' : k < l'.length := by omega
      obtain ⟨b, o, rfl, hbs, hc⟩ := (hH.out.ext hb.out).addr (by omega)
      obtain ⟨b', o', rfl, hbs', hc'⟩ := (hH'.out.ext hb.out).addr (by omega)
      have c0 := hc k hkl 0 (by decide)
      have c1 := hc' k hkl' 0 (by decide)
      obtain ⟨x, hx⟩ : ∃ x, l[k] = x := ⟨_, rfl⟩
      obtain ⟨y, hy⟩ : ∃ y, l'[k] = y := ⟨_, rfl⟩
      rw [hx] at c0
      rw [hy] at c1
      replace c0 : wr.cell? ⟨b, o + k, none⟩ = some (.int .u8 x.toNat) := by simpa [byteE] using c0
      replace c1 : wr.cell? ⟨b', o' + k, none⟩ = some (.int .u8 y.toNat) := by simpa [byteE] using c1
      have hstep : Hid (bitsL (l.take (k + 1)) (l'.take (k + 1)) = bitsL (l.take k) (l'.take k) + pop (x ^^^ y)) := Lib.hid (by rw [List.take_succ_eq_append_getElem hkl, List.take_succ_eq_append_getElem hkl', bitsL_snoc _ _ _ _ (by simp; omega), hx, hy])
      have hxy := xor_bits x y
      clear hc hc' hx hy
      obtain ⟨v, hv⟩ : ∃ v : UInt8, x ^^^ y = v := ⟨_, rfl⟩
      rw [hv] at hxy hstep
      clear hv
      go_upto_region 5 with (fail)
      go_quiet (fail)
      rename_i nq
      obtain ⟨W2, hW2⟩ : ∃ W, wr.drewN nq = W := ⟨_, rfl⟩
      have hb2 : Hid (Below w.heap.size w W2) := Lib.hid (by rw [← hW2]; exact below_drewN hb.out nq)
      rw [hW2]
      clear hW2 c0 c1 hxy hb
      go_wp2_with fail
      go_loopw [5, 7] (fun m q wr2 => ∃ (t2 : Nat) (z : UInt8), m = .int .i64 t2 ∧ q = .int .u8 z.toNat ∧ Hid (t2 + pop z = t + pop v) ∧ t2 ≤ t + 8 ∧ Hid (Below w.heap.size w wr2)) (fun _ q _ => (intOf q).toNat)
      case atStart => exact ⟨t, v, rfl, rfl, Lib.hid rfl, by omega, hb2⟩
      case round =>
        obtain ⟨t2, z, rfl, rfl, hs, ht2, hb3⟩ := hrel
        by_cases hz : z = 0
        · subst hz
          have ht3 : Hid (t2 = bitsL (l.take (k + 1)) (l'.take (k + 1))) := Lib.hid (by rw [hstep.out, ← ht.out]; have := hs.out; have h0 : pop 0 = 0 := by decide
                                                                                        omega)
          go_wp2_with fail
          go_roundw
          case rel => exact ⟨k + 1, t2, by omega, by go_num, rfl, by omega, ht3, hb3⟩
          case measure => simp [intOf]; omega
        · obtain ⟨e1, e2, e3⟩ := low_bits z hz
          have hz0 : ¬ ((z.toNat : Int) = 0) := fun e => hz (UInt8.toNat_inj.1 (by simpa using (by omega : z.toNat = 0)))
          have hz1 : (1 : Int) ≤ z.toNat := by omega
          have hz2 : (z.toNat : Int) < 256 := by have := z.toNat_lt; omega
          obtain ⟨z', hz'⟩ : ∃ z', z &&& (z - 1) = z' := ⟨_, rfl⟩
          rw [hz'] at e1 e2 e3
          have e2' := Lib.hid e2
          have e3' := Lib.hid e3
          have hpz := Lib.hid (pop_le z)
          clear e2 e3 hz'
          go_wp2_with fail
          go_roundw
          case rel => exact ⟨t2 + 1, z', by go_num, rfl, Lib.hid (by have := hs.out; have := e2'.out; omega), by have := hs.out; have := e2'.out; have := pop_le v; omega, hb3⟩
          case measure => have := e3'.out; simp [intOf]; omega
    · have hk' : k = n := by omega
      have hfin : Hid (t = bitsL l l') := Lib.hid (by rw [ht.out, List.take_of_length_le (by omega), List.take_of_length_le (by omega)])
      have hkI : ¬ (k : Int) < n := by omega
      go_wp2_with fail
      go_ret
      exact ⟨by rw [hfin.out]; rfl, hb.out⟩
end Go.Proofs.Ythdnbipfdahnlaa
