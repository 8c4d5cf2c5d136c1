/- All 19, Len 26; what Name writes: plain. -/
import Derived.Test.YtndpebhhgicooaaWrB
import Derived.Test.YtndpebhhgicooaaSqB
namespace Go.Proofs.Ytndpebhhgicooaa
open Go Go.RowKit Go.Maps
set_option maxHeartbeats 1000000 in
theorem wr_all {w : World} {lo g : Nat} {B : List UInt8} {nm : Nat} {f : List UInt8 → Option Int} {a : Option Addr} {c mb : Nat} (h : Wr w lo g B nm f a c mb) (hr : B.length ≤ 65535) :
    Calls Try.prog 19 #[.pointer (some ⟨g, 0, none⟩)] w fun e w' => (∃ v, e = .returned v ∧ Own byteE w' w.heap.size v B) ∧ Below w.heap.size w w' := by
  have c0 : w.cell? ⟨g, 0, none⟩ = some (.slice a B.length c) := (h.blk.cell 0).trans rfl
  have hbl := Lib.hid h.blk
  obtain ⟨i0, hi, hz0, hz1, hz2⟩ := info_parts Try.info5
  obtain ⟨a', c', e', hR⟩ := h.own.rd
  cases e'
  have hsrc := Lib.hid (hR.src (P := Try.prog) Try.underlying22)
  clear hR h
  go_enter Try.func19, Try.ntmps19
  go_wp2_with fail
  refine (wr_none hbl.out).mono ?_
  rintro e w1 ⟨rfl, rfl⟩
  go_wp2_with (at_builtin; refine app_own (E := byteE) rfl (.const (.slice none 0 0)) (.tmp 8) 22 22 rfl Try.underlying22 hi hz0 hz1 hz2 rfl rfl (Own.nil byteE w w.heap.size) rfl hsrc.out ?c1 ?c2 ?c3 ?_)
  case c1 => first | omega | (simp [maxLen]; omega)
  case c2 => first | omega | (simp; omega)
  case c3 => exact Nat.le_refl _
  intro v3 w3 h3 hg3 _
  obtain ⟨a3, c3, hv3⟩ := h3.shape
  have h3' : Hid (Own byteE w3 w.heap.size v3 B) := Lib.hid (by simpa using h3)
  have hb3 := Lib.hid (own_below (Below.refl w.heap.size w) hg3 (Own.nil byteE w w.heap.size) (Nat.le_refl _) (Nat.le_refl _))
  subst hv3
  clear h3 hg3 c0 hi hz0 hz1 hz2 hsrc
  go_wp2_with fail
  go_ret
  exact ⟨⟨_, rfl, h3'.out⟩, hb3.out⟩
set_option maxHeartbeats 1000000 in
theorem wr_len {w : World} {lo g : Nat} {B : List UInt8} {nm : Nat} {f : List UInt8 → Option Int} {a : Option Addr} {c mb : Nat} (h : Wr w lo g B nm f a c mb) :
    Calls Try.prog 26 #[.pointer (some ⟨g, 0, none⟩)] w fun e w' => e = .returned (.int .i64 B.length) ∧ w = w' := by
  have c0 : w.cell? ⟨g, 0, none⟩ = some (.slice a B.length c) := (h.blk.cell 0).trans rfl
  have hbl := Lib.hid h.blk
  clear h
  go_enter Try.func26, Try.ntmps26
  go_wp2_with fail
  refine (wr_none hbl.out).mono ?_
  rintro e w1 ⟨rfl, rfl⟩
  go_wp2_with fail
  go_ret
  exact ⟨rfl, rfl⟩
/-- the two bytes that point back -/
def ptrB (v : Int) : List UInt8 := [UInt8.ofNat (192 + v.toNat / 256), UInt8.ofNat (v.toNat % 256)]
/-- what Name writes: the bytes, the fresh tails; B0 bytes stand there -/
def wrN (B0 : Nat) (f : List UInt8 → Option Int) (back : Bool) : List UInt8 → (List UInt8 → Option Int) → Nm → List UInt8 × (List UInt8 → Option Int)
  | out, fr, [] => (out ++ [0], fr)
  | out, fr, s :: r => match f (octL (s :: r)) with
    | some v => if back then (out ++ ptrB v, fr) else wrN B0 f back (out ++ UInt8.ofNat s.length :: s) fr r
    | none => wrN B0 f back (out ++ UInt8.ofNat s.length :: s) (if B0 + out.length < 16384 then fun x => if x = octL (s :: r) then some ((B0 + out.length : Nat) : Int) else fr x else fr) r
theorem or192 (v : Int) (h0 : 0 ≤ v) (h1 : v < 16384) : bits .or .u8 192 (v / 256) = 192 + v / 256 := by
  have key : ∀ n : Fin 64, bits .or .u8 192 (n.val : Int) = 192 + (n.val : Int) := by decide +kernel
  have e : v / 256 = ((v.toNat / 256 : Nat) : Int) := by omega
  rw [e]
  exact key ⟨v.toNat / 256, by omega⟩
end Go.Proofs.Ytndpebhhgicooaa
