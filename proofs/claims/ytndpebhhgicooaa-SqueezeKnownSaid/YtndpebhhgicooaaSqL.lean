/- How a name is read at a place: plain. Nothing of the program. -/
import Derived.Test.YtndpebhhgicooaaSqA
namespace Go.Proofs.Ytndpebhhgicooaa
open Go Go.RowKit
/-- the byte at a place -/
def cA (b : List UInt8) (p : Nat) : Nat := (b.getD p 0).toNat
theorem cA_get {b : List UInt8} {p : Nat} (h : p < b.length) : cA b p = (b[p]).toNat := by
  unfold cA; rw [List.getD_eq_getElem?_getD, List.getElem?_eq_getElem h]; rfl
theorem cA_lt (b : List UInt8) (p : Nat) : cA b p < 256 := (b.getD p 0).toNat_lt
/-- where a pointer points -/
def toA (b : List UInt8) (p : Nat) : Nat := 256 * (cA b p - 192) + cA b (p + 1)
/-- the label that stands at a place -/
def labA (b : List UInt8) (p : Nat) : List UInt8 := (b.take (p + 1 + cA b p)).drop (p + 1)
def rdF (b : List UInt8) (back : Bool) (p s : Nat) (nx : Int) (n : Nm) : Option (Nm × Int) :=
  if _h : p < b.length then
    if cA b p = 0 then some (n, if nx < 0 then (p : Int) + 1 else nx)
    else if 192 ≤ cA b p ∧ back = true ∧ p + 1 < b.length then
      if h2 : toA b p < s then rdF b back (toA b p) (toA b p) (if nx < 0 then (p : Int) + 2 else nx) n else none
    else if _h3 : 63 < cA b p ∨ b.length < p + 1 + cA b p then none
    else if 255 < sizeL (n ++ [labA b p]) then none
    else rdF b back (p + 1 + cA b p) s nx (n ++ [labA b p])
  else none
termination_by s * (b.length + 1) + (b.length - p)
decreasing_by
  · have := Nat.mul_le_mul_right (b.length + 1) (show toA b p + 1 ≤ s by omega)
    rw [Nat.add_mul] at this
    omega
  · omega
/-- one step of the measure -/
theorem jump_lt {L s p t : Nat} (h : t < s) (hp : p < L) : t * (L + 1) + (L - t) < s * (L + 1) + (L - p) := by
  have := Nat.mul_le_mul_right (L + 1) (show t + 1 ≤ s by omega)
  rw [Nat.add_mul] at this
  omega
theorem rd_out {b : List UInt8} {back : Bool} {p s : Nat} {nx : Int} {n : Nm} (h : b.length ≤ p) : rdF b back p s nx n = none := by
  rw [rdF, dif_neg (by omega)]
theorem rd_stop {b : List UInt8} {back : Bool} {p s : Nat} {nx : Int} {n : Nm} (h : p < b.length) (h0 : cA b p = 0) : rdF b back p s nx n = some (n, if nx < 0 then (p : Int) + 1 else nx) := by
  rw [rdF, dif_pos h, if_pos h0]
theorem rd_far {b : List UInt8} {back : Bool} {p s : Nat} {nx : Int} {n : Nm} (h : p < b.length) (hc : 192 ≤ cA b p) (hb : back = true) (h1 : p + 1 < b.length) (hs : s ≤ toA b p) : rdF b back p s nx n = none := by
  rw [rdF, dif_pos h, if_neg (by omega), if_pos ⟨hc, hb, h1⟩, dif_neg (by omega)]
theorem rd_jump {b : List UInt8} {back : Bool} {p s : Nat} {nx : Int} {n : Nm} (h : p < b.length) (hc : 192 ≤ cA b p) (hb : back = true) (h1 : p + 1 < b.length) (hs : toA b p < s) :
    rdF b back p s nx n = rdF b back (toA b p) (toA b p) (if nx < 0 then (p : Int) + 2 else nx) n := by
  rw [rdF, dif_pos h, if_neg (by omega), if_pos ⟨hc, hb, h1⟩, dif_pos hs]
theorem rd_bad {b : List UInt8} {back : Bool} {p s : Nat} {nx : Int} {n : Nm} (h : p < b.length) (h0 : cA b p ≠ 0) (hp : ¬ (192 ≤ cA b p ∧ back = true ∧ p + 1 < b.length)) (hx : 63 < cA b p ∨ b.length < p + 1 + cA b p) : rdF b back p s nx n = none := by
  rw [rdF, dif_pos h, if_neg h0, if_neg hp, dif_pos hx]
theorem rd_long {b : List UInt8} {back : Bool} {p s : Nat} {nx : Int} {n : Nm} (h : p < b.length) (h0 : cA b p ≠ 0) (hx : ¬ (63 < cA b p ∨ b.length < p + 1 + cA b p)) (hl : 255 < sizeL (n ++ [labA b p])) : rdF b back p s nx n = none := by
  rw [rdF, dif_pos h, if_neg h0, if_neg (by omega), dif_neg hx, if_pos hl]
theorem rd_label {b : List UInt8} {back : Bool} {p s : Nat} {nx : Int} {n : Nm} (h : p < b.length) (h0 : cA b p ≠ 0) (hx : ¬ (63 < cA b p ∨ b.length < p + 1 + cA b p)) (hl : ¬ 255 < sizeL (n ++ [labA b p])) :
    rdF b back p s nx n = rdF b back (p + 1 + cA b p) s nx (n ++ [labA b p]) := by
  rw [rdF, dif_pos h, if_neg h0, if_neg (by omega), dif_neg hx, if_neg hl]
theorem labA_len {b : List UInt8} {p : Nat} (h : p + 1 + cA b p ≤ b.length) : (labA b p).length = cA b p := by
  unfold labA; simp; omega
theorem sizeL_app (n : Nm) (s : List UInt8) : sizeL (n ++ [s]) = sizeL n + (s.length + 1) := by
  unfold sizeL; simp; omega
/-- what reading answers -/
def Out (e : Ending) (w' : World) (base : Nat) (r : Option (Nm × Int)) : Prop := match r with
  | none => e = .returned (.tuple #[.slice none 0 0, .int .i64 0, .int .i64 8])
  | some (n, p) => ∃ v, e = .returned (.tuple #[v, .int .i64 p, .int .i64 0]) ∧ OwnT 63 w' base v n
theorem Out.bad {e : Ending} {w' : World} {base : Nat} (h : e = .returned (.tuple #[.slice none 0 0, .int .i64 0, .int .i64 8])) : Out e w' base none := h
theorem Out.ok {e : Ending} {w' : World} {base : Nat} {n : Nm} {p : Int} {v : Value} (h : e = .returned (.tuple #[v, .int .i64 p, .int .i64 0])) (ho : OwnT 63 w' base v n) : Out e w' base (some (n, p)) := ⟨v, h, ho⟩
end Go.Proofs.Ytndpebhhgicooaa
