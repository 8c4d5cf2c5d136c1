
/- Layer 1: the reader, the program's: Take, Jump; and none, which is bad. -/
import Derived.Test.YthgnlbdolilklaaRdrB
namespace Go.Proofs.Ythgnlbdolilklaa
open Go.RowKit

theorem tkL_le (l : List UInt8) (at_ : Nat) (bad : Bool) (n : Int) : (tkL l at_ bad n).length ≤ l.length := by
  unfold tkL; split
  · simp; omega
  · simp
set_option maxHeartbeats 2000000 in
set_option maxRecDepth 100000 in
theorem rdr_Take {w : World} {lo g : Nat} {l : List UInt8} {at_ : Nat} {bad : Bool} (h : Rdr w lo g l at_ bad) (hl : l.length ≤ 140737488355328) (n : Int) :
    Calls Try.prog 43 #[.pointer (some ⟨g, 0, none⟩), .int .i64 n] w fun e w' => (∃ v, e = .returned v ∧ Own byteE w' w.heap.size v (tkL l at_ bad n)) ∧ Rdr w' lo g l (tkAt l at_ bad n) (!tk l at_ bad n) ∧ w.grownBy w' (some g) := by
  obtain ⟨i0, hi, hz0, hz1, hz2⟩ := info_parts Try.info5
  have hH := Lib.hid h; clear h
  have hle := tkL_le l at_ bad n
  go_enter Try.func43, Try.ntmps43
  go_wp2_with (go_at_call 64; refine (rdr_take hH.out hl _).mono ?_)
  rintro e w1 ⟨⟨a', m, c', rfl, hr, h1, h2⟩, hR, hg⟩
  have hRR := Lib.hid hR
  have hsrc := hr.src (P := Try.prog) Try.underlying33
  clear hr h1 h2 hR
  have hown := Own.nil byteE w1 w.heap.size
  go_wp2_with (at_builtin; refine app_own (E := byteE) rfl _ _ 33 33 rfl Try.underlying33 hi hz0 hz1 hz2 rfl rfl hown rfl hsrc ?c1 ?c2 ?c3 ?_)
  case c1 => simp [maxLen]; omega
  case c2 => simp; omega
  case c3 => exact hg.size
  intro v' w2 ho hg2 _
  obtain ⟨a2, c2, rfl⟩ := ho.shape
  go_wp2
  go_ret
  have hb2 : Below w1.heap.size w1 w2 := ⟨hg2.os, hg2.tape, hg2.output, hg2.size, fun k hk => hg2.block k hk (by simp [Value.ownBlock])⟩
  refine ⟨⟨_, rfl, by simpa using ho⟩, ?_, grown_trans hg ⟨hb2.os, hb2.tape, hb2.output, hb2.size, fun k hk _ => hb2.block k hk⟩⟩
  obtain ⟨a, c, r1, r2, r⟩ := hRR.out
  exact ⟨a, c, r1.below hb2 r1.lt, r2.ext hb2, r⟩

/-- a place that is gone to -/
def jmp (l : List UInt8) (bad : Bool) (n : Int) : Bool := !bad && decide (0 ≤ n ∧ n ≤ (l.length : Int))
def jmpAt (l : List UInt8) (bad : Bool) (n : Int) : Nat := if jmp l bad n then n.toNat else 0
end Go.Proofs.Ythgnlbdolilklaa
