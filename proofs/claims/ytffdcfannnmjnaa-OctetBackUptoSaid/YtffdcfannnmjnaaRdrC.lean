/- Layer 1: the reader, the program's: Take, Jump; and none, which is bad. -/
import Derived.Test.YtffdcfannnmjnaaRdrB
namespace Go.Proofs.Ytffdcfannnmjnaa
open Go.RowKit

theorem tkL_le (l : List UInt8) (at_ : Nat) (bad : Bool) (n : Int) : (tkL l at_ bad n).length ≤ l.length := by
  unfold tkL; split
  · simp; omega
  · simp
set_option maxHeartbeats 2000000 in
set_option maxRecDepth 100000 in
theorem rdr_Take {w : World} {lo g : Nat} {l : List UInt8} {at_ : Nat} {bad : Bool} (h : Rdr w lo g l at_ bad) (hl : l.length ≤ 140737488355328) (n : Int) :
    Calls Try.prog 55 #[.pointer (some ⟨g, 0, none⟩), .int .i64 n] w fun e w' => (∃ v, e = .returned v ∧ Own byteE w' w.heap.size v (tkL l at_ bad n)) ∧ Rdr w' lo g l (tkAt l at_ bad n) (!tk l at_ bad n) ∧ w.grownBy w' (some g) := by
  obtain ⟨i0, hi, hz0, hz1, hz2⟩ := info_parts Try.info5
  have hH := Lib.hid h; clear h
  have hle := tkL_le l at_ bad n
  go_enter Try.func55, Try.ntmps55
  go_wp2_with (go_at_call 113; refine (rdr_take hH.out hl _).mono ?_)
  rintro e w1 ⟨⟨a', m, c', rfl, hr, h1, h2⟩, hR, hg⟩
  have hRR := Lib.hid hR
  have hsrc := hr.src (P := Try.prog) Try.underlying27
  clear hr h1 h2 hR
  have hown := Own.nil byteE w1 w.heap.size
  go_wp2_with (at_builtin; refine app_own (E := byteE) rfl _ _ 27 27 rfl Try.underlying27 hi hz0 hz1 hz2 rfl rfl hown rfl hsrc ?c1 ?c2 ?c3 ?_)
  case c1 => simp [maxLen]; omega
  case c2 => simp; omega
  case c3 => exact hg.size
  intro v' w2 ho hg2 _
  obtain ⟨a2, c2, rfl⟩ := ho.shape
  go_wp2
  go_ret
  have hb2 : Below w1.heap.size w1 w2 := ⟨hg2.os, hg2.tape, hg2.output, hg2.size, fun k hk => hg2.block k hk (by simp [Value.ownBlock])⟩
  refine ⟨⟨_, rfl, by simpa using ho⟩, ?_, grown_trans hg ⟨hb2.os, hb2.tape, hb2.output, hb2.size, fun k hk _ => hb2.block k hk⟩⟩
  obtain ⟨a, c, r1, r2, r⟩ := hRR.out
  exact ⟨a, c, r1.below hb2 r1.lt, r2.ext hb2, r⟩

/-- a place that is gone to -/
def jmp (l : List UInt8) (bad : Bool) (n : Int) : Bool := !bad && decide (0 ≤ n ∧ n ≤ (l.length : Int))
def jmpAt (l : List UInt8) (bad : Bool) (n : Int) : Nat := if jmp l bad n then n.toNat else 0
set_option maxHeartbeats 2000000 in
set_option maxRecDepth 100000 in
theorem rdr_Jump {w : World} {lo g : Nat} {l : List UInt8} {at_ : Nat} {bad : Bool} (h : Rdr w lo g l at_ bad) (_hl : l.length ≤ 140737488355328) (n : Int) :
    Calls Try.prog 51 #[.pointer (some ⟨g, 0, none⟩), .int .i64 n] w fun e w' => e = .returned (.tuple #[]) ∧ Rdr w' lo g l (jmpAt l bad n) (!jmp l bad n) ∧ w.grownBy w' (some g) := by
  have h0 := h
  obtain ⟨a, c, h1, h2, h3, h4, h5⟩ := h
  have c0 : w.cell? ⟨g, 0, none⟩ = some (.slice a l.length c) := by rw [h1.cell]; rfl
  have c1 : w.cell? ⟨g, 1, none⟩ = some (.int .i64 at_) := by rw [h1.cell]; rfl
  have c2 : w.cell? ⟨g, 2, none⟩ = some (.bool bad) := by rw [h1.cell]; rfl
  have f1 : w.frozen? ⟨g, 1, none⟩ = false := by rw [h1.frozen]; simp
  have f2 : w.frozen? ⟨g, 2, none⟩ = false := by rw [h1.frozen]; simp
  clear h1 h2 h3
  have hb := Lib.hid h5; clear h5
  have hH := Lib.hid h0; clear h0
  cases bad with
  | true =>
    have : at_ = 0 := hb.out rfl
    subst this
    go_enter Try.func51, Try.ntmps51
    go_wp2_with (go_at_call 111; refine (rdr_none hH.out).mono ?_; rintro e w1 ⟨rfl, rfl⟩)
    go_wp2
    ((try simp only [Exit.inBlock, Exit.then]); refine bodyPost_ret (results_none rfl _ _ _) rfl ?_)
    exact ⟨rfl, by simpa [jmpAt, jmp] using hH.out, grown_refl _ _⟩
  | false =>
    by_cases hn : n < 0
    · have hj : jmp l false n = false := by unfold jmp; simp; omega
      have hJ := Lib.hid hj; clear hj
      go_enter Try.func51, Try.ntmps51
      go_wp2_with (go_at_call 111; refine (rdr_none hH.out).mono ?_; rintro e w1 ⟨rfl, rfl⟩)
      go_wp2_with fail
      first | ((try simp only [Exit.inBlock, Exit.then]); refine bodyPost_ret (results_none rfl _ _ _) rfl ?_) | go_end0
      exact ⟨rfl, by simp only [jmpAt, hJ.out]; exact hH.out.bad, grown_trans (grown_set _ _ _ _) (grown_set _ _ _ _)⟩
    · by_cases hn2 : (l.length : Int) < n
      · have hj : jmp l false n = false := by unfold jmp; simp; omega
        have hJ := Lib.hid hj; clear hj
        go_enter Try.func51, Try.ntmps51
        go_wp2_with (go_at_call 111; refine (rdr_none hH.out).mono ?_; rintro e w1 ⟨rfl, rfl⟩)
        go_wp2_with fail
        first | ((try simp only [Exit.inBlock, Exit.then]); refine bodyPost_ret (results_none rfl _ _ _) rfl ?_) | go_end0
        exact ⟨rfl, by simp only [jmpAt, hJ.out]; exact hH.out.bad, grown_trans (grown_set _ _ _ _) (grown_set _ _ _ _)⟩
      · have hj : jmp l false n = true := by unfold jmp; simp; omega
        have hJ := Lib.hid hj; clear hj
        obtain ⟨k, rfl⟩ : ∃ k : Nat, n = k := ⟨n.toNat, by omega⟩
        have hput := Lib.hid (hH.out.put k (by omega) rfl)
        go_enter Try.func51, Try.ntmps51
        go_wp2_with (go_at_call 111; refine (rdr_none hH.out).mono ?_; rintro e w1 ⟨rfl, rfl⟩)
        go_wp2_with fail
        first | ((try simp only [Exit.inBlock, Exit.then]); refine bodyPost_ret (results_none rfl _ _ _) rfl ?_) | go_end0
        exact ⟨rfl, by simp only [jmpAt, hJ.out]; exact hput.out, grown_set _ _ _ _⟩
end Go.Proofs.Ytffdcfannnmjnaa
