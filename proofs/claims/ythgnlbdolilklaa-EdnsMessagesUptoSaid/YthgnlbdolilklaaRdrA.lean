/- Layer 1: the reader, the program's. Texts of at most 2^47 bytes. -/
import Derived.Test.YthgnlbdolilklaaJn3
import Derived.WalkSmall
import Derived.BigQuiet
import Derived.Deep.QuietTactic
namespace Go.Proofs.Ythgnlbdolilklaa
open Go.RowKit

/-- block g is a reader of l at 'at_'; what it reads lies in blocks from lo on, below g -/
def Rdr (w : World) (lo g : Nat) (l : List UInt8) (at_ : Nat) (bad : Bool) : Prop :=
  ∃ a c, Blk w g 102 (0, 0) [.slice a l.length c, .int .i64 at_, .bool bad, .bool true] ∧ Rd byteE w a l.length c l ∧ (∀ b o s, a = some ⟨b, o, s⟩ → lo ≤ b ∧ b < g) ∧ at_ ≤ l.length ∧ (bad = true → at_ = 0)
theorem Rdr.lt {w : World} {lo g : Nat} {l : List UInt8} {at_ : Nat} {bad : Bool} (h : Rdr w lo g l at_ bad) : g < w.heap.size := by obtain ⟨_, _, h, _⟩ := h; exact h.lt
theorem Rdr.keep {w w' : World} {lo g : Nat} {l : List UInt8} {at_ : Nat} {bad : Bool} (h : Rdr w lo g l at_ bad) (hk : ∀ b, lo ≤ b → b ≤ g → w'.heap[b]? = w.heap[b]?) (hlg : lo ≤ g) : Rdr w' lo g l at_ bad := by
  obtain ⟨a, c, h1, h2, h3, h4, h5⟩ := h
  exact ⟨a, c, (hk g hlg (Nat.le_refl _)).trans h1, h2.keep fun b o s e _ => hk b (h3 b o s e).1 (Nat.le_of_lt (h3 b o s e).2), h3, h4, h5⟩
theorem Rdr.put {w : World} {lo g : Nat} {l : List UInt8} {at_ : Nat} {bad : Bool} (h : Rdr w lo g l at_ bad) (p : Nat) (hp : p ≤ l.length) (hbad : bad = false) : Rdr (w.setCell ⟨g, 1, none⟩ (.int .i64 p)) lo g l p bad := by
  obtain ⟨a, c, h1, h2, h3, h4, h5⟩ := h
  refine ⟨a, c, h1.set 1 (.int .i64 p), h2.keep fun b o s e _ => Below.heap_setCell _ _ _ _ ?_, h3, hp, fun e => by rw [hbad] at e; cases e⟩
  have := (h3 b o s e).2; simp only [ne_eq]; omega
theorem Rdr.bad {w : World} {lo g : Nat} {l : List UInt8} {at_ : Nat} {bad : Bool} (h : Rdr w lo g l at_ bad) : Rdr ((w.setCell ⟨g, 2, none⟩ (.bool true)).setCell ⟨g, 1, none⟩ (.int .i64 0)) lo g l 0 true := by
  obtain ⟨a, c, h1, h2, h3, h4, h5⟩ := h
  refine ⟨a, c, (h1.set 2 (.bool true)).set 1 (.int .i64 0), (h2.keep fun b o s e _ => ?_), h3, Nat.zero_le _, fun _ => rfl⟩
  have := (h3 b o s e).2
  exact (Below.heap_setCell _ _ _ _ (by simp only [ne_eq]; omega)).trans (Below.heap_setCell _ _ _ _ (by simp only [ne_eq]; omega))
theorem grown_refl (w : World) (r : Option Nat) : w.grownBy w r := ⟨rfl, rfl, rfl, Nat.le_refl _, fun _ _ _ => rfl⟩
theorem grown_set (w : World) (g j : Nat) (v : Value) : w.grownBy (w.setCell ⟨g, j, none⟩ v) (some g) := ⟨rfl, rfl, rfl, by simp, fun k _ hk => Below.heap_setCell _ _ _ _ (fun e => hk (by rw [e]))⟩
theorem grown_trans {u v w : World} {r : Option Nat} (h : u.grownBy v r) (k : v.grownBy w r) : u.grownBy w r :=
  ⟨k.os.trans h.os, k.tape.trans h.tape, k.output.trans h.output, Nat.le_trans h.size k.size, fun i hi hne => (k.block i (Nat.lt_of_lt_of_le hi h.size) hne).trans (h.block i hi hne)⟩
theorem Rdr.drewN {w : World} {lo g : Nat} {l : List UInt8} {at_ : Nat} {bad : Bool} (h : Rdr w lo g l at_ bad) (n : Nat) : Rdr (w.drewN n) lo g l at_ bad := by
  obtain ⟨a, c, h1, h2, r⟩ := h; exact ⟨a, c, h1, h2.keep fun _ _ _ _ _ => rfl, r⟩
theorem grown_drewN {u v : World} {r : Option Nat} (n : Nat) (h : (u.drewN n).grownBy v r) : u.grownBy v r := ⟨h.os, h.tape, h.output, h.size, h.block⟩
theorem grown_of_below {u v : World} {r : Option Nat} (h : Below u.heap.size u v) : u.grownBy v r := ⟨h.os, h.tape, h.output, h.size, fun i hi _ => h.block i hi⟩

set_option maxHeartbeats 2000000 in
set_option maxRecDepth 100000 in
theorem rdr_none {w : World} {lo g : Nat} {l : List UInt8} {at_ : Nat} {bad : Bool} (h : Rdr w lo g l at_ bad) : Calls Try.prog 62 #[.pointer (some ⟨g, 0, none⟩)] w fun e w' => e = .returned (.bool false) ∧ w = w' := by
  obtain ⟨a, c, h1, h2, h3, h4, h5⟩ := h
  have c3 : w.cell? ⟨g, 3, none⟩ = some (.bool true) := by rw [h1.cell]; rfl
  clear h1 h2 h3 h4 h5
  go_enter Try.func62, Try.ntmps62
  go_wp2
  go_ret
  exact ⟨rfl, rfl⟩
set_option maxHeartbeats 2000000 in
set_option maxRecDepth 100000 in
theorem rdr_bad {w : World} {lo g : Nat} {l : List UInt8} {at_ : Nat} {bad : Bool} (h : Rdr w lo g l at_ bad) : Calls Try.prog 40 #[.pointer (some ⟨g, 0, none⟩)] w fun e w' => e = .returned (.bool bad) ∧ w = w' := by
  have h0 := h
  obtain ⟨a, c, h1, h2, h3, h4, h5⟩ := h
  have c2 : w.cell? ⟨g, 2, none⟩ = some (.bool bad) := by rw [h1.cell]; rfl
  clear h1 h2 h3 h4 h5
  have hH := Lib.hid h0; clear h0
  go_enter Try.func40, Try.ntmps40
  go_wp2_with (go_at_call 62; refine (rdr_none hH.out).mono ?_; rintro e w1 ⟨rfl, rfl⟩)
  go_wp2
  go_ret
  exact ⟨rfl, rfl⟩
set_option maxHeartbeats 2000000 in
set_option maxRecDepth 100000 in
theorem rdr_left {w : World} {lo g : Nat} {l : List UInt8} {at_ : Nat} {bad : Bool} (h : Rdr w lo g l at_ bad) (hl : l.length ≤ 140737488355328) : Calls Try.prog 41 #[.pointer (some ⟨g, 0, none⟩)] w fun e w' => e = .returned (.int .i64 (if bad then 0 else (l.length : Int) - at_)) ∧ Below w.heap.size w w' := by
  have h0 := h
  obtain ⟨a, c, h1, h2, h3, h4, h5⟩ := h
  have c0 : w.cell? ⟨g, 0, none⟩ = some (.slice a l.length c) := by rw [h1.cell]; rfl
  have c1 : w.cell? ⟨g, 1, none⟩ = some (.int .i64 at_) := by rw [h1.cell]; rfl
  have c2 : w.cell? ⟨g, 2, none⟩ = some (.bool bad) := by rw [h1.cell]; rfl
  clear h1 h2 h3 h5
  have hH := Lib.hid h0; clear h0
  cases bad with
  | true =>
    go_enter Try.func41, Try.ntmps41
    go_wp2_with (go_at_call 62; refine (rdr_none hH.out).mono ?_; rintro e w1 ⟨rfl, rfl⟩)
    go_wp2
    go_ret
    exact ⟨rfl, Below.refl _ _⟩
  | false =>
    go_enter Try.func41, Try.ntmps41
    go_wp2_with (go_at_call 62; refine (rdr_none hH.out).mono ?_; rintro e w1 ⟨rfl, rfl⟩)
    go_wp2_with fail
    go_quiet (fail)
    go_wp2_with fail
    go_ret
    exact ⟨rfl, below_drewN (Below.refl _ _) _⟩

set_option maxHeartbeats 2000000 in
set_option maxRecDepth 100000 in
theorem rdr_take_no {w : World} {lo g : Nat} {l : List UInt8} {at_ : Nat} {bad : Bool} (h : Rdr w lo g l at_ bad) (hl : l.length ≤ 140737488355328) (n : Int) (hno : bad = true ∨ n < 0 ∨ (l.length : Int) - at_ < n) :
    Calls Try.prog 64 #[.pointer (some ⟨g, 0, none⟩), .int .i64 n] w fun e w' => e = .returned (.slice none 0 0) ∧ Rdr w' lo g l 0 true ∧ w.grownBy w' (some g) := by
  have h0 := h
  obtain ⟨a, c, h1, h2, h3, h4, h5⟩ := h
  have c0 : w.cell? ⟨g, 0, none⟩ = some (.slice a l.length c) := by rw [h1.cell]; rfl
  have c1 : w.cell? ⟨g, 1, none⟩ = some (.int .i64 at_) := by rw [h1.cell]; rfl
  have c2 : w.cell? ⟨g, 2, none⟩ = some (.bool bad) := by rw [h1.cell]; rfl
  have f1 : w.frozen? ⟨g, 1, none⟩ = false := by rw [h1.frozen]; simp
  have f2 : w.frozen? ⟨g, 2, none⟩ = false := by rw [h1.frozen]; simp
  clear h1 h2 h3
  have hb := Lib.hid h5; clear h5
  have hH := Lib.hid h0; clear h0
  cases bad with
  | true =>
    clear hno
    have : at_ = 0 := hb.out rfl
    subst this
    go_enter Try.func64, Try.ntmps64
    go_wp2_with (go_at_call 62; refine (rdr_none hH.out).mono ?_; rintro e w1 ⟨rfl, rfl⟩)
    go_wp2
    go_ret
    exact ⟨rfl, hH.out, grown_refl _ _⟩
  | false =>
    have hno' : n < 0 ∨ (l.length : Int) - at_ < n := by simpa using hno
    clear hno
    have hNo := Lib.hid hno'; clear hno'
    have ew : IntKind.i64.wrap ((l.length : Int) - (at_ : Int)) = (l.length : Int) - (at_ : Int) := IntWalk.i64_in _ (by omega)
    have hdo : w.frozen? ⟨g, 1, none⟩ = false := f1
    by_cases hn : n < 0
    · go_enter Try.func64, Try.ntmps64
      go_wp2_with (go_at_call 62; refine (rdr_none hH.out).mono ?_; rintro e w1 ⟨rfl, rfl⟩)
      go_wp2_with fail
      go_quiet (fail)
      go_wp2_with fail
      go_ret
      exact ⟨rfl, (hH.out.drewN _).bad, grown_drewN _ (grown_trans (grown_set _ _ _ _) (grown_set _ _ _ _))⟩
    · have hn2 : (l.length : Int) - at_ < n := by rcases hNo.out with h | h; exact absurd h hn; exact h
      go_enter Try.func64, Try.ntmps64
      go_wp2_with (go_at_call 62; refine (rdr_none hH.out).mono ?_; rintro e w1 ⟨rfl, rfl⟩)
      go_wp2_with fail
      go_quiet (fail)
      go_wp2_with fail
      go_ret
      exact ⟨rfl, (hH.out.drewN _).bad, grown_drewN _ (grown_trans (grown_set _ _ _ _) (grown_set _ _ _ _))⟩
end Go.Proofs.Ythgnlbdolilklaa
