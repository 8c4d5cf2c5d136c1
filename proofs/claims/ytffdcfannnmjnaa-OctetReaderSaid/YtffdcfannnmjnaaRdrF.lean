/- Layer 1: a call beside the document's: Take, Jump, and what is told. -/
import Derived.Test.YtffdcfannnmjnaaRdrE
namespace Go.Proofs.Ytffdcfannnmjnaa
open Go.RowKit
set_option maxHeartbeats 2000000 in
set_option maxRecDepth 100000 in
theorem asked_take {w : World} {lo g lo' g' : Nat} {l : List UInt8} {at_ : Nat} {bad : Bool} (h : Two w lo g lo' g' l at_ bad) (L : Lie lo g lo' g') (hl : l.length ≤ 140737488355328) (n : Int) :
    Calls Try.prog 43 #[.pointer (some ⟨g, 0, none⟩), .pointer (some ⟨g', 0, none⟩), askV 3 n] w fun e w' => e = .returned (.bool true) ∧ TwoE w' lo g lo' g' l ∧ Below lo w w' := by
  unfold askV
  have hL := Lib.hid L
  have hlt := h.1.lt
  have hlt' := h.2.lt
  have hla := L.a
  have hlb := L.b
  have hlc := L.c
  clear L
  have hT : Two (w.alloc (.cells #[.int .u8 3, .int .i64 n] 63)) lo g lo' g' l at_ bad := h.ext hL.out hlt' ((Below.refl _ w).alloc (Nat.le_refl _) _)
  have hB0 : Below lo w (w.alloc (.cells #[.int .u8 3, .int .i64 n] 63)) := (Below.refl _ w).alloc (by omega) _
  have hT1 := Lib.hid hT.1
  have hT2 := Lib.hid hT.2
  have hBB := Lib.hid hB0
  clear h hT hB0
  go_enter Try.func43, Try.ntmps43
  go_wp2_with fail
  have hnew : Blk (w.alloc (.cells #[.int .u8 3, .int .i64 n] 63)) w.heap.size 63 (0, 0) [.int .u8 3, .int .i64 n] := by simpa using Blk.new w 63 (0, 0) #[.int .u8 3, .int .i64 n]
  generalize hW : w.alloc (.cells #[.int .u8 3, .int .i64 n] 63) = w1 at *
  have hs1 : w1.heap.size = w.heap.size + 1 := by rw [← hW]; simp
  clear hW
  refine (rdr_Take hT1.out hl n).mono ?_
  rintro e w2 ⟨⟨v, rfl, hO⟩, hR, hg⟩
  have hb2 : Blk w2 w.heap.size 63 (0, 0) [.int .u8 3, .int .i64 n] := (hg.block _ (by omega) (fun e => by cases e; omega)).trans hnew
  have c1 : w2.cell? ⟨w.heap.size, 1, none⟩ = some (.int .i64 n) := by rw [hb2.cell]; rfl
  have hR' := Lib.hid hR; clear hR
  have hM := Lib.hid (Two.left hT2.out hL.out hR'.out hg)
  have hO' := Lib.hid hO
  obtain ⟨a, c, rfl, hrd⟩ := hO.rd
  have hrd' := Lib.hid hrd
  clear hO hrd hb2 hnew
  have hsz2 := hg.size
  go_wp2_with fail
  refine (rrd_Take hM.out hl n hlc).mono ?_
  rintro e w3 ⟨⟨v, rfl, hO3⟩, hR3, hg3⟩
  have hR3' := Lib.hid hR3; clear hR3
  obtain ⟨a3, c3, rfl, hrd3⟩ := hO3.rd
  have hrd3' := Lib.hid hrd3
  clear hO3 hrd3
  -- what the program took stands still behind the document's call
  have hO4 : Own byteE w3 w1.heap.size (.slice a (tkL l at_ bad n).length c) (tkL l at_ bad n) := hO'.out.keep fun k hk => hg3.block k (hO'.out.lt k hk).2 (fun e => by cases e; have := (hO'.out.lt _ hk).1; omega)
  obtain ⟨a4, c4, e4, hrd4⟩ := hO4.rd
  cases e4
  have hrd4' := Lib.hid hrd4
  have hO4' := Lib.hid hO4
  clear hrd4 hO4
  go_wp2_with fail
  refine (same_bytes hrd4'.out hrd3'.out).mono ?_
  rintro e w4 ⟨rfl, rfl⟩
  go_wp2_with fail
  have hsz3 := hg3.size
  refine (over_own hO4'.out (by omega)).mono ?_
  rintro e w5 ⟨rfl, hb5⟩
  have hb5' := Lib.hid hb5; clear hb5
  have hE : Hid (Two w5 lo g lo' g' l (tkAt l at_ bad n) (!tk l at_ bad n)) := Two.ext ⟨Two.right hR'.out hL.out hg3, hR3'.out⟩ hL.out (B := w1.heap.size) (by omega) hb5'.out
  go_wp2_with fail
  go_ret
  refine ⟨?_, ⟨_, _, hE.out⟩, (hBB.out.trans (Two.below hL.out (by omega) (by omega) hg hg3)).trans (hb5'.out.mono (by omega))⟩
  apply ret_bool; simp

theorem Two.drewN {w : World} {lo g lo' g' : Nat} {l : List UInt8} {at_ : Nat} {bad : Bool} (h : Two w lo g lo' g' l at_ bad) (k : Nat) : Two (w.drewN k) lo g lo' g' l at_ bad := h.same rfl
/-- what the document's reader's cells hold -/
theorem Rrd.cells {w : World} {lo g : Nat} {l : List UInt8} {at_ : Nat} {bad : Bool} (h : Rrd w lo g l at_ bad) : ∃ a c, w.cell? ⟨g, 0, none⟩ = some (.slice a (if bad then 0 else l.length) c) ∧ w.cell? ⟨g, 1, none⟩ = some (.int .i64 at_) ∧ w.cell? ⟨g, 2, none⟩ = some (.bool bad) ∧ at_ ≤ l.length ∧ (bad = true → at_ = 0) := by
  obtain ⟨a, n, c, h1, h2, h3, h4, h5⟩ := h
  have hn : n = if bad then 0 else l.length := by rw [← h2.len]; cases bad <;> rfl
  subst hn
  exact ⟨a, c, by rw [h1.cell]; rfl, by rw [h1.cell]; rfl, by rw [h1.cell]; rfl, h4, h5⟩
set_option maxHeartbeats 2000000 in
set_option maxRecDepth 100000 in
theorem asked_tell {w : World} {lo g lo' g' : Nat} {l : List UInt8} {at_ : Nat} {bad : Bool} (h : Two w lo g lo' g' l at_ bad) (L : Lie lo g lo' g') (hl : l.length ≤ 140737488355328) (k n : Int) (h0 : k ≠ 0) (h1 : k ≠ 1) (h2 : k ≠ 2) (h3 : k ≠ 3) (h4 : k ≠ 4) :
    Calls Try.prog 43 #[.pointer (some ⟨g, 0, none⟩), .pointer (some ⟨g', 0, none⟩), askV k n] w fun e w' => e = .returned (.bool true) ∧ TwoE w' lo g lo' g' l ∧ Below lo w w' := by
  unfold askV
  have hL := Lib.hid L
  have hlt := h.1.lt
  have hlt' := h.2.lt
  have hla := L.a
  have hlb := L.b
  have hlc := L.c
  clear L
  have hT : Two (w.alloc (.cells #[.int .u8 k, .int .i64 n] 63)) lo g lo' g' l at_ bad := h.ext hL.out hlt' ((Below.refl _ w).alloc (Nat.le_refl _) _)
  have hB0 : Below lo w (w.alloc (.cells #[.int .u8 k, .int .i64 n] 63)) := (Below.refl _ w).alloc (by omega) _
  have hTT := Lib.hid hT
  have hBB := Lib.hid hB0
  have e0 := beq_no h0
  have e1 := beq_no h1
  have e2 := beq_no h2
  have e3 := beq_no h3
  have e4 := beq_no h4
  obtain ⟨am, cm, m0, m1, m2, hat, hbad⟩ := hTT.out.2.cells
  have hbd := Lib.hid hbad
  clear h hT hB0 hbad
  cases bad with
  | false =>
    simp only [Bool.false_eq_true, if_false] at m0
    have ew : IntKind.i64.wrap ((l.length : Int) - (at_ : Int)) = (l.length : Int) - (at_ : Int) := IntWalk.i64_in _ (by omega)
    go_enter Try.func43, Try.ntmps43
    go_wp2_with fail
    go_quiet (first | (go_at_call 56; exact Calls.quiet_of_same ((rdr_at (hTT.out.drewN _).1).mono fun _ _ h => ⟨h.1, h.2.symm⟩)) | (go_at_call 57; exact Calls.quiet_of (rdr_left2 (hTT.out.drewN _).1 hl)) | (go_at_call 58; exact Calls.quiet_of_same ((rdr_bad (hTT.out.drewN _).1).mono fun _ _ h => ⟨h.1, h.2.symm⟩)))
    go_wp2_with fail
    go_ret
    refine ⟨?_, ⟨_, _, hTT.out.drewN _⟩, below_drewN hBB.out _⟩
    first | rfl | (apply ret_bool; simp)
  | true =>
    simp only [if_true] at m0
    have ha : at_ = 0 := hbd.out rfl
    subst ha
    go_enter Try.func43, Try.ntmps43
    go_wp2_with fail
    go_quiet (first | (go_at_call 56; exact Calls.quiet_of_same ((rdr_at (hTT.out.drewN _).1).mono fun _ _ h => ⟨h.1, h.2.symm⟩)) | (go_at_call 57; exact Calls.quiet_of (rdr_left2 (hTT.out.drewN _).1 hl)) | (go_at_call 58; exact Calls.quiet_of_same ((rdr_bad (hTT.out.drewN _).1).mono fun _ _ h => ⟨h.1, h.2.symm⟩)))
    go_wp2_with fail
    go_ret
    refine ⟨?_, ⟨_, _, hTT.out.drewN _⟩, below_drewN hBB.out _⟩
    first | rfl | (apply ret_bool; simp)

set_option maxHeartbeats 4000000 in
set_option maxRecDepth 100000 in
theorem asked_jump {w : World} {lo g lo' g' : Nat} {l : List UInt8} {at_ : Nat} {bad : Bool} (h : Two w lo g lo' g' l at_ bad) (L : Lie lo g lo' g') (hl : l.length ≤ 140737488355328) (n : Int) :
    Calls Try.prog 43 #[.pointer (some ⟨g, 0, none⟩), .pointer (some ⟨g', 0, none⟩), askV 4 n] w fun e w' => e = .returned (.bool true) ∧ TwoE w' lo g lo' g' l ∧ Below lo w w' := by
  unfold askV
  have hL := Lib.hid L
  have hlt := h.1.lt
  have hlt' := h.2.lt
  have hla := L.a
  have hlb := L.b
  have hlc := L.c
  clear L
  have hT : Two (w.alloc (.cells #[.int .u8 4, .int .i64 n] 63)) lo g lo' g' l at_ bad := h.ext hL.out hlt' ((Below.refl _ w).alloc (Nat.le_refl _) _)
  have hB0 : Below lo w (w.alloc (.cells #[.int .u8 4, .int .i64 n] 63)) := (Below.refl _ w).alloc (by omega) _
  have hT1 := Lib.hid hT.1
  have hT2 := Lib.hid hT.2
  have hBB := Lib.hid hB0
  clear h hT hB0
  go_enter Try.func43, Try.ntmps43
  go_wp2_with fail
  have hnew : Blk (w.alloc (.cells #[.int .u8 4, .int .i64 n] 63)) w.heap.size 63 (0, 0) [.int .u8 4, .int .i64 n] := by simpa using Blk.new w 63 (0, 0) #[.int .u8 4, .int .i64 n]
  generalize hW : w.alloc (.cells #[.int .u8 4, .int .i64 n] 63) = w1 at *
  have hs1 : w1.heap.size = w.heap.size + 1 := by rw [← hW]; simp
  clear hW
  refine (rdr_Jump hT1.out hl n).mono ?_
  rintro e w2 ⟨rfl, hR, hg⟩
  have hb2 : Blk w2 w.heap.size 63 (0, 0) [.int .u8 4, .int .i64 n] := (hg.block _ (by omega) (fun e => by cases e; omega)).trans hnew
  have c1 : w2.cell? ⟨w.heap.size, 1, none⟩ = some (.int .i64 n) := by rw [hb2.cell]; rfl
  have hR' := Lib.hid hR; clear hR
  have hM := Lib.hid (Two.left hT2.out hL.out hR'.out hg)
  clear hb2 hnew
  have hsz2 := hg.size
  go_wp2_with fail
  refine (rrd_Jump hM.out n).mono ?_
  rintro e w3 ⟨rfl, hR3, hg3⟩
  have hTT : Hid (Two w3 lo g lo' g' l (jmpAt l bad n) (!jmp l bad n)) := ⟨Two.right hR'.out hL.out hg3, hR3⟩
  have hbelow := Lib.hid (hBB.out.trans (Two.below hL.out (by omega) (by omega) hg hg3))
  clear hR3 hR' hM hT1 hT2 hg hg3 hBB c1
  generalize jmpAt l bad n = p at hTT
  generalize (!jmp l bad n) = q at hTT
  obtain ⟨am, cm, m0, m1, m2, hat, hbad⟩ := hTT.out.2.cells
  have hbd := Lib.hid hbad
  clear hbad
  cases q with
  | false =>
    simp only [Bool.false_eq_true, if_false] at m0
    have ew : IntKind.i64.wrap ((l.length : Int) - (p : Int)) = (l.length : Int) - (p : Int) := IntWalk.i64_in _ (by omega)
    go_wp2_with fail
    go_quiet (first | (go_at_call 56; exact Calls.quiet_of_same ((rdr_at (hTT.out.drewN _).1).mono fun _ _ h => ⟨h.1, h.2.symm⟩)) | (go_at_call 57; exact Calls.quiet_of (rdr_left2 (hTT.out.drewN _).1 hl)) | (go_at_call 58; exact Calls.quiet_of_same ((rdr_bad (hTT.out.drewN _).1).mono fun _ _ h => ⟨h.1, h.2.symm⟩)))
    go_wp2_with fail
    go_ret
    refine ⟨?_, ⟨_, _, hTT.out.drewN _⟩, below_drewN hbelow.out _⟩
    first | rfl | (apply ret_bool; simp)
  | true =>
    simp only [if_true] at m0
    have ha : p = 0 := hbd.out rfl
    subst ha
    go_wp2_with fail
    go_quiet (first | (go_at_call 56; exact Calls.quiet_of_same ((rdr_at (hTT.out.drewN _).1).mono fun _ _ h => ⟨h.1, h.2.symm⟩)) | (go_at_call 57; exact Calls.quiet_of (rdr_left2 (hTT.out.drewN _).1 hl)) | (go_at_call 58; exact Calls.quiet_of_same ((rdr_bad (hTT.out.drewN _).1).mono fun _ _ h => ⟨h.1, h.2.symm⟩)))
    go_wp2_with fail
    go_ret
    refine ⟨?_, ⟨_, _, hTT.out.drewN _⟩, below_drewN hbelow.out _⟩
    first | rfl | (apply ret_bool; simp)

theorem asked_any {w : World} {lo g lo' g' : Nat} {l : List UInt8} (h : TwoE w lo g lo' g' l) (L : Lie lo g lo' g') (hl : l.length ≤ 140737488355328) (k n : Int) :
    Calls Try.prog 43 #[.pointer (some ⟨g, 0, none⟩), .pointer (some ⟨g', 0, none⟩), askV k n] w fun e w' => e = .returned (.bool true) ∧ TwoE w' lo g lo' g' l ∧ Below lo w w' := by
  obtain ⟨at_, bad, h⟩ := h
  by_cases h3 : k = 3
  · subst h3; exact asked_take h L hl n
  · by_cases h4 : k = 4
    · subst h4; exact asked_jump h L hl n
    · by_cases hs : k = 0 ∨ k = 1 ∨ k = 2
      · exact asked_number h L hl k n hs
      · exact asked_tell h L hl k n (by omega) (by omega) (by omega) h3 h4
end Go.Proofs.Ytffdcfannnmjnaa
