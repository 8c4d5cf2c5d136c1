/- Layer 1: New, and a call beside the document's. -/
import Derived.Test.YtffdcfannnmjnaaRdrD
namespace Go.Proofs.Ytffdcfannnmjnaa
open Go.RowKit
theorem own_addr {α : Type} {E : Enc α} {w : World} {base : Nat} {a : Option Addr} {n c : Nat} {l : List α} (h : Own E w base (.slice a n c) l) : ∀ b o s, a = some ⟨b, o, s⟩ → base ≤ b ∧ b < w.heap.size := by
  rintro b o s rfl
  exact h.lt b rfl
theorem own_blk {w : World} {base : Nat} {a : Option Addr} {n c : Nat} {l : List UInt8} (h : Own byteE w base (.slice a n c) l) : (a = none ∧ n = 0 ∧ c = 0) ∨ ∃ g X, a = some ⟨g, 0, none⟩ ∧ base ≤ g ∧ Blk w g 5 (0, 0) (u8s X) ∧ X.length = c ∧ n ≤ c ∧ c ≤ maxLen := by
  rcases h with ⟨e, rfl⟩ | ⟨g, cap, X, e, hb, hB, hX, hl, hm, _⟩
  · cases e; exact .inl ⟨rfl, rfl, rfl⟩
  · cases e
    rw [rowOf_byte] at hB
    exact .inr ⟨g, X, rfl, hb, hB, hX, hl, hm⟩
theorem over_own {w : World} {base : Nat} {a : Option Addr} {n c : Nat} {l : List UInt8} (h : Own byteE w base (.slice a n c) l) (hbase : base ≤ w.heap.size) : Calls Try.prog 42 #[.slice a n c] w fun e w' => e = .returned (.tuple #[]) ∧ Below base w w' := by
  rcases own_blk h with ⟨rfl, rfl, rfl⟩ | ⟨g, X, rfl, hb, hB, hX, hn, hm⟩
  · refine (over_none none).mono ?_
    rintro e w' ⟨rfl, rfl⟩
    exact ⟨rfl, Below.refl _ _⟩
  · refine (over_bytes (b := g) (o := 0) (n := n) (C1 := []) (C2 := []) (fz := (0, 0)) (X := X) (by simpa using hB) rfl hX hn (by simpa [maxLen] using hm) (fun j _ => by simp)).mono ?_
    rintro e w' ⟨rfl, _, hg⟩
    exact ⟨rfl, (Below.refl _ _).grown hg hbase (fun k hk => by cases hk; exact hb)⟩
set_option maxHeartbeats 2000000 in
set_option maxRecDepth 100000 in
theorem new_any {w : World} {a : Option Addr} {n c : Nat} {l : List UInt8} (h : Rd byteE w a n c l) (hn : n ≤ 140737488355328) :
    Calls Try.prog 40 #[.slice a n c] w fun e w' => ∃ g, e = .returned (.pointer (some ⟨g, 0, none⟩)) ∧ w.heap.size ≤ g ∧ Rdr w' w.heap.size g l 0 false ∧ Below w.heap.size w w' := by
  obtain ⟨i0, hi, hz0, hz1, hz2⟩ := info_parts Try.info5
  have hl := h.len
  have hown := Own.made byteE w #[] [] 0 rfl rfl (by simp [maxLen])
  have hsrc := (h.ext ((Below.refl _ w).alloc (Nat.le_refl _) (.cells #[] 5))).src (P := Try.prog) Try.underlying27
  have hH := Lib.hid h; clear h
  go_enter Try.func40, Try.ntmps40
  go_wp2_with (at_builtin; refine app_own (E := byteE) rfl (.tmp 3) (.tmp 4) 27 27 rfl Try.underlying27 hi hz0 hz1 hz2 rfl rfl hown rfl hsrc ?c1 ?c2 ?c3 ?_)
  case c1 => simp [maxLen]; omega
  case c2 => simp; omega
  case c3 => simp
  intro v' w2 ho hg _
  obtain ⟨a', c', rfl⟩ := ho.shape
  have hb2 := own_below ((Below.refl w.heap.size w).alloc (Nat.le_refl _) _) hg hown (by simp) (Nat.le_refl _)
  have hO := Lib.hid ho
  clear ho hg hsrc hown
  go_wp2
  go_ret
  have ho : Own byteE w2 w.heap.size (.slice a' l.length c') l := hO.out
  refine ⟨_, rfl, hb2.size, ?_, hb2.alloc hb2.size _⟩
  obtain ⟨a2, c2, e, hr⟩ := ho.rd
  cases e
  have hlt := own_addr ho
  refine ⟨_, _, ?_, hr.ext ((Below.refl _ _).alloc (Nat.le_refl _) _), hlt, Nat.zero_le _, fun e => by cases e⟩
  subst hl
  simpa using Blk.new w2 74 (0, 0) #[.slice a' l.length c', .int .i64 0, .bool false, .bool true]

/-- both readers stand alike -/
def Two (w : World) (lo g lo' g' : Nat) (l : List UInt8) (at_ : Nat) (bad : Bool) : Prop := Rdr w lo g l at_ bad ∧ Rrd w lo' g' l at_ bad
def TwoE (w : World) (lo g lo' g' : Nat) (l : List UInt8) : Prop := ∃ at_ bad, Two w lo g lo' g' l at_ bad
structure Lie (lo g lo' g' : Nat) : Prop where
  a : lo ≤ g
  b : g < lo'
  c : lo' ≤ g'
theorem Two.same {w w' : World} {lo g lo' g' : Nat} {l : List UInt8} {at_ : Nat} {bad : Bool} (h : Two w lo g lo' g' l at_ bad) (hw : w'.heap = w.heap) : Two w' lo g lo' g' l at_ bad := ⟨h.1.same hw, h.2.same hw⟩
theorem Two.ext {w w' : World} {lo g lo' g' : Nat} {l : List UInt8} {at_ : Nat} {bad : Bool} (h : Two w lo g lo' g' l at_ bad) (L : Lie lo g lo' g') {B : Nat} (hB : g' < B) (hw : Below B w w') : Two w' lo g lo' g' l at_ bad :=
  ⟨h.1.keep (fun b _ h2 => hw.block b (by have := L.b; have := L.c; omega)) L.a, h.2.keep (fun b _ h2 => hw.block b (by omega)) L.c⟩
/-- the document's reader stays behind a call of the program's -/
theorem Two.left {w w' : World} {lo g lo' g' : Nat} {l : List UInt8} {at_ at2 : Nat} {bad bad2 : Bool} (h : Rrd w lo' g' l at_ bad) (L : Lie lo g lo' g') (_hr : Rdr w' lo g l at2 bad2) (hg : w.grownBy w' (some g)) : Rrd w' lo' g' l at_ bad :=
  h.keep (fun b h1 h2 => hg.block b (by have := h.lt; omega) (fun e => by cases e; have := L.b; omega)) L.c
theorem Two.right {w w' : World} {lo g lo' g' : Nat} {l : List UInt8} {at_ : Nat} {bad : Bool} (h : Rdr w lo g l at_ bad) (L : Lie lo g lo' g') (hg : w.grownBy w' (some g')) : Rdr w' lo g l at_ bad :=
  h.keep (fun b h1 h2 => hg.block b (by have := h.lt; omega) (fun e => by cases e; have := L.b; have := L.c; omega)) L.a
theorem Two.below {w1 w2 w3 : World} {lo g lo' g' : Nat} (L : Lie lo g lo' g') (hlt : g < w1.heap.size) (_hlt' : g' < w1.heap.size) (h1 : w1.grownBy w2 (some g)) (h2 : w2.grownBy w3 (some g')) : Below lo w1 w3 :=
  ((Below.refl lo w1).grown h1 (by have := L.a; omega) (fun k hk => by cases hk; exact L.a)).grown h2 (by have := L.a; have := h1.size; omega) (fun k hk => by cases hk; have := L.a; have := L.b; have := L.c; omega)

set_option maxHeartbeats 2000000 in
set_option maxRecDepth 100000 in
theorem rdr_left2 {w : World} {lo g : Nat} {l : List UInt8} {at_ : Nat} {bad : Bool} (h : Rdr w lo g l at_ bad) (hl : l.length ≤ 140737488355328) : Calls Try.prog 57 #[.pointer (some ⟨g, 0, none⟩)] w fun e w' => e = .returned (.int .i64 (if bad then 0 else (l.length : Int) - at_)) ∧ ∃ k, w' = w.drewN k := by
  have h0 := h
  obtain ⟨a, c, h1, h2, h3, h4, h5⟩ := h
  have c0 : w.cell? ⟨g, 0, none⟩ = some (.slice a l.length c) := by rw [h1.cell]; rfl
  have c1 : w.cell? ⟨g, 1, none⟩ = some (.int .i64 at_) := by rw [h1.cell]; rfl
  have c2 : w.cell? ⟨g, 2, none⟩ = some (.bool bad) := by rw [h1.cell]; rfl
  clear h1 h2 h3 h5
  have hH := Lib.hid h0; clear h0
  cases bad with
  | true =>
    go_enter Try.func57, Try.ntmps57
    go_wp2_with (go_at_call 111; refine (rdr_none hH.out).mono ?_; rintro e w1 ⟨rfl, rfl⟩)
    go_wp2
    go_ret
    exact ⟨rfl, 0, rfl⟩
  | false =>
    go_enter Try.func57, Try.ntmps57
    go_wp2_with (go_at_call 111; refine (rdr_none hH.out).mono ?_; rintro e w1 ⟨rfl, rfl⟩)
    go_wp2_with fail
    go_quiet (fail)
    go_wp2_with fail
    go_ret
    exact ⟨rfl, _, rfl⟩


/-- the value that a call hands over -/
def askV (k n : Int) : Value := .agg #[.int .u8 k, .int .i64 n]
theorem beq_no {a b : Int} (h : a ≠ b) : (a == b) = false := by simp [h]
set_option maxHeartbeats 2000000 in
set_option maxRecDepth 100000 in
theorem asked_number {w : World} {lo g lo' g' : Nat} {l : List UInt8} {at_ : Nat} {bad : Bool} (h : Two w lo g lo' g' l at_ bad) (L : Lie lo g lo' g') (hl : l.length ≤ 140737488355328) (k n : Int) (hk : k = 0 ∨ k = 1 ∨ k = 2) :
    Calls Try.prog 43 #[.pointer (some ⟨g, 0, none⟩), .pointer (some ⟨g', 0, none⟩), askV k n] w fun e w' => e = .returned (.bool true) ∧ TwoE w' lo g lo' g' l ∧ Below lo w w' := by
  unfold askV
  have hL := Lib.hid L
  have hlt := h.1.lt
  have hlt' := h.2.lt
  have hla := L.a
  have hlb := L.b
  have hlc := L.c
  clear L
  rcases hk with rfl | rfl | rfl
  · have hT : Two (w.alloc (.cells #[.int .u8 0, .int .i64 n] 63)) lo g lo' g' l at_ bad := h.ext hL.out hlt' ((Below.refl _ w).alloc (Nat.le_refl _) _)
    have hB0 : Below lo w (w.alloc (.cells #[.int .u8 0, .int .i64 n] 63)) := (Below.refl _ w).alloc (by omega) _
    have hT1 := Lib.hid hT.1
    have hT2 := Lib.hid hT.2
    have hBB := Lib.hid hB0
    clear h hT hB0
    have hn := tkN_lt l at_ bad 1 (by omega)
    go_enter Try.func43, Try.ntmps43
    go_wp2_with fail
    refine (rdr_byte hT1.out hl).mono ?_
    rintro e w2 ⟨rfl, hR, hg⟩
    have hR' := Lib.hid hR; clear hR
    have hM := Lib.hid (Two.left hT2.out hL.out hR'.out hg)
    go_wp2_with fail
    refine (rrd_Number hM.out hl 1 (by omega) (by omega) hlc).mono ?_
    rintro e w3 ⟨rfl, hR3, hg3⟩
    have hR3' := Lib.hid hR3; clear hR3
    go_wp2_with fail
    go_ret
    refine ⟨?_, ⟨_, _, Two.right hR'.out hL.out hg3, hR3'.out⟩, hBB.out.trans (Two.below hL.out (by simp; omega) (by simp; omega) hg hg3)⟩
    first | rfl | (apply ret_bool; simp; try go_num)
  · have hT : Two (w.alloc (.cells #[.int .u8 1, .int .i64 n] 63)) lo g lo' g' l at_ bad := h.ext hL.out hlt' ((Below.refl _ w).alloc (Nat.le_refl _) _)
    have hB0 : Below lo w (w.alloc (.cells #[.int .u8 1, .int .i64 n] 63)) := (Below.refl _ w).alloc (by omega) _
    have hT1 := Lib.hid hT.1
    have hT2 := Lib.hid hT.2
    have hBB := Lib.hid hB0
    clear h hT hB0
    have hn := tkN_lt l at_ bad 2 (by omega)
    go_enter Try.func43, Try.ntmps43
    go_wp2_with fail
    refine (rdr_u16 hT1.out hl).mono ?_
    rintro e w2 ⟨rfl, hR, hg⟩
    have hR' := Lib.hid hR; clear hR
    have hM := Lib.hid (Two.left hT2.out hL.out hR'.out hg)
    go_wp2_with fail
    refine (rrd_Number hM.out hl 2 (by omega) (by omega) hlc).mono ?_
    rintro e w3 ⟨rfl, hR3, hg3⟩
    have hR3' := Lib.hid hR3; clear hR3
    go_wp2_with fail
    go_ret
    refine ⟨?_, ⟨_, _, Two.right hR'.out hL.out hg3, hR3'.out⟩, hBB.out.trans (Two.below hL.out (by simp; omega) (by simp; omega) hg hg3)⟩
    first | rfl | (apply ret_bool; simp; try go_num)
  · have hT : Two (w.alloc (.cells #[.int .u8 2, .int .i64 n] 63)) lo g lo' g' l at_ bad := h.ext hL.out hlt' ((Below.refl _ w).alloc (Nat.le_refl _) _)
    have hB0 : Below lo w (w.alloc (.cells #[.int .u8 2, .int .i64 n] 63)) := (Below.refl _ w).alloc (by omega) _
    have hT1 := Lib.hid hT.1
    have hT2 := Lib.hid hT.2
    have hBB := Lib.hid hB0
    clear h hT hB0
    have hn := tkN_lt l at_ bad 4 (by omega)
    go_enter Try.func43, Try.ntmps43
    go_wp2_with fail
    refine (rdr_u32 hT1.out hl).mono ?_
    rintro e w2 ⟨rfl, hR, hg⟩
    have hR' := Lib.hid hR; clear hR
    have hM := Lib.hid (Two.left hT2.out hL.out hR'.out hg)
    go_wp2_with fail
    refine (rrd_Number hM.out hl 4 (by omega) (by omega) hlc).mono ?_
    rintro e w3 ⟨rfl, hR3, hg3⟩
    have hR3' := Lib.hid hR3; clear hR3
    go_wp2_with fail
    go_ret
    refine ⟨?_, ⟨_, _, Two.right hR'.out hL.out hg3, hR3'.out⟩, hBB.out.trans (Two.below hL.out (by simp; omega) (by simp; omega) hg hg3)⟩
    first | rfl | (apply ret_bool; simp; try go_num)
end Go.Proofs.Ytffdcfannnmjnaa
