
/- Layer 1: New, and a call beside the document's. -/
import Derived.Test.YthgnlbdolilklaaRdrC
namespace Go.Proofs.Ythgnlbdolilklaa
open Go.RowKit
theorem own_addr {α : Type} {E : Enc α} {w : World} {base : Nat} {a : Option Addr} {n c : Nat} {l : List α} (h : Own E w base (.slice a n c) l) : ∀ b o s, a = some ⟨b, o, s⟩ → base ≤ b ∧ b < w.heap.size := by
  rintro b o s rfl
  exact h.lt b rfl
theorem own_blk {w : World} {base : Nat} {a : Option Addr} {n c : Nat} {l : List UInt8} (h : Own byteE w base (.slice a n c) l) : (a = none ∧ n = 0 ∧ c = 0) ∨ ∃ g X, a = some ⟨g, 0, none⟩ ∧ base ≤ g ∧ Blk w g 5 (0, 0) (u8s X) ∧ X.length = c ∧ n ≤ c ∧ c ≤ maxLen := by
  rcases h with ⟨e, rfl⟩ | ⟨g, cap, X, e, hb, hB, hX, hl, hm, _⟩
  · cases e; exact .inl ⟨rfl, rfl, rfl⟩
  · cases e
    rw [rowOf_byte] at hB
    exact .inr ⟨g, X, rfl, hb, hB, hX, hl, hm⟩
theorem over_own {w : World} {base : Nat} {a : Option Addr} {n c : Nat} {l : List UInt8} (h : Own byteE w base (.slice a n c) l) (hbase : base ≤ w.heap.size) : Calls Try.prog 46 #[.slice a n c] w fun e w' => e = .returned (.tuple #[]) ∧ Below base w w' := by
  rcases own_blk h with ⟨rfl, rfl, rfl⟩ | ⟨g, X, rfl, hb, hB, hX, hn, hm⟩
  · refine (over_none none).mono ?_
    rintro e w' ⟨rfl, rfl⟩
    exact ⟨rfl, Below.refl _ _⟩
  · refine (over_bytes (b := g) (o := 0) (n := n) (C1 := []) (C2 := []) (fz := (0, 0)) (X := X) (by simpa using hB) rfl hX hn (by simpa [maxLen] using hm) (fun j _ => by simp)).mono ?_
    rintro e w' ⟨rfl, _, hg⟩
    exact ⟨rfl, (Below.refl _ _).grown hg hbase (fun k hk => by cases hk; exact hb)⟩
set_option maxHeartbeats 2000000 in
set_option maxRecDepth 100000 in
theorem new_any {w : World} {a : Option Addr} {n c : Nat} {l : List UInt8} (h : Rd byteE w a n c l) (hn : n ≤ 140737488355328) :
    Calls Try.prog 39 #[.slice a n c] w fun e w' => ∃ g, e = .returned (.pointer (some ⟨g, 0, none⟩)) ∧ w.heap.size ≤ g ∧ Rdr w' w.heap.size g l 0 false ∧ Below w.heap.size w w' := by
  obtain ⟨i0, hi, hz0, hz1, hz2⟩ := info_parts Try.info5
  have hl := h.len
  have hown := Own.made byteE w #[] [] 0 rfl rfl (by simp [maxLen])
  have hsrc := (h.ext ((Below.refl _ w).alloc (Nat.le_refl _) (.cells #[] 5))).src (P := Try.prog) Try.underlying33
  have hH := Lib.hid h; clear h
  go_enter Try.func39, Try.ntmps39
  go_wp2_with (at_builtin; refine app_own (E := byteE) rfl (.tmp 3) (.tmp 4) 33 33 rfl Try.underlying33 hi hz0 hz1 hz2 rfl rfl hown rfl hsrc ?c1 ?c2 ?c3 ?_)
  case c1 => simp [maxLen]; omega
  case c2 => simp; omega
  case c3 => simp
  intro v' w2 ho hg _
  obtain ⟨a', c', rfl⟩ := ho.shape
  have hb2 := own_below ((Below.refl w.heap.size w).alloc (Nat.le_refl _) _) hg hown (by simp) (Nat.le_refl _)
  have hO := Lib.hid ho
  clear ho hg hsrc hown
  go_wp2
  go_ret
  have ho : Own byteE w2 w.heap.size (.slice a' l.length c') l := hO.out
  refine ⟨_, rfl, hb2.size, ?_, hb2.alloc hb2.size _⟩
  obtain ⟨a2, c2, e, hr⟩ := ho.rd
  cases e
  have hlt := own_addr ho
  refine ⟨_, _, ?_, hr.ext ((Below.refl _ _).alloc (Nat.le_refl _) _), hlt, Nat.zero_le _, fun e => by cases e⟩
  subst hl
  simpa using Blk.new w2 102 (0, 0) #[.slice a' l.length c', .int .i64 0, .bool false, .bool true]

set_option maxHeartbeats 2000000 in
set_option maxRecDepth 100000 in
theorem rdr_left2 {w : World} {lo g : Nat} {l : List UInt8} {at_ : Nat} {bad : Bool} (h : Rdr w lo g l at_ bad) (hl : l.length ≤ 140737488355328) : Calls Try.prog 41 #[.pointer (some ⟨g, 0, none⟩)] w fun e w' => e = .returned (.int .i64 (if bad then 0 else (l.length : Int) - at_)) ∧ ∃ k, w' = w.drewN k := by
  have h0 := h
  obtain ⟨a, c, h1, h2, h3, h4, h5⟩ := h
  have c0 : w.cell? ⟨g, 0, none⟩ = some (.slice a l.length c) := by rw [h1.cell]; rfl
  have c1 : w.cell? ⟨g, 1, none⟩ = some (.int .i64 at_) := by rw [h1.cell]; rfl
  have c2 : w.cell? ⟨g, 2, none⟩ = some (.bool bad) := by rw [h1.cell]; rfl
  clear h1 h2 h3 h5
  have hH := Lib.hid h0; clear h0
  cases bad with
  | true =>
    go_enter Try.func41, Try.ntmps41
    go_wp2_with (go_at_call 62; refine (rdr_none hH.out).mono ?_; rintro e w1 ⟨rfl, rfl⟩)
    go_wp2
    go_ret
    exact ⟨rfl, 0, rfl⟩
  | false =>
    go_enter Try.func41, Try.ntmps41
    go_wp2_with (go_at_call 62; refine (rdr_none hH.out).mono ?_; rintro e w1 ⟨rfl, rfl⟩)
    go_wp2_with fail
    go_quiet (fail)
    go_wp2_with fail
    go_ret
    exact ⟨rfl, _, rfl⟩


end Go.Proofs.Ythgnlbdolilklaa
