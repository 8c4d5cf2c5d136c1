/- Parts taken over from other seats. -/
import Derived.Test.YtbpkhnnfdjihdaaRdrB
import Derived.Test.YtbpkhnnfdjihdaaKitC
namespace Go.Proofs.Ytbpkhnnfdjihdaa
open Go.RowKit
theorem own_addr {α : Type} {E : Enc α} {w : World} {base : Nat} {a : Option Addr} {n c : Nat} {l : List α} (h : Own E w base (.slice a n c) l) : ∀ b o s, a = some ⟨b, o, s⟩ → base ≤ b ∧ b < w.heap.size := by
  rintro b o s rfl
  exact h.lt b rfl
theorem own_blk {w : World} {base : Nat} {a : Option Addr} {n c : Nat} {l : List UInt8} (h : Own byteE w base (.slice a n c) l) : (a = none ∧ n = 0 ∧ c = 0) ∨ ∃ g X, a = some ⟨g, 0, none⟩ ∧ base ≤ g ∧ Blk w g 5 (0, 0) (u8s X) ∧ X.length = c ∧ n ≤ c ∧ c ≤ maxLen := by
  rcases h with ⟨e, rfl⟩ | ⟨g, cap, X, e, hb, hB, hX, hl, hm, _⟩
  · cases e; exact .inl ⟨rfl, rfl, rfl⟩
  · cases e
    rw [rowOf_byte] at hB
    exact .inr ⟨g, X, rfl, hb, hB, hX, hl, hm⟩
theorem over_own {w : World} {base : Nat} {a : Option Addr} {n c : Nat} {l : List UInt8} (h : Own byteE w base (.slice a n c) l) (hbase : base ≤ w.heap.size) : Calls Try.prog 35 #[.slice a n c] w fun e w' => e = .returned (.tuple #[]) ∧ Below base w w' := by
  rcases own_blk h with ⟨rfl, rfl, rfl⟩ | ⟨g, X, rfl, hb, hB, hX, hn, hm⟩
  · refine (over_none none).mono ?_
    rintro e w' ⟨rfl, rfl⟩
    exact ⟨rfl, Below.refl _ _⟩
  · refine (over_bytes (b := g) (o := 0) (n := n) (C1 := []) (C2 := []) (fz := (0, 0)) (X := X) (by simpa using hB) rfl hX hn (by simpa [maxLen] using hm) (fun j _ => by simp)).mono ?_
    rintro e w' ⟨rfl, _, hg⟩
    exact ⟨rfl, (Below.refl _ _).grown hg hbase (fun k hk => by cases hk; exact hb)⟩
set_option maxHeartbeats 2000000 in
set_option maxRecDepth 100000 in
theorem new_any {w : World} {a : Option Addr} {n c : Nat} {l : List UInt8} (h : Rd byteE w a n c l) (hn : n ≤ 140737488355328) :
    Calls Try.prog 22 #[.slice a n c] w fun e w' => ∃ g, e = .returned (.pointer (some ⟨g, 0, none⟩)) ∧ w.heap.size ≤ g ∧ Rdr w' w.heap.size g l 0 false ∧ Below w.heap.size w w' := by
  obtain ⟨i0, hi, hz0, hz1, hz2⟩ := info_parts Try.info5
  have hl := h.len
  have hown := Own.made byteE w #[] [] 0 rfl rfl (by simp [maxLen])
  have hsrc := (h.ext ((Below.refl _ w).alloc (Nat.le_refl _) (.cells #[] 5))).src (P := Try.prog) Try.underlying22
  have hH := Lib.hid h; clear h
  go_enter Try.func22, Try.ntmps22
  go_wp2_with (at_builtin; refine app_own (E := byteE) rfl (.tmp 3) (.tmp 4) 22 22 rfl Try.underlying22 hi hz0 hz1 hz2 rfl rfl hown rfl hsrc ?c1 ?c2 ?c3 ?_)
  case c1 => simp [maxLen]; omega
  case c2 => simp; omega
  case c3 => simp
  intro v' w2 ho hg _
  obtain ⟨a', c', rfl⟩ := ho.shape
  have hb2 := own_below ((Below.refl w.heap.size w).alloc (Nat.le_refl _) _) hg hown (by simp) (Nat.le_refl _)
  have hO := Lib.hid ho
  clear ho hg hsrc hown
  go_wp2
  go_ret
  have ho : Own byteE w2 w.heap.size (.slice a' l.length c') l := hO.out
  refine ⟨_, rfl, hb2.size, ?_, hb2.alloc hb2.size _⟩
  obtain ⟨a2, c2, e, hr⟩ := ho.rd
  cases e
  have hlt := own_addr ho
  refine ⟨_, _, ?_, hr.ext ((Below.refl _ _).alloc (Nat.le_refl _) _), hlt, Nat.zero_le _, fun e => by cases e⟩
  subst hl
  simpa using Blk.new w2 74 (0, 0) #[.slice a' l.length c', .int .i64 0, .bool false, .bool true]
end Go.Proofs.Ytbpkhnnfdjihdaa
