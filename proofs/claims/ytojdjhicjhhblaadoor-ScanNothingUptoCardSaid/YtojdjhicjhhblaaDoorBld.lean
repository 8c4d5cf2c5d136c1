/- strings.Builder, with a frame that says which blocks are kept: all below B but the builder's own. Texts of at most 2^47 bytes. -/
import Derived.Test.YtojdjhicjhhblaaDoorShelf
import Derived.Test.YtojdjhicjhhblaaDoorTypes
namespace Go.Proofs.YtojdjhicjhhblaaDoor
open Go.RowKit
/-- a builder in block b, its buffer nil or a row from B on -/
def Bld (B : Nat) (w : World) (b : Nat) (l : List UInt8) : Prop :=
  ∃ p v, (p = .pointer none ∨ p = .pointer (some ⟨b, 0, none⟩)) ∧ w.heap[b]? = some (.cells #[p, v] 49 (0, 0)) ∧ w.ownsRow B 5 1 v l.length (u8s l)
theorem Bld.new (B : Nat) (w : World) : Bld B (w.alloc (.cells #[.pointer none, .slice none 0 0] 49)) w.heap.size [] :=
  ⟨_, _, .inl rfl, Go.heap_alloc_new w _, World.ownsRow_nil _ _ _ _⟩
theorem Bld.lt {B : Nat} {w : World} {b : Nat} {l : List UInt8} (h : Bld B w b l) : b < w.heap.size := by
  obtain ⟨p, v, _, h, _⟩ := h; exact lt_of_block h
theorem Bld.ext {B : Nat} {w w' : World} {b : Nat} {l : List UInt8} (h : Bld B w b l) (hb : Below w.heap.size w w') : Bld B w' b l := by
  have := h.lt
  obtain ⟨p, v, hp, hh, hown⟩ := h
  exact ⟨p, v, hp, (hb.block b this).trans hh, ownsRow_ext hown hb⟩
/-- copyCheck: behind it the builder holds its own address -/
theorem bld_check {B : Nat} {w : World} {b : Nat} {l : List UInt8} (h : Bld B w b l) :
    Calls Tryd.prog 25 #[.pointer (some ⟨b, 0, none⟩)] w fun e w' => e = .returned (.tuple #[]) ∧ ∃ v, w'.heap[b]? = some (.cells #[.pointer (some ⟨b, 0, none⟩), v] 49 (0, 0)) ∧ w'.ownsRow B 5 1 v l.length (u8s l) ∧ Ex w.heap.size b w w' := by
  obtain ⟨p, v, hp, hh, hown⟩ := h
  have hlt : b < w.heap.size := lt_of_block hh
  have hne : v.ownBlock ≠ some b := Lib.ownBlock_ne hown hh (by decide)
  have hs : w.shape? b = some (49, 2) := by simp [World.shape?, hh]
  have hc : w.cell? ⟨b, 0, none⟩ = some p := by rw [Lib.cell_of_heap hh]; rfl
  have hf : w.frozen? ⟨b, 0, none⟩ = false := Lib.frozen_of_heap hh 0
  rcases hp with rfl | rfl
  · refine (Any.Builder_copyCheck_fresh Tryd.lays240 Tryd.Builder_X72_240 b w hc hs hf).mono ?_
    rintro e w' ⟨rfl, rfl⟩
    refine ⟨rfl, v, ?_, ownsRow_setCell_other hown hne _, (Ex.refl _ b _).setCell (p := ⟨b, 0, none⟩) (.inl rfl) _⟩
    simp [World.setCell, Array.getElem?_modify, hh]
  · refine (Any.Builder_copyCheck_used Tryd.lays240 Tryd.Builder_X72_240 b w hc).mono ?_
    rintro e w' ⟨rfl, rfl⟩
    exact ⟨rfl, v, hh, hown, Ex.refl _ _ _⟩
theorem bld_put {B : Nat} {w : World} {b : Nat} {p v v' : Value} {l : List UInt8} (hp : p = .pointer (some ⟨b, 0, none⟩)) (hh : w.heap[b]? = some (.cells #[p, v] 49 (0, 0))) (hown : w.ownsRow B 5 1 v' l.length (u8s l)) : Bld B (w.setCell ⟨b, 1, none⟩ v') b l :=
  ⟨p, v', .inr hp, by simp [World.setCell, Array.getElem?_modify, hh], ownsRow_setCell_other hown (Lib.ownBlock_ne hown hh (by decide)) _⟩

/-- blocks of other types than bytes are kept, but the builder's own -/
def KeepT (b : Nat) (w w' : World) : Prop := ∀ (k : Nat) (t : TypeId) (C : List Value), t ≠ 5 → k ≠ b → Blk w k t (0, 0) C → Blk w' k t (0, 0) C
theorem keep_ap {B b n : Nat} {v : Value} {L : List Value} {w w1 w2 : World} (hex : Ex w.heap.size b w w1) (hown : w1.ownsRow B 5 1 v n L) (hg : w1.grownBy w2 v.ownBlock) (y : Value) : KeepT b w (w2.setCell ⟨b, 1, none⟩ y) := by
  intro k t C ht hk hC
  have h1 : Blk w1 k t (0, 0) C := hex.blk hC hC.lt hk
  have hne : v.ownBlock ≠ some k := Lib.ownBlock_ne hown h1 ht
  have h2 : Blk w2 k t (0, 0) C := (hg.block k h1.lt (fun e => hne e.symm)).trans h1
  exact (Below.heap_setCell _ _ _ _ hk).trans h2

set_option maxHeartbeats 2000000 in
set_option maxRecDepth 100000 in
theorem bld_byte {B : Nat} {w : World} {b : Nat} {l : List UInt8} (c : UInt8) (h : Bld B w b l) (hlen : l.length + 1 ≤ 140737488355328) (hB : B ≤ w.heap.size) :
    Calls Tryd.prog 16 #[.pointer (some ⟨b, 0, none⟩), .int .u8 c.toNat] w fun e w' => e = .returned .nilIface ∧ Bld B w' b (l ++ [c]) ∧ Ex B b w w' ∧ KeepT b w w' := by
  go_enter Tryd.func16, Tryd.ntmps16
  go_wp2_with (go_at_call 25; refine (bld_check h).mono ?_)
  rintro e w1 ⟨rfl, v, hbk, hown, hex⟩
  have c0 : w1.cell? ⟨b, 0, none⟩ = some (.pointer (some ⟨b, 0, none⟩)) := by rw [Lib.cell_of_heap hbk]; rfl
  have c1 : w1.cell? ⟨b, 1, none⟩ = some v := by rw [Lib.cell_of_heap hbk]; rfl
  have hBl := Lib.hid hB; clear hB
  go_wp2_with (at_builtin; refine app_byte (w := w1) rfl _ _ rfl rfl c hown rfl _ rfl ?c4 ?c5 ?_)
  case c4 => omega
  case c5 => have := hex.size; have := hBl.out; omega
  intro v' w2 hown' hg
  have hne : v.ownBlock ≠ some b := Lib.ownBlock_ne hown hbk (by decide)
  have hb2 : w2.heap[b]? = some (.cells #[.pointer (some ⟨b, 0, none⟩), v] 49 (0, 0)) := (hg.block b (lt_of_block hbk) (fun e => hne e.symm)).trans hbk
  have d0 : w2.cell? ⟨b, 0, none⟩ = some (.pointer (some ⟨b, 0, none⟩)) := by rw [Lib.cell_of_heap hb2]; rfl
  have d1 : w2.cell? ⟨b, 1, none⟩ = some v := by rw [Lib.cell_of_heap hb2]; rfl
  have f1 : w2.frozen? ⟨b, 1, none⟩ = false := Lib.frozen_of_heap hb2 1
  obtain ⟨ao, cap, rfl⟩ := ownsRow_shape hown'
  go_wp2
  go_ret
  refine ⟨rfl, bld_put rfl hb2 (by simpa using hown'), ?_, keep_ap hex hown hg _⟩
  have hBw := hBl.out
  exact ((hex.mono hBw).grown hg (by have := hex.size; omega) (fun k hk => .inl (hown.lt k hk).1)).setCell (.inl rfl) _

set_option maxHeartbeats 2000000 in
set_option maxRecDepth 100000 in
theorem bld_string {B : Nat} {w : World} {b : Nat} {l : List UInt8} (s : List UInt8) (h : Bld B w b l) (hlen : l.length + s.length ≤ 140737488355328) (hB : B ≤ w.heap.size) :
    Calls Tryd.prog 17 #[.pointer (some ⟨b, 0, none⟩), .string (mk s)] w fun e w' => e = .returned (.tuple #[.int .i64 s.length, .nilIface]) ∧ Bld B w' b (l ++ s) ∧ Ex B b w w' ∧ KeepT b w w' := by
  obtain ⟨i0, hi, hz0, hz1, hz2⟩ := info_parts Tryd.info5
  go_enter Tryd.func17, Tryd.ntmps17
  go_wp2_with (go_at_call 25; refine (bld_check h).mono ?_)
  rintro e w1 ⟨rfl, v, hbk, hown, hex⟩
  have c0 : w1.cell? ⟨b, 0, none⟩ = some (.pointer (some ⟨b, 0, none⟩)) := by rw [Lib.cell_of_heap hbk]; rfl
  have c1 : w1.cell? ⟨b, 1, none⟩ = some v := by rw [Lib.cell_of_heap hbk]; rfl
  have hBl := Lib.hid hB; clear hB
  go_wp2_with (at_builtin; refine Lib.wpList_append_own_string _ rfl _ _ 47 9 rfl B 5 i0 Tryd.underlying47 Tryd.underlying9 hi hz0 hz1 hz2 _ _ _ rfl hown (mk s) rfl ?c3 ?c4 ?c5 ?_)
  case c3 => rw [size_mk]; unfold maxLen; omega
  case c4 => rw [size_mk]; omega
  case c5 => have := hex.size; have := hBl.out; omega
  intro v' w2 hown' hg _
  have hne : v.ownBlock ≠ some b := Lib.ownBlock_ne hown hbk (by decide)
  have hb2 : w2.heap[b]? = some (.cells #[.pointer (some ⟨b, 0, none⟩), v] 49 (0, 0)) := (hg.block b (lt_of_block hbk) (fun e => hne e.symm)).trans hbk
  have d0 : w2.cell? ⟨b, 0, none⟩ = some (.pointer (some ⟨b, 0, none⟩)) := by rw [Lib.cell_of_heap hb2]; rfl
  have d1 : w2.cell? ⟨b, 1, none⟩ = some v := by rw [Lib.cell_of_heap hb2]; rfl
  have f1 : w2.frozen? ⟨b, 1, none⟩ = false := Lib.frozen_of_heap hb2 1
  obtain ⟨ao, cap, rfl⟩ := ownsRow_shape hown'
  go_wp2
  go_ret2
  refine ⟨rfl, bld_put rfl hb2 (by rw [u8s_append, List.length_append]; exact hown'), ?_, keep_ap hex hown hg _⟩
  have hBw := hBl.out
  exact ((hex.mono hBw).grown hg (by have := hex.size; omega) (fun k hk => .inl (hown.lt k hk).1)).setCell (.inl rfl) _

/-- String(): the builder is done with -/
theorem bld_done {B : Nat} {w : World} {b : Nat} {l : List UInt8} (h : Bld B w b l) (hbB : b ≤ B) :
    Calls Tryd.prog 19 #[.pointer (some ⟨b, 0, none⟩)] w fun e w' => e = .returned (.string (mk l)) ∧ Below b w w' := by
  have hlt := h.lt
  obtain ⟨p, v, hp, hh, hown⟩ := h
  have hat : Lib.BuilderAt 49 5 b b p (Lib.byteCells l) w := ⟨Nat.le_refl _, v, hh, by
    have := ownsRow_mono hown hbB
    have e : (Lib.byteCells l).length = l.length := by simp [Lib.byteCells]
    rw [e]; exact this, Lib.ownBlock_ne hown hh (by decide)⟩
  have hib : Lib.IsBuilder 49 5 b b (Lib.byteCells l) w := by
    rcases hp with rfl | rfl
    · exact .inl hat
    · exact .inr hat
  exact Tryd.Builder_String_any b b l w hib (by omega)
theorem bld_len {B : Nat} {w : World} {b : Nat} {l : List UInt8} (h : Bld B w b l) (hbB : b ≤ B) :
    Calls Tryd.prog 18 #[.pointer (some ⟨b, 0, none⟩)] w fun e w' => e = .returned (.int .i64 l.length) ∧ w = w' := by
  obtain ⟨p, v, hp, hh, hown⟩ := h
  have e : (Lib.byteCells l).length = l.length := by simp [Lib.byteCells]
  have hat : Lib.BuilderAt 49 5 b b p (Lib.byteCells l) w := ⟨Nat.le_refl _, v, hh, by
    have := ownsRow_mono hown hbB
    rw [e]; exact this, Lib.ownBlock_ne hown hh (by decide)⟩
  have hib : Lib.IsBuilder 49 5 b b (Lib.byteCells l) w := by
    rcases hp with rfl | rfl
    · exact .inl hat
    · exact .inr hat
  refine (Tryd.Builder_Len b b (Lib.byteCells l) w hib).mono ?_
  rintro e2 w2 ⟨h1, h2⟩
  exact ⟨by rw [h1, e], h2.symm⟩
end Go.Proofs.YtojdjhicjhhblaaDoor
