/- A writer in memory: none 39, New 17, Bytes 28, All 19. -/
import Derived.Test.YtndpebhhgicooaaStH
import Derived.Test.YtndpebhhgicooaaSqA
import Derived.Carry
import Derived.WalkSpells
namespace Go.Proofs.Ytndpebhhgicooaa
open Go Go.RowKit Go.Maps
noncomputable def strKey (P : Program) (k : TypeId) (hk : P.underlying k = some .string) : KeyEnc (List UInt8) P k :=
  ⟨fun x => .string (mk x), fun x => .string x, fun x => x.length ≤ maxLen, string_keyed hk, fun x hx => by
    have := Go.WideMaps.keyOf_string_mk hk (s := mk x) (by simpa [size_mk] using hx)
    exact this, fun _ _ h => by cases h; rfl⟩
noncomputable def kS : KeyEnc (List UInt8) Try.prog 9 := strKey Try.prog 9 Try.underlying9
/-- block g is a writer: its bytes B, its tails f, each in a block of its own from lo on -/
structure Wr (w : World) (lo g : Nat) (B : List UInt8) (nm : Nat) (f : List UInt8 → Option Int) (a : Option Addr) (c mb : Nat) : Prop where
  blk : Blk w g 60 (0, 0) [.slice a B.length c, .map (some mb)]
  own : Own byteE w lo (.slice a B.length c) B
  map : Mp kS 3 .i64 w mb nm f
  low : lo ≤ g
  lowm : lo ≤ mb
  gm : mb ≠ g
  ga : ∀ k, (Value.slice a B.length c).ownBlock = some k → k ≠ g ∧ k ≠ mb
theorem Wr.ext {w w' : World} {lo g : Nat} {B : List UInt8} {nm : Nat} {f : List UInt8 → Option Int} {a : Option Addr} {c mb : Nat} (h : Wr w lo g B nm f a c mb) (hb : Below w.heap.size w w') : Wr w' lo g B nm f a c mb :=
  ⟨h.blk.below hb h.blk.lt, h.own.ext hb, h.map.keep (hb.block mb h.map.lt), h.low, h.lowm, h.gm, h.ga⟩
set_option maxHeartbeats 1000000 in
theorem wr_none {w : World} {g mb : Nat} {a : Option Addr} {n c : Nat} (hB : Blk w g 60 (0, 0) [.slice a n c, .map (some mb)]) :
    Calls Try.prog 39 #[.pointer (some ⟨g, 0, none⟩)] w fun e w' => e = .returned (.bool false) ∧ w = w' := by
  have c1 : w.cell? ⟨g, 1, none⟩ = some (.map (some mb)) := (hB.cell 1).trans rfl
  clear hB
  have he : (binOp .eql 58 (.map (some mb)) (.map none)).run Try.prog w = .ok (.bool false) w := run_eql_map_nil w 58 9 3 (some mb) Try.underlying58
  go_enter Try.func39, Try.ntmps39
  go_wp2_with fail
  go_ret
  exact ⟨rfl, rfl⟩
set_option maxHeartbeats 1000000 in
theorem wr_new {w : World} : Calls Try.prog 17 #[] w fun e w' => (∃ g mb, e = .returned (.pointer (some ⟨g, 0, none⟩)) ∧ Wr w' w.heap.size g [] 0 (fun _ => none) none 0 mb) ∧ Below w.heap.size w w' := by
  have hmm := @run_makeMap Try.prog
  go_enter Try.func17, Try.ntmps17
  go_wp2_with fail
  go_ret
  refine ⟨⟨w.heap.size + 1, w.heap.size, by simp, ?_, Own.nil _ _ _, ?_, by omega, by omega, by omega, fun k hk => by simp [Value.ownBlock] at hk⟩, ((Below.refl _ _).alloc (Nat.le_refl _) _).alloc (by simp) _⟩
  · simpa using Blk.new (w.alloc (.map #[] 0)) 60 (0, 0) #[.slice none 0 0, .map (some w.heap.size)]
  · exact ((Mp.made kS 3 .i64 w).keep (Below.heap_alloc _ _ _ (by simp))).eq fun _ _ => rfl
set_option maxHeartbeats 1000000 in
/-- Bytes where there is room -/
theorem wr_bytes {w : World} {lo g : Nat} {B : List UInt8} {nm : Nat} {f : List UInt8 → Option Int} {a : Option Addr} {c mb : Nat} (h : Wr w lo g B nm f a c mb) {ax : Option Addr} {n cx : Nat} {X : List UInt8} (hX : Rd byteE w ax n cx X) (hr : B.length + n ≤ 65535) (hlo : lo ≤ w.heap.size) :
    Calls Try.prog 28 #[.pointer (some ⟨g, 0, none⟩), .slice ax n cx] w fun e w' => e = .returned (.int .i64 0) ∧ (∃ a' c', Wr w' lo g (B ++ X) nm f a' c' mb) ∧ Tch (fun k => k = g ∨ (Value.slice a B.length c).ownBlock = some k) w w' := by
  have c0 : w.cell? ⟨g, 0, none⟩ = some (.slice a B.length c) := (h.blk.cell 0).trans rfl
  have hbl := Lib.hid h.blk
  have hr' : ¬ (65535 : Int) - B.length < n := by omega
  go_enter Try.func28, Try.ntmps28
  go_wp2_with fail
  refine (wr_none hbl.out).mono ?_
  rintro e w1 ⟨rfl, rfl⟩
  obtain ⟨i0, hi, hz0, hz1, hz2⟩ := info_parts Try.info5
  have hXl := hX.len
  have hsrc := Lib.hid (hX.src (P := Try.prog) Try.underlying22)
  have hO := Lib.hid h.own
  have hh := Lib.hid h
  clear h hX
  go_wp2_with (at_builtin; refine app_own (E := byteE) rfl (.tmp 20) (.tmp 21) 22 22 rfl Try.underlying22 hi hz0 hz1 hz2 rfl rfl hO.out rfl hsrc.out ?c1 ?c2 ?c3 ?_)
  case c1 => first | omega | (simp [maxLen]; omega)
  case c2 => first | omega | (simp; omega)
  case c3 => exact hlo
  intro v3 w3 h3 hg3 hv3
  obtain ⟨a', c', hv⟩ := h3.shape
  subst hv
  have hb3 : Blk w3 g 60 (0, 0) [.slice a B.length c, .map (some mb)] := (hg3.block g hbl.out.lt (fun e => (hh.out.ga g e.symm).1 rfl)).trans hbl.out
  have hne : ∀ k, (Value.slice a' (B ++ X).length c').ownBlock = some k → k ≠ g ∧ k ≠ mb := fun k hk => by
    rcases hv3 with h9 | h9
    · exact hh.out.ga k (h9.symm.trans hk)
    · have hkk : w.heap.size = k := Option.some.inj (h9.symm.trans hk)
      have := hh.out.blk.lt
      have := hh.out.map.lt
      omega
  have hWr : Wr (w3.setCell ⟨g, 0, none⟩ (.slice a' (B ++ X).length c')) lo g (B ++ X) nm f a' c' mb :=
    ⟨hb3.set 0 _, h3.keep (fun k hk => Below.heap_setCell _ _ _ _ (hne k hk).1), (hh.out.map.keep (hg3.block mb hh.out.map.lt (fun e => (hh.out.ga mb e.symm).2 rfl))).keep (Below.heap_setCell _ _ _ _ hh.out.gm), hh.out.low, hh.out.lowm, hh.out.gm, hne⟩
  have hT : Tch (fun k => k = g ∨ (Value.slice a B.length c).ownBlock = some k) w (w3.setCell ⟨g, 0, none⟩ (.slice a' (B ++ X).length c')) :=
    (Tch.of_grown hg3 (fun k hk => .inr hk)).trans (Tch.setCell (S := fun k => k = g ∨ (Value.slice a B.length c).ownBlock = some k) w3 (.inl rfl) _) (fun _ _ h => h)
  have c3 : w3.cell? ⟨g, 0, none⟩ = some (.slice a B.length c) := (hb3.cell 0).trans rfl
  have z3 : w3.frozen? ⟨g, 0, none⟩ = false := by rw [hb3.frozen]; simp
  have hl3 : (B ++ X).length = B.length + n := by simp [hXl]
  have hWT := Lib.hid (And.intro hWr hT)
  clear hWr hT h3 hg3 hv3 hb3 hne hsrc hO c0 hi hz0 hz1 hz2
  rw [hl3] at hWT ⊢
  clear hl3
  go_wp2_with fail
  go_ret
  exact ⟨rfl, ⟨a', c', hWT.out.1⟩, hWT.out.2⟩
end Go.Proofs.Ytndpebhhgicooaa
