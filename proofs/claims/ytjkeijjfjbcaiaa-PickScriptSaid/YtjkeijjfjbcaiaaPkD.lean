/- The program's picker: its state, of 26, none 23, check 34, New 14. -/
import Derived.Test.YtjkeijjfjbcaiaaPkC
import Derived.Test.YtjkeijjfjbcaiaaPkS
namespace Go.Proofs.Ytjkeijjfjbcaiaa
open Go.RowKit
/-- the program's picker: block p holds the room and the slice v, which holds L -/
structure Pk (w : World) (p : Nat) (room : Int) (v : Value) (L : List Kn) : Prop where
  blk : Blk w p 52 (0, 0) [.int .i64 room, v]
  own : Own knE w 0 v L
  ne : v.ownBlock ≠ some p
theorem Pk.tch {w w' : World} {p : Nat} {room : Int} {v : Value} {L : List Kn} {S : Nat → Prop} (h : Pk w p room v L) (ht : Tch S w w') (h1 : ¬ S p) (h2 : ∀ b, v.ownBlock = some b → ¬ S b) : Pk w' p room v L :=
  ⟨ht.blk h.blk h1, ht.own h.own h2, h.ne⟩
theorem Pk.ext {w w' : World} {p : Nat} {room : Int} {v : Value} {L : List Kn} (h : Pk w p room v L) (hb : Below w.heap.size w w') : Pk w' p room v L :=
  ⟨h.blk.below hb h.blk.lt, h.own.ext hb, h.ne⟩
theorem below_al2 (w : World) (o o' : Obj) : Below w.heap.size w ((w.alloc o).alloc o') := ((Below.refl _ _).alloc (Nat.le_refl _) _).alloc (by rw [size_al]; exact Nat.le_succ _) _
theorem setCells4 (w : World) (g j : Nat) (x y z u : Value) : w.setCells g j [x, y, z, u] = (((w.setCell ⟨g, j, none⟩ x).setCell ⟨g, j + 1, none⟩ y).setCell ⟨g, j + 2, none⟩ z).setCell ⟨g, j + 3, none⟩ u := rfl
set_option maxHeartbeats 4000000 in
set_option maxRecDepth 100000 in
theorem of26 {w : World} {p : Nat} {room : Int} {v : Value} {L : List Kn} (h : Pk w p room v L) (hl : L.length ≤ 1000000) (a : Int) :
    Calls Try.prog 26 #[.pointer (some ⟨p, 0, none⟩), .int .u32 a] w fun e w' => e = .returned (.tuple #[knV (ofD L a), .bool (ofK L a).isSome]) ∧ Below w.heap.size w w' := by
  obtain ⟨av, cv, rfl, hR⟩ := h.own.rd
  have hp := h.blk.lt
  have hb0 : Below w.heap.size w ((w.alloc (.cells #[.int .u32 a] 28)).alloc (.cells #[.int .u32 0, .int .i64 0, .int .i64 0, .int .i64 0] 34)) := below_al2 _ _ _
  have hR2 := Lib.hid (hR.ext hb0)
  have hv1 : w.cell? ⟨p, 1, none⟩ = some (.slice av L.length cv) := h.blk.cell 1
  have hl' := Lib.hid hl
  have hA : Blk ((w.alloc (.cells #[.int .u32 a] 28)).alloc (.cells #[.int .u32 0, .int .i64 0, .int .i64 0, .int .i64 0] 34)) w.heap.size 28 (0, 0) [.int .u32 a] := (Blk.new w 28 (0, 0) _).alloc _
  have hN : Blk ((w.alloc (.cells #[.int .u32 a] 28)).alloc (.cells #[.int .u32 0, .int .i64 0, .int .i64 0, .int .i64 0] 34)) (w.heap.size + 1) 34 (0, 0) [.int .u32 0, .int .i64 0, .int .i64 0, .int .i64 0] := by
    have := Blk.new (w.alloc (.cells #[.int .u32 a] 28)) 34 (0, 0) #[.int .u32 0, .int .i64 0, .int .i64 0, .int .i64 0]
    rwa [size_al] at this
  have hA' := Lib.hid hA
  have hN' := Lib.hid hN
  have hb0' := Lib.hid hb0
  clear hR h hl hA hN hb0
  go_enter Try.func26, Try.ntmps26
  go_wp2_with fail
  refine (idx_37 hR2.out hl'.out (hA'.out.cell 0)).mono ?_
  rintro e w2 ⟨⟨i0, rfl, hi0⟩, hb1⟩
  have hsz : ((w.alloc (.cells #[.int .u32 a] 28)).alloc (.cells #[.int .u32 0, .int .i64 0, .int .i64 0, .int .i64 0] 34)).heap.size = w.heap.size + 2 := by rw [size_al, size_al]
  have hb2 : Below w.heap.size w w2 := hb0'.out.trans (hb1.mono (by rw [hsz]; omega))
  have hA2 : Blk w2 w.heap.size 28 (0, 0) [.int .u32 a] := hA'.out.below hb1 (by rw [hsz]; omega)
  have hN2 : Blk w2 (w.heap.size + 1) 34 (0, 0) [.int .u32 0, .int .i64 0, .int .i64 0, .int .i64 0] := hN'.out.below hb1 (by rw [hsz]; omega)
  have ca : w2.cell? ⟨w.heap.size, 0, none⟩ = some (.int .u32 a) := hA2.cell 0
  have hN2' := Lib.hid hN2
  have hv2 : w2.cell? ⟨p, 1, none⟩ = some (.slice av L.length cv) := (World.cell?_of_block (w := w) (hb2.block p hp)).trans hv1
  have hR3 := hR2.out.ext hb1
  have hR3' := Lib.hid hR3
  have hb2' := Lib.hid hb2
  clear hR3 hR2 hA' hN' hb0' hb1 hsz hA2 hN2 hv1 hb2
  rcases hi0 with ⟨rfl, hno⟩ | ⟨k, hk, rfl, hy, hk2, -⟩
  · have e1 : Hid (ofD L a = kn0 a ∧ ofK L a = none) := Lib.hid ⟨by unfold ofD; rw [hno]; rfl, hno⟩
    clear hno
    go_wp2_with (refine store_whole rfl 34 (.tmp 4) (.tmp 16) rfl rfl rfl hN2'.out (by rfl) (by kernel_rfl) (by kernel_rfl) ?_; intro w3 hB3 hg3 hz3; have hB3' := Lib.hid hB3; have hg3' := Lib.hid hg3; clear hB3 hg3)
    refine bodyPost_ret (results_ct rfl _ rfl hB3'.out Try.underlying34 rfl (by kernel_rfl)) rfl ?_
    rw [e1.out.1, e1.out.2]
    exact ⟨rfl, hb2'.out.grown hg3'.out hb2'.out.size (fun k hk => by cases hk; exact Nat.le_succ _)⟩
  · have e1 : Hid (ofD L a = L[k] ∧ ofK L a = some L[k]) := Lib.hid ⟨by unfold ofD; rw [hk2]; rfl, hk2⟩
    obtain ⟨b, o, rfl, hbs, hc⟩ := rd_kn hR3'.out (by omega)
    obtain ⟨d0, d1, d2, d3⟩ := hc k hk
    have hkI : (k : Int) < L.length := by omega
    have hk0 : ¬ ((k : Int) < 0) := by omega
    clear hc hk2 hy
    generalize L[k] = x at *
    obtain ⟨xa, xt, xf, xg⟩ := x
    dsimp only at *
    go_wp2_with (refine store_whole rfl 34 (.tmp 4) (.tmp 23) rfl rfl rfl hN2'.out (by rfl) (by kernel_rfl) (by kernel_rfl) ?_; intro w3 hB3 hg3 hz3; have hB3' := Lib.hid hB3; have hg3' := Lib.hid hg3; clear hB3 hg3)
    refine bodyPost_ret (results_ct rfl _ rfl hB3'.out Try.underlying34 rfl (by kernel_rfl)) rfl ?_
    rw [e1.out.1, e1.out.2]
    exact ⟨rfl, hb2'.out.grown hg3'.out hb2'.out.size (fun k hk => by cases hk; exact Nat.le_succ _)⟩
end Go.Proofs.Ytjkeijjfjbcaiaa
