/- EdnsBack: what is said is read again, and what was read is said again; printed by gen_eb.py. -/
import Derived.Test.YthgnlbdolilklaaAwkF
namespace Go.Proofs.Ythgnlbdolilklaa
open Go Go.RowKit
/-- the walk's state: the two parameters in their blocks -/
structure StB (w : World) (b : Nat) (E C : List Value) (wx : World) : Prop where
  bel : Below w.heap.size w wx
  e : Blk wx w.heap.size 24 (0, 0) E
  q : Blk wx b 37 (0, 0) C
  lt : w.heap.size < b
theorem StB.below {w wx wy : World} {b : Nat} {E C : List Value} (h : StB w b E C wx) (hb : Below wx.heap.size wx wy) : StB w b E C wy :=
  ⟨h.bel.trans (hb.mono h.bel.size), h.e.below hb h.e.lt, h.q.below hb h.q.lt, h.lt⟩
theorem StB.grown {w wx wp wy : World} {b : Nat} {E C : List Value} (h : StB w b E C wx) (hp : StB w b E C wp) (hg : wx.grownBy wy (some wp.heap.size)) : StB w b E C wy := by
  have h1 := hp.e.lt
  have h2 := hp.q.lt
  exact ⟨h.bel.grown hg h.bel.size (fun k hk => by have := Option.some.inj hk; omega), (hg.block _ h.e.lt (fun e => by have := Option.some.inj e; omega)).trans h.e, (hg.block _ h.q.lt (fun e => by have := Option.some.inj e; omega)).trans h.q, h.lt⟩
theorem alloc_bel (w : World) (o : Obj) : Below w.heap.size w (w.alloc o) := (Below.refl _ _).alloc (Nat.le_refl _) _
theorem Blk.grown_ {w wy : World} {b g : Nat} {t : TypeId} {fz : Nat × Nat} {C : List Value} (h : Blk w b t fz C) (hg : w.grownBy wy (some g)) (hne : b ≠ g) : Blk wy b t fz C := (hg.block _ h.lt (fun e => hne (Option.some.inj e))).trans h
theorem RdO.grown {w wp wx wy : World} {a : Option Addr} {n c : Nat} {O : List Opt} (h : RdO w a n c O) (h1 : Below w.heap.size w wp) (h2 : Below wp.heap.size wp wx) (hg : wx.grownBy wy (some wp.heap.size)) : RdO wy a n c O := by
  have h3 : Below wp.heap.size wp wy := h2.grown hg h2.size (fun k hk => by cases hk; exact Nat.le_refl _)
  exact (h.ext h1).ext h3
set_option maxHeartbeats 16000000 in
set_option maxRecDepth 100000 in
theorem back_any {w : World} {a : Option Addr} {n c : Nat} {O : List Opt} (hO : RdO w a n c O) (hC : ∀ o ∈ O, o.1 < 65536) (sz hi ver : Int) (d : Bool) {q : RD} {L : RL} (hq : RecR w q L) :
    Calls Try.prog 4 #[eV sz hi ver d (.slice a n c), q.val] w fun e w' => e = .returned (.bool true) ∧ Below w.heap.size w w' := by
  obtain ⟨oa, on, oc, ty, cl, ttl, ma, mn, mc, ua, un, uc, xa, xn, xc, ra, rn, rc⟩ := q
  have hbnd := hq.small
  dsimp only at hbnd
  obtain ⟨z0, z4, z5, z6, z7⟩ := hbnd
  unfold RD.val rV eV
  dsimp only
  have hO' := Lib.hid hO
  have hq' := Lib.hid hq
  have hC' := Lib.hid hC
  clear hO hq hC
  obtain ⟨W1, hW1⟩ : ∃ W, w.alloc (.cells #[.int .i64 sz, .int .i64 hi, .int .i64 ver, .bool d, .slice a n c] 24) = W := ⟨_, rfl⟩
  obtain ⟨W2, hW2⟩ : ∃ W, W1.alloc (.cells #[.slice oa on oc, .int .u16 ty, .int .u16 cl, .int .u32 ttl, .slice ma mn mc, .slice ua un uc, .slice xa xn xc, .slice ra rn rc] 37) = W := ⟨_, rfl⟩
  have hS0 : Hid (StB w W1.heap.size [.int .i64 sz, .int .i64 hi, .int .i64 ver, .bool d, .slice a n c] [.slice oa on oc, .int .u16 ty, .int .u16 cl, .int .u32 ttl, .slice ma mn mc, .slice ua un uc, .slice xa xn xc, .slice ra rn rc] W2) := by
    have hB1 : Blk W1 w.heap.size 24 (0, 0) [.int .i64 sz, .int .i64 hi, .int .i64 ver, .bool d, .slice a n c] := by rw [← hW1]; exact Blk.new w 24 (0, 0) #[.int .i64 sz, .int .i64 hi, .int .i64 ver, .bool d, .slice a n c]
    have k1 : Below w.heap.size w W1 := by rw [← hW1]; exact alloc_bel _ _
    have k2 : Below W1.heap.size W1 W2 := by rw [← hW2]; exact alloc_bel _ _
    exact Lib.hid ⟨k1.trans (k2.mono k1.size), hB1.below k2 hB1.lt, by rw [← hW2]; exact Blk.new W1 37 (0, 0) #[.slice oa on oc, .int .u16 ty, .int .u16 cl, .int .u32 ttl, .slice ma mn mc, .slice ua un uc, .slice xa xn xc, .slice ra rn rc], hB1.lt⟩
  go_enter Try.func4, Try.ntmps4
  go_wp2_with fail
  try rw [hW1]
  try rw [hW2]
  clear hW1 hW2
  refine (awake_any W2).mono ?_
  rintro e w1 ⟨rfl, hb1⟩
  have hS1 := Lib.hid (hS0.out.below hb1)
  clear hb1 hS0
  have p0 : w1.cell? ⟨w.heap.size, 0, none⟩ = some (.int .i64 sz) := (hS1.out.e.cell 0).trans rfl
  have p1 : w1.cell? ⟨w.heap.size, 1, none⟩ = some (.int .i64 hi) := (hS1.out.e.cell 1).trans rfl
  have p2 : w1.cell? ⟨w.heap.size, 2, none⟩ = some (.int .i64 ver) := (hS1.out.e.cell 2).trans rfl
  have p3 : w1.cell? ⟨w.heap.size, 3, none⟩ = some (.bool d) := (hS1.out.e.cell 3).trans rfl
  have p4 : w1.cell? ⟨w.heap.size, 4, none⟩ = some (.slice a n c) := (hS1.out.e.cell 4).trans rfl
  have q0 : w1.cell? ⟨W1.heap.size, 0, none⟩ = some (.slice oa on oc) := (hS1.out.q.cell 0).trans rfl
  have q1 : w1.cell? ⟨W1.heap.size, 1, none⟩ = some (.int .u16 ty) := (hS1.out.q.cell 1).trans rfl
  have q2 : w1.cell? ⟨W1.heap.size, 2, none⟩ = some (.int .u16 cl) := (hS1.out.q.cell 2).trans rfl
  have q3 : w1.cell? ⟨W1.heap.size, 3, none⟩ = some (.int .u32 ttl) := (hS1.out.q.cell 3).trans rfl
  have q4 : w1.cell? ⟨W1.heap.size, 4, none⟩ = some (.slice ma mn mc) := (hS1.out.q.cell 4).trans rfl
  have q5 : w1.cell? ⟨W1.heap.size, 5, none⟩ = some (.slice ua un uc) := (hS1.out.q.cell 5).trans rfl
  have q6 : w1.cell? ⟨W1.heap.size, 6, none⟩ = some (.slice xa xn xc) := (hS1.out.q.cell 6).trans rfl
  have q7 : w1.cell? ⟨W1.heap.size, 7, none⟩ = some (.slice ra rn rc) := (hS1.out.q.cell 7).trans rfl
  go_wp2_with fail
  refine (large_any (hO'.out.ext hS1.out.bel) sz hi ver d).mono ?_
  rintro e w2 ⟨⟨bL, rfl, hs⟩, hb2⟩
  have hS2 := Lib.hid (hS1.out.below hb2)
  clear p0 p1 p2 p3 p4 q0 q1 q2 q3 q4 q5 q6 q7 hb2
  have p0 : w2.cell? ⟨w.heap.size, 0, none⟩ = some (.int .i64 sz) := (hS2.out.e.cell 0).trans rfl
  have p1 : w2.cell? ⟨w.heap.size, 1, none⟩ = some (.int .i64 hi) := (hS2.out.e.cell 1).trans rfl
  have p2 : w2.cell? ⟨w.heap.size, 2, none⟩ = some (.int .i64 ver) := (hS2.out.e.cell 2).trans rfl
  have p3 : w2.cell? ⟨w.heap.size, 3, none⟩ = some (.bool d) := (hS2.out.e.cell 3).trans rfl
  have p4 : w2.cell? ⟨w.heap.size, 4, none⟩ = some (.slice a n c) := (hS2.out.e.cell 4).trans rfl
  have q0 : w2.cell? ⟨W1.heap.size, 0, none⟩ = some (.slice oa on oc) := (hS2.out.q.cell 0).trans rfl
  have q1 : w2.cell? ⟨W1.heap.size, 1, none⟩ = some (.int .u16 ty) := (hS2.out.q.cell 1).trans rfl
  have q2 : w2.cell? ⟨W1.heap.size, 2, none⟩ = some (.int .u16 cl) := (hS2.out.q.cell 2).trans rfl
  have q3 : w2.cell? ⟨W1.heap.size, 3, none⟩ = some (.int .u32 ttl) := (hS2.out.q.cell 3).trans rfl
  have q4 : w2.cell? ⟨W1.heap.size, 4, none⟩ = some (.slice ma mn mc) := (hS2.out.q.cell 4).trans rfl
  have q5 : w2.cell? ⟨W1.heap.size, 5, none⟩ = some (.slice ua un uc) := (hS2.out.q.cell 5).trans rfl
  have q6 : w2.cell? ⟨W1.heap.size, 6, none⟩ = some (.slice xa xn xc) := (hS2.out.q.cell 6).trans rfl
  have q7 : w2.cell? ⟨W1.heap.size, 7, none⟩ = some (.slice ra rn rc) := (hS2.out.q.cell 7).trans rfl
  cases bL with
  | true =>
    clear hs
    go_wp2_with fail
    go_ret
    exact ⟨rfl, hS2.out.bel⟩
  | false =>
    have hs' := Lib.hid (hs rfl)
    clear hs
    by_cases h7 : 70000 < rn
    · have h7I : (70000 : Int) < rn := by omega
      go_wp2_with fail
      go_ret
      exact ⟨rfl, hS2.out.bel⟩
    · have h7I : ¬ (70000 : Int) < rn := by omega
      go_wp2_with fail
      refine (rec_any (hO'.out.ext hS2.out.bel) (fun o ho => hs'.out.2 o ho) hC'.out sz hi ver d).mono ?_
      rintro e w3 ⟨hR3, hb3⟩
      have hS3 := Lib.hid (hS2.out.below hb3)
      clear p0 p1 p2 p3 p4 q0 q1 q2 q3 q4 q5 q6 q7 hb3
      unfold RecB at hR3
      split at hR3
      · rename_i hm
        obtain ⟨v, rfl, ho⟩ := hR3
        obtain ⟨av, cv, rfl, _⟩ := ho.rd
        have ho' := Lib.hid ho
        have hm' := Lib.hid hm
        unfold rV
        generalize hX1 : sz.toNat = nsz
        generalize hX2 : ttlN hi.toNat ver.toNat d = nttl
        generalize hX3 : (rawB O).length = nraw
        have hX := Lib.hid (And.intro hX1 (And.intro hX2 hX3))
        clear ho hm hX1 hX2 hX3
        obtain ⟨W4, hW4⟩ : ∃ W, w3.alloc (.cells #[.slice none 0 0, .int .u16 0, .int .u16 0, .int .u32 0, .slice none 0 0, .slice none 0 0, .slice none 0 0, .slice none 0 0] 37) = W := ⟨_, rfl⟩
        have hZ : Hid (Blk W4 w3.heap.size 37 (0, 0) [.slice none 0 0, .int .u16 0, .int .u16 0, .int .u32 0, .slice none 0 0, .slice none 0 0, .slice none 0 0, .slice none 0 0]) := Lib.hid (by rw [← hW4]; exact Blk.new w3 37 (0, 0) #[.slice none 0 0, .int .u16 0, .int .u16 0, .int .u32 0, .slice none 0 0, .slice none 0 0, .slice none 0 0, .slice none 0 0])
        have hy : Hid (Below w3.heap.size w3 W4) := Lib.hid (by rw [← hW4]; exact alloc_bel _ _)
        have hSn := Lib.hid (hS3.out.below hy.out)
        go_wp2_with (refine store_whole rfl 37 (.tmp 6) (.tmp 28) rfl rfl rfl hZ.out (by rfl) (by kernel_rfl) (by kernel_rfl) ?_; intro w5 hB6 hg6 hz6; have hR := Lib.hid hB6; have hg := Lib.hid hg6; have hT := Lib.hid (hSn.out.grown hS3.out hg6); clear hB6 hg6 hz6; have r0 : w5.cell? ⟨w3.heap.size, 0, none⟩ = some (.slice none 0 0) := (hR.out.cell 0).trans rfl; have r1 : w5.cell? ⟨w3.heap.size, 1, none⟩ = some (.int .u16 41) := (hR.out.cell 1).trans rfl; have r2 : w5.cell? ⟨w3.heap.size, 2, none⟩ = some (.int .u16 nsz) := (hR.out.cell 2).trans rfl; have r3 : w5.cell? ⟨w3.heap.size, 3, none⟩ = some (.int .u32 nttl) := (hR.out.cell 3).trans rfl; have r4 : w5.cell? ⟨w3.heap.size, 4, none⟩ = some (.slice none 0 0) := (hR.out.cell 4).trans rfl; have r5 : w5.cell? ⟨w3.heap.size, 5, none⟩ = some (.slice none 0 0) := (hR.out.cell 5).trans rfl; have r6 : w5.cell? ⟨w3.heap.size, 6, none⟩ = some (.slice none 0 0) := (hR.out.cell 6).trans rfl; have r7 : w5.cell? ⟨w3.heap.size, 7, none⟩ = some (.slice av nraw cv) := (hR.out.cell 7).trans rfl)
        have ho5 : Hid (Own byteE w5 w2.heap.size (.slice av nraw cv) (rawB O)) := Lib.hid (by
          have h1 := ho'.out
          have h2 : ∀ k, (Value.slice av nraw cv).ownBlock = some k → k < w3.heap.size := fun k hk => by
            have := (h1.lt k (by rw [hX.out.2.2]; exact hk)).2
            exact this
          have h3 : Below w3.heap.size w3 w5 := hy.out.grown hg.out hy.out.size (fun k hk => by cases hk; exact Nat.le_refl _)
          rw [hX.out.2.2] at h1
          exact h1.keep fun k hk => h3.block k (h2 k hk))
        have hrr : Hid (Calls Try.prog 13 #[.agg #[.slice none 0 0, .int .u16 41, .int .u16 nsz, .int .u32 nttl, .slice none 0 0, .slice none 0 0, .slice none 0 0, .slice av nraw cv]] w5 fun e w' => (∃ u, e = .returned (.tuple #[eV sz hi ver d u, .int .i64 0]) ∧ OwnO w' w5.heap.size u O) ∧ Below w5.heap.size w5 w') := Lib.hid (by
          have := read_rec (d := d) (w := w5) (v := .slice av nraw cv) (O := O) hm'.out.1 hm'.out.2 hC'.out ho5.out
          rw [hX.out.1, hX.out.2.1] at this
          exact this)
        refine hrr.out.mono ?_
        rintro e w6 ⟨⟨u, rfl, hu⟩, hb6⟩
        obtain ⟨au, cu, rfl, hru⟩ := hu.rdO
        unfold eV
        have hS6 := Lib.hid (hT.out.below hb6)
        have hru' := Lib.hid hru
        clear hu hru hb6 hrr ho5 hy hZ hSn hg hR hT
        obtain ⟨W7, hW7⟩ : ∃ W, w6.alloc (.cells #[.int .i64 0, .int .i64 0, .int .i64 0, .bool false, .slice none 0 0] 24) = W := ⟨_, rfl⟩
        have hZ : Hid (Blk W7 w6.heap.size 24 (0, 0) [.int .i64 0, .int .i64 0, .int .i64 0, .bool false, .slice none 0 0]) := Lib.hid (by rw [← hW7]; exact Blk.new w6 24 (0, 0) #[.int .i64 0, .int .i64 0, .int .i64 0, .bool false, .slice none 0 0])
        have hy : Hid (Below w6.heap.size w6 W7) := Lib.hid (by rw [← hW7]; exact alloc_bel _ _)
        have hSn := Lib.hid (hS6.out.below hy.out)
        go_wp2_with (refine store_whole rfl 24 (.tmp 8) (.tmp 35) rfl rfl rfl hZ.out (by rfl) (by kernel_rfl) (by kernel_rfl) ?_; intro w8 hB6 hg6 hz6; have hR := Lib.hid hB6; have hg := Lib.hid hg6; have hT := Lib.hid (hSn.out.grown hS6.out hg6); clear hB6 hg6 hz6; have y0 : w8.cell? ⟨w6.heap.size, 0, none⟩ = some (.int .i64 sz) := (hR.out.cell 0).trans rfl; have y1 : w8.cell? ⟨w6.heap.size, 1, none⟩ = some (.int .i64 hi) := (hR.out.cell 1).trans rfl; have y2 : w8.cell? ⟨w6.heap.size, 2, none⟩ = some (.int .i64 ver) := (hR.out.cell 2).trans rfl; have y3 : w8.cell? ⟨w6.heap.size, 3, none⟩ = some (.bool d) := (hR.out.cell 3).trans rfl; have y4 : w8.cell? ⟨w6.heap.size, 4, none⟩ = some (.slice au O.length cu) := (hR.out.cell 4).trans rfl; have p0 : w8.cell? ⟨w.heap.size, 0, none⟩ = some (.int .i64 sz) := (hT.out.e.cell 0).trans rfl; have p1 : w8.cell? ⟨w.heap.size, 1, none⟩ = some (.int .i64 hi) := (hT.out.e.cell 1).trans rfl; have p2 : w8.cell? ⟨w.heap.size, 2, none⟩ = some (.int .i64 ver) := (hT.out.e.cell 2).trans rfl; have p3 : w8.cell? ⟨w.heap.size, 3, none⟩ = some (.bool d) := (hT.out.e.cell 3).trans rfl; have p4 : w8.cell? ⟨w.heap.size, 4, none⟩ = some (.slice a n c) := (hT.out.e.cell 4).trans rfl)
        have hsame : Hid (Calls Try.prog 16 #[.agg #[.int .i64 sz, .int .i64 hi, .int .i64 ver, .bool d, .slice au O.length cu], .agg #[.int .i64 sz, .int .i64 hi, .int .i64 ver, .bool d, .slice a n c]] w8 fun e w' => e = .returned (.bool true) ∧ Below w8.heap.size w8 w') := Lib.hid (by
          have h3 : Below w6.heap.size w6 w8 := hy.out.grown hg.out hy.out.size (fun k hk => by cases hk; exact Nat.le_refl _)
          exact same_edns (hru'.out.ext h3) (hO'.out.ext hT.out.bel) sz hi ver d)
        refine hsame.out.mono ?_
        rintro e w9 ⟨rfl, hb9⟩
        have hS9 := Lib.hid (hT.out.below hb9)
        clear hb9 hsame hS6 hS3 hS2 hS1 hy hZ hSn hg hR hT hru' hX hm' ho' hW4 hW7 r0 r1 r2 r3 r4 r5 r6 r7 y0 y1 y2 y3 y4 p0 p1 p2 p3 p4
        have q0 : w9.cell? ⟨W1.heap.size, 0, none⟩ = some (.slice oa on oc) := (hS9.out.q.cell 0).trans rfl
        have q1 : w9.cell? ⟨W1.heap.size, 1, none⟩ = some (.int .u16 ty) := (hS9.out.q.cell 1).trans rfl
        have q2 : w9.cell? ⟨W1.heap.size, 2, none⟩ = some (.int .u16 cl) := (hS9.out.q.cell 2).trans rfl
        have q3 : w9.cell? ⟨W1.heap.size, 3, none⟩ = some (.int .u32 ttl) := (hS9.out.q.cell 3).trans rfl
        have q4 : w9.cell? ⟨W1.heap.size, 4, none⟩ = some (.slice ma mn mc) := (hS9.out.q.cell 4).trans rfl
        have q5 : w9.cell? ⟨W1.heap.size, 5, none⟩ = some (.slice ua un uc) := (hS9.out.q.cell 5).trans rfl
        have q6 : w9.cell? ⟨W1.heap.size, 6, none⟩ = some (.slice xa xn xc) := (hS9.out.q.cell 6).trans rfl
        have q7 : w9.cell? ⟨W1.heap.size, 7, none⟩ = some (.slice ra rn rc) := (hS9.out.q.cell 7).trans rfl
        have hrd : Hid (Calls Try.prog 13 #[.agg #[.slice oa on oc, .int .u16 ty, .int .u16 cl, .int .u32 ttl, .slice ma mn mc, .slice ua un uc, .slice xa xn xc, .slice ra rn rc]] w9 fun e w' => ReadB w9.heap.size on ty cl ttl mn un xn L.raw e w' ∧ Below w9.heap.size w9 w') := Lib.hid (by
          have hq9 := hq'.out.ext hS9.out.bel
          exact read_any oa on oc ty cl ttl ma mn mc ua un uc xa xn xc hq9.raw hq9.ttl hq9.ty hq9.cl z0 z4 z5 z6 z7)
        try (go_wp2_with fail)
        refine hrd.out.mono ?_
        rintro e w10 ⟨hR10, hb10⟩
        have hS10 := Lib.hid (hS9.out.below hb10)
        clear q0 q1 q2 q3 q4 q5 q6 q7 hb10 hrd
        unfold ReadB at hR10
        split at hR10
        · rename_i hrk
          split at hR10
          · subst hR10
            unfold eV nilV
            obtain ⟨W11, hW11⟩ : ∃ W, w10.alloc (.cells #[.int .i64 0, .int .i64 0, .int .i64 0, .bool false, .slice none 0 0] 24) = W := ⟨_, rfl⟩
            have hZ : Hid (Blk W11 w10.heap.size 24 (0, 0) [.int .i64 0, .int .i64 0, .int .i64 0, .bool false, .slice none 0 0]) := Lib.hid (by rw [← hW11]; exact Blk.new w10 24 (0, 0) #[.int .i64 0, .int .i64 0, .int .i64 0, .bool false, .slice none 0 0])
            have hy : Hid (Below w10.heap.size w10 W11) := Lib.hid (by rw [← hW11]; exact alloc_bel _ _)
            have hSn := Lib.hid (hS10.out.below hy.out)
            go_wp2_with (refine store_whole rfl 24 (.tmp 10) (.tmp 48) rfl rfl rfl hZ.out (by rfl) (by kernel_rfl) (by kernel_rfl) ?_; intro w12 hB6 hg6 hz6; have hR := Lib.hid hB6; have hg := Lib.hid hg6; have hT := Lib.hid (hSn.out.grown hS10.out hg6); clear hB6 hg6 hz6)
            go_ret
            exact ⟨rfl, hT.out.bel⟩
          · rename_i A hpA
            obtain ⟨v, rfl, hv⟩ := hR10
            obtain ⟨av2, cv2, rfl, _⟩ := hv.rdO
            have hv' := Lib.hid hv
            have hrk' := Lib.hid (And.intro hrk hpA)
            unfold eV
            generalize hx1 : ((ttl / 16777216 : Nat) : Int) = t1
            generalize hx2 : ((ttl / 65536 % 256 : Nat) : Int) = t2
            generalize hx3 : (ttl / 32768 % 2 == 1) = t3
            have hX := Lib.hid (And.intro hx1 (And.intro hx2 hx3))
            clear hv hrk hpA hx1 hx2 hx3
            obtain ⟨W11, hW11⟩ : ∃ W, w10.alloc (.cells #[.int .i64 0, .int .i64 0, .int .i64 0, .bool false, .slice none 0 0] 24) = W := ⟨_, rfl⟩
            have hZ : Hid (Blk W11 w10.heap.size 24 (0, 0) [.int .i64 0, .int .i64 0, .int .i64 0, .bool false, .slice none 0 0]) := Lib.hid (by rw [← hW11]; exact Blk.new w10 24 (0, 0) #[.int .i64 0, .int .i64 0, .int .i64 0, .bool false, .slice none 0 0])
            have hy : Hid (Below w10.heap.size w10 W11) := Lib.hid (by rw [← hW11]; exact alloc_bel _ _)
            have hSn := Lib.hid (hS10.out.below hy.out)
            go_wp2_with (refine store_whole rfl 24 (.tmp 10) (.tmp 48) rfl rfl rfl hZ.out (by rfl) (by kernel_rfl) (by kernel_rfl) ?_; intro w12 hB6 hg6 hz6; have hR := Lib.hid hB6; have hg := Lib.hid hg6; have hT := Lib.hid (hSn.out.grown hS10.out hg6); clear hB6 hg6 hz6; have y0 : w12.cell? ⟨w10.heap.size, 0, none⟩ = some (.int .i64 cl) := (hR.out.cell 0).trans rfl; have y1 : w12.cell? ⟨w10.heap.size, 1, none⟩ = some (.int .i64 t1) := (hR.out.cell 1).trans rfl; have y2 : w12.cell? ⟨w10.heap.size, 2, none⟩ = some (.int .i64 t2) := (hR.out.cell 2).trans rfl; have y3 : w12.cell? ⟨w10.heap.size, 3, none⟩ = some (.bool t3) := (hR.out.cell 3).trans rfl; have y4 : w12.cell? ⟨w10.heap.size, 4, none⟩ = some (.slice av2 A.length cv2) := (hR.out.cell 4).trans rfl)
            have hrr : Hid (Calls Try.prog 11 #[.agg #[.int .i64 cl, .int .i64 t1, .int .i64 t2, .bool t3, .slice av2 A.length cv2]] w12 fun e w' => (∃ a c, e = .returned (.tuple #[rV nilV 41 cl ttl nilV nilV nilV (.slice a L.raw.length c), .int .i64 0]) ∧ Rd byteE w' a L.raw.length c L.raw) ∧ Below w12.heap.size w12 w') := Lib.hid (by
              have h3 : Below w10.heap.size w10 w12 := hy.out.grown hg.out hy.out.size (fun k hk => by cases hk; exact Nat.le_refl _)
              have := rec_read (w := w12) hrk'.out.2 hq'.out.cl hq'.out.ttl hrk'.out.1.2.2.1 hrk'.out.1.2.2.2.2.2.2 (hv'.out.ext h3)
              rw [hX.out.1, hX.out.2.1, hX.out.2.2] at this
              exact this)
            refine hrr.out.mono ?_
            rintro e w13 ⟨⟨az, cz, rfl, hz⟩, hb13⟩
            have hz' := Lib.hid hz
            unfold rV nilV
            have hS13 := Lib.hid (hT.out.below hb13)
            generalize hnr : L.raw.length = nr
            have hnr' := Lib.hid hnr
            clear hb13 hz hrr hy hZ hSn hg hR hT hW11 hnr y0 y1 y2 y3 y4
            obtain ⟨W14, hW14⟩ : ∃ W, w13.alloc (.cells #[.slice none 0 0, .int .u16 0, .int .u16 0, .int .u32 0, .slice none 0 0, .slice none 0 0, .slice none 0 0, .slice none 0 0] 37) = W := ⟨_, rfl⟩
            have hZ : Hid (Blk W14 w13.heap.size 37 (0, 0) [.slice none 0 0, .int .u16 0, .int .u16 0, .int .u32 0, .slice none 0 0, .slice none 0 0, .slice none 0 0, .slice none 0 0]) := Lib.hid (by rw [← hW14]; exact Blk.new w13 37 (0, 0) #[.slice none 0 0, .int .u16 0, .int .u16 0, .int .u32 0, .slice none 0 0, .slice none 0 0, .slice none 0 0, .slice none 0 0])
            have hy : Hid (Below w13.heap.size w13 W14) := Lib.hid (by rw [← hW14]; exact alloc_bel _ _)
            have hSn := Lib.hid (hS13.out.below hy.out)
            go_upto_region 13 with (refine store_whole rfl 37 (.tmp 12) (.tmp 60) rfl rfl rfl hZ.out (by rfl) (by kernel_rfl) (by kernel_rfl) ?_; intro w15 hB6 hg6 hz6; have hR := Lib.hid hB6; have hg := Lib.hid hg6; have hT := Lib.hid (hSn.out.grown hS13.out hg6); clear hB6 hg6 hz6; have y0 : w15.cell? ⟨w13.heap.size, 0, none⟩ = some (.slice none 0 0) := (hR.out.cell 0).trans rfl; have y1 : w15.cell? ⟨w13.heap.size, 1, none⟩ = some (.int .u16 41) := (hR.out.cell 1).trans rfl; have y2 : w15.cell? ⟨w13.heap.size, 2, none⟩ = some (.int .u16 cl) := (hR.out.cell 2).trans rfl; have y3 : w15.cell? ⟨w13.heap.size, 3, none⟩ = some (.int .u32 ttl) := (hR.out.cell 3).trans rfl; have y4 : w15.cell? ⟨w13.heap.size, 4, none⟩ = some (.slice none 0 0) := (hR.out.cell 4).trans rfl; have y5 : w15.cell? ⟨w13.heap.size, 5, none⟩ = some (.slice none 0 0) := (hR.out.cell 5).trans rfl; have y6 : w15.cell? ⟨w13.heap.size, 6, none⟩ = some (.slice none 0 0) := (hR.out.cell 6).trans rfl; have y7 : w15.cell? ⟨w13.heap.size, 7, none⟩ = some (.slice az nr cz) := (hR.out.cell 7).trans rfl; have q0 : w15.cell? ⟨W1.heap.size, 0, none⟩ = some (.slice oa on oc) := (hT.out.q.cell 0).trans rfl; have q1 : w15.cell? ⟨W1.heap.size, 1, none⟩ = some (.int .u16 ty) := (hT.out.q.cell 1).trans rfl; have q2 : w15.cell? ⟨W1.heap.size, 2, none⟩ = some (.int .u16 cl) := (hT.out.q.cell 2).trans rfl; have q3 : w15.cell? ⟨W1.heap.size, 3, none⟩ = some (.int .u32 ttl) := (hT.out.q.cell 3).trans rfl; have q4 : w15.cell? ⟨W1.heap.size, 4, none⟩ = some (.slice ma mn mc) := (hT.out.q.cell 4).trans rfl; have q5 : w15.cell? ⟨W1.heap.size, 5, none⟩ = some (.slice ua un uc) := (hT.out.q.cell 5).trans rfl; have q6 : w15.cell? ⟨W1.heap.size, 6, none⟩ = some (.slice xa xn xc) := (hT.out.q.cell 6).trans rfl; have q7 : w15.cell? ⟨W1.heap.size, 7, none⟩ = some (.slice ra rn rc) := (hT.out.q.cell 7).trans rfl)
            go_wp2_with fail
            have hsame : Hid (Calls Try.prog 15 #[.agg #[.slice none 0 0, .int .u16 41, .int .u16 cl, .int .u32 ttl, .slice none 0 0, .slice none 0 0, .slice none 0 0, .slice az nr cz], .agg #[.slice oa on oc, .int .u16 ty, .int .u16 cl, .int .u32 ttl, .slice ma mn mc, .slice ua un uc, .slice xa xn xc, .slice ra rn rc]] w15 fun e w' => e = .returned (.bool true) ∧ Below w15.heap.size w15 w') := Lib.hid (by
              have h3 : Below w13.heap.size w13 w15 := hy.out.grown hg.out hy.out.size (fun k hk => by cases hk; exact Nat.le_refl _)
              have hq15 := hq'.out.ext hT.out.bel
              obtain ⟨k1, k2, k3, k4, k5, k6, k7⟩ := hrk'.out.1
              have hz15 := hz'.out.ext h3
              rw [hnr'.out] at hz15
              have hbare : RecR w15 ⟨none, 0, 0, 41, cl, ttl, none, 0, 0, none, 0, 0, none, 0, 0, az, nr, cz⟩ L := RecR.bare hq15 hz15 k1 k4 k5 k6 (by decide)
              have h := same_rec hbare hq15 k2.symm rfl rfl
              unfold RD.val rV at h
              dsimp only at h
              exact h)
            refine hsame.out.mono ?_
            rintro e w16 ⟨rfl, hb16⟩
            have hS16 := Lib.hid (hT.out.below hb16)
            go_wp2_with fail
            go_ret
            exact ⟨rfl, hS16.out.bel⟩
        · subst hR10
          unfold eV nilV
          obtain ⟨W11, hW11⟩ : ∃ W, w10.alloc (.cells #[.int .i64 0, .int .i64 0, .int .i64 0, .bool false, .slice none 0 0] 24) = W := ⟨_, rfl⟩
          have hZ : Hid (Blk W11 w10.heap.size 24 (0, 0) [.int .i64 0, .int .i64 0, .int .i64 0, .bool false, .slice none 0 0]) := Lib.hid (by rw [← hW11]; exact Blk.new w10 24 (0, 0) #[.int .i64 0, .int .i64 0, .int .i64 0, .bool false, .slice none 0 0])
          have hy : Hid (Below w10.heap.size w10 W11) := Lib.hid (by rw [← hW11]; exact alloc_bel _ _)
          have hSn := Lib.hid (hS10.out.below hy.out)
          go_wp2_with (refine store_whole rfl 24 (.tmp 10) (.tmp 48) rfl rfl rfl hZ.out (by rfl) (by kernel_rfl) (by kernel_rfl) ?_; intro w12 hB6 hg6 hz6; have hR := Lib.hid hB6; have hg := Lib.hid hg6; have hT := Lib.hid (hSn.out.grown hS10.out hg6); clear hB6 hg6 hz6)
          go_ret
          exact ⟨rfl, hT.out.bel⟩

      · rename_i hm
        subst hR3
        unfold rV nilV
        clear hm
        obtain ⟨W4, hW4⟩ : ∃ W, w3.alloc (.cells #[.slice none 0 0, .int .u16 0, .int .u16 0, .int .u32 0, .slice none 0 0, .slice none 0 0, .slice none 0 0, .slice none 0 0] 37) = W := ⟨_, rfl⟩
        have hZ : Hid (Blk W4 w3.heap.size 37 (0, 0) [.slice none 0 0, .int .u16 0, .int .u16 0, .int .u32 0, .slice none 0 0, .slice none 0 0, .slice none 0 0, .slice none 0 0]) := Lib.hid (by rw [← hW4]; exact Blk.new w3 37 (0, 0) #[.slice none 0 0, .int .u16 0, .int .u16 0, .int .u32 0, .slice none 0 0, .slice none 0 0, .slice none 0 0, .slice none 0 0])
        have hy : Hid (Below w3.heap.size w3 W4) := Lib.hid (by rw [← hW4]; exact alloc_bel _ _)
        have hSn := Lib.hid (hS3.out.below hy.out)
        go_wp2_with (refine store_whole rfl 37 (.tmp 6) (.tmp 28) rfl rfl rfl hZ.out (by rfl) (by kernel_rfl) (by kernel_rfl) ?_; intro w9 hB6 hg6 hz6; have hR := Lib.hid hB6; have hg := Lib.hid hg6; have hT := Lib.hid (hSn.out.grown hS3.out hg6); clear hB6 hg6 hz6; have q0 : w9.cell? ⟨W1.heap.size, 0, none⟩ = some (.slice oa on oc) := (hT.out.q.cell 0).trans rfl; have q1 : w9.cell? ⟨W1.heap.size, 1, none⟩ = some (.int .u16 ty) := (hT.out.q.cell 1).trans rfl; have q2 : w9.cell? ⟨W1.heap.size, 2, none⟩ = some (.int .u16 cl) := (hT.out.q.cell 2).trans rfl; have q3 : w9.cell? ⟨W1.heap.size, 3, none⟩ = some (.int .u32 ttl) := (hT.out.q.cell 3).trans rfl; have q4 : w9.cell? ⟨W1.heap.size, 4, none⟩ = some (.slice ma mn mc) := (hT.out.q.cell 4).trans rfl; have q5 : w9.cell? ⟨W1.heap.size, 5, none⟩ = some (.slice ua un uc) := (hT.out.q.cell 5).trans rfl; have q6 : w9.cell? ⟨W1.heap.size, 6, none⟩ = some (.slice xa xn xc) := (hT.out.q.cell 6).trans rfl; have q7 : w9.cell? ⟨W1.heap.size, 7, none⟩ = some (.slice ra rn rc) := (hT.out.q.cell 7).trans rfl)
        have hS9 := Lib.hid hT.out
        clear hT hy hZ hSn hg hR hS3 hS2 hS1 hW4
        have hrd : Hid (Calls Try.prog 13 #[.agg #[.slice oa on oc, .int .u16 ty, .int .u16 cl, .int .u32 ttl, .slice ma mn mc, .slice ua un uc, .slice xa xn xc, .slice ra rn rc]] w9 fun e w' => ReadB w9.heap.size on ty cl ttl mn un xn L.raw e w' ∧ Below w9.heap.size w9 w') := Lib.hid (by
          have hq9 := hq'.out.ext hS9.out.bel
          exact read_any oa on oc ty cl ttl ma mn mc ua un uc xa xn xc hq9.raw hq9.ttl hq9.ty hq9.cl z0 z4 z5 z6 z7)
        try (go_wp2_with fail)
        refine hrd.out.mono ?_
        rintro e w10 ⟨hR10, hb10⟩
        have hS10 := Lib.hid (hS9.out.below hb10)
        clear q0 q1 q2 q3 q4 q5 q6 q7 hb10 hrd
        unfold ReadB at hR10
        split at hR10
        · rename_i hrk
          split at hR10
          · subst hR10
            unfold eV nilV
            obtain ⟨W11, hW11⟩ : ∃ W, w10.alloc (.cells #[.int .i64 0, .int .i64 0, .int .i64 0, .bool false, .slice none 0 0] 24) = W := ⟨_, rfl⟩
            have hZ : Hid (Blk W11 w10.heap.size 24 (0, 0) [.int .i64 0, .int .i64 0, .int .i64 0, .bool false, .slice none 0 0]) := Lib.hid (by rw [← hW11]; exact Blk.new w10 24 (0, 0) #[.int .i64 0, .int .i64 0, .int .i64 0, .bool false, .slice none 0 0])
            have hy : Hid (Below w10.heap.size w10 W11) := Lib.hid (by rw [← hW11]; exact alloc_bel _ _)
            have hSn := Lib.hid (hS10.out.below hy.out)
            go_wp2_with (refine store_whole rfl 24 (.tmp 10) (.tmp 48) rfl rfl rfl hZ.out (by rfl) (by kernel_rfl) (by kernel_rfl) ?_; intro w12 hB6 hg6 hz6; have hR := Lib.hid hB6; have hg := Lib.hid hg6; have hT := Lib.hid (hSn.out.grown hS10.out hg6); clear hB6 hg6 hz6)
            go_ret
            exact ⟨rfl, hT.out.bel⟩
          · rename_i A hpA
            obtain ⟨v, rfl, hv⟩ := hR10
            obtain ⟨av2, cv2, rfl, _⟩ := hv.rdO
            have hv' := Lib.hid hv
            have hrk' := Lib.hid (And.intro hrk hpA)
            unfold eV
            generalize hx1 : ((ttl / 16777216 : Nat) : Int) = t1
            generalize hx2 : ((ttl / 65536 % 256 : Nat) : Int) = t2
            generalize hx3 : (ttl / 32768 % 2 == 1) = t3
            have hX := Lib.hid (And.intro hx1 (And.intro hx2 hx3))
            clear hv hrk hpA hx1 hx2 hx3
            obtain ⟨W11, hW11⟩ : ∃ W, w10.alloc (.cells #[.int .i64 0, .int .i64 0, .int .i64 0, .bool false, .slice none 0 0] 24) = W := ⟨_, rfl⟩
            have hZ : Hid (Blk W11 w10.heap.size 24 (0, 0) [.int .i64 0, .int .i64 0, .int .i64 0, .bool false, .slice none 0 0]) := Lib.hid (by rw [← hW11]; exact Blk.new w10 24 (0, 0) #[.int .i64 0, .int .i64 0, .int .i64 0, .bool false, .slice none 0 0])
            have hy : Hid (Below w10.heap.size w10 W11) := Lib.hid (by rw [← hW11]; exact alloc_bel _ _)
            have hSn := Lib.hid (hS10.out.below hy.out)
            go_wp2_with (refine store_whole rfl 24 (.tmp 10) (.tmp 48) rfl rfl rfl hZ.out (by rfl) (by kernel_rfl) (by kernel_rfl) ?_; intro w12 hB6 hg6 hz6; have hR := Lib.hid hB6; have hg := Lib.hid hg6; have hT := Lib.hid (hSn.out.grown hS10.out hg6); clear hB6 hg6 hz6; have y0 : w12.cell? ⟨w10.heap.size, 0, none⟩ = some (.int .i64 cl) := (hR.out.cell 0).trans rfl; have y1 : w12.cell? ⟨w10.heap.size, 1, none⟩ = some (.int .i64 t1) := (hR.out.cell 1).trans rfl; have y2 : w12.cell? ⟨w10.heap.size, 2, none⟩ = some (.int .i64 t2) := (hR.out.cell 2).trans rfl; have y3 : w12.cell? ⟨w10.heap.size, 3, none⟩ = some (.bool t3) := (hR.out.cell 3).trans rfl; have y4 : w12.cell? ⟨w10.heap.size, 4, none⟩ = some (.slice av2 A.length cv2) := (hR.out.cell 4).trans rfl)
            have hrr : Hid (Calls Try.prog 11 #[.agg #[.int .i64 cl, .int .i64 t1, .int .i64 t2, .bool t3, .slice av2 A.length cv2]] w12 fun e w' => (∃ a c, e = .returned (.tuple #[rV nilV 41 cl ttl nilV nilV nilV (.slice a L.raw.length c), .int .i64 0]) ∧ Rd byteE w' a L.raw.length c L.raw) ∧ Below w12.heap.size w12 w') := Lib.hid (by
              have h3 : Below w10.heap.size w10 w12 := hy.out.grown hg.out hy.out.size (fun k hk => by cases hk; exact Nat.le_refl _)
              have := rec_read (w := w12) hrk'.out.2 hq'.out.cl hq'.out.ttl hrk'.out.1.2.2.1 hrk'.out.1.2.2.2.2.2.2 (hv'.out.ext h3)
              rw [hX.out.1, hX.out.2.1, hX.out.2.2] at this
              exact this)
            refine hrr.out.mono ?_
            rintro e w13 ⟨⟨az, cz, rfl, hz⟩, hb13⟩
            have hz' := Lib.hid hz
            unfold rV nilV
            have hS13 := Lib.hid (hT.out.below hb13)
            generalize hnr : L.raw.length = nr
            have hnr' := Lib.hid hnr
            clear hb13 hz hrr hy hZ hSn hg hR hT hW11 hnr y0 y1 y2 y3 y4
            obtain ⟨W14, hW14⟩ : ∃ W, w13.alloc (.cells #[.slice none 0 0, .int .u16 0, .int .u16 0, .int .u32 0, .slice none 0 0, .slice none 0 0, .slice none 0 0, .slice none 0 0] 37) = W := ⟨_, rfl⟩
            have hZ : Hid (Blk W14 w13.heap.size 37 (0, 0) [.slice none 0 0, .int .u16 0, .int .u16 0, .int .u32 0, .slice none 0 0, .slice none 0 0, .slice none 0 0, .slice none 0 0]) := Lib.hid (by rw [← hW14]; exact Blk.new w13 37 (0, 0) #[.slice none 0 0, .int .u16 0, .int .u16 0, .int .u32 0, .slice none 0 0, .slice none 0 0, .slice none 0 0, .slice none 0 0])
            have hy : Hid (Below w13.heap.size w13 W14) := Lib.hid (by rw [← hW14]; exact alloc_bel _ _)
            have hSn := Lib.hid (hS13.out.below hy.out)
            go_upto_region 13 with (refine store_whole rfl 37 (.tmp 12) (.tmp 60) rfl rfl rfl hZ.out (by rfl) (by kernel_rfl) (by kernel_rfl) ?_; intro w15 hB6 hg6 hz6; have hR := Lib.hid hB6; have hg := Lib.hid hg6; have hT := Lib.hid (hSn.out.grown hS13.out hg6); clear hB6 hg6 hz6; have y0 : w15.cell? ⟨w13.heap.size, 0, none⟩ = some (.slice none 0 0) := (hR.out.cell 0).trans rfl; have y1 : w15.cell? ⟨w13.heap.size, 1, none⟩ = some (.int .u16 41) := (hR.out.cell 1).trans rfl; have y2 : w15.cell? ⟨w13.heap.size, 2, none⟩ = some (.int .u16 cl) := (hR.out.cell 2).trans rfl; have y3 : w15.cell? ⟨w13.heap.size, 3, none⟩ = some (.int .u32 ttl) := (hR.out.cell 3).trans rfl; have y4 : w15.cell? ⟨w13.heap.size, 4, none⟩ = some (.slice none 0 0) := (hR.out.cell 4).trans rfl; have y5 : w15.cell? ⟨w13.heap.size, 5, none⟩ = some (.slice none 0 0) := (hR.out.cell 5).trans rfl; have y6 : w15.cell? ⟨w13.heap.size, 6, none⟩ = some (.slice none 0 0) := (hR.out.cell 6).trans rfl; have y7 : w15.cell? ⟨w13.heap.size, 7, none⟩ = some (.slice az nr cz) := (hR.out.cell 7).trans rfl; have q0 : w15.cell? ⟨W1.heap.size, 0, none⟩ = some (.slice oa on oc) := (hT.out.q.cell 0).trans rfl; have q1 : w15.cell? ⟨W1.heap.size, 1, none⟩ = some (.int .u16 ty) := (hT.out.q.cell 1).trans rfl; have q2 : w15.cell? ⟨W1.heap.size, 2, none⟩ = some (.int .u16 cl) := (hT.out.q.cell 2).trans rfl; have q3 : w15.cell? ⟨W1.heap.size, 3, none⟩ = some (.int .u32 ttl) := (hT.out.q.cell 3).trans rfl; have q4 : w15.cell? ⟨W1.heap.size, 4, none⟩ = some (.slice ma mn mc) := (hT.out.q.cell 4).trans rfl; have q5 : w15.cell? ⟨W1.heap.size, 5, none⟩ = some (.slice ua un uc) := (hT.out.q.cell 5).trans rfl; have q6 : w15.cell? ⟨W1.heap.size, 6, none⟩ = some (.slice xa xn xc) := (hT.out.q.cell 6).trans rfl; have q7 : w15.cell? ⟨W1.heap.size, 7, none⟩ = some (.slice ra rn rc) := (hT.out.q.cell 7).trans rfl)
            go_wp2_with fail
            have hsame : Hid (Calls Try.prog 15 #[.agg #[.slice none 0 0, .int .u16 41, .int .u16 cl, .int .u32 ttl, .slice none 0 0, .slice none 0 0, .slice none 0 0, .slice az nr cz], .agg #[.slice oa on oc, .int .u16 ty, .int .u16 cl, .int .u32 ttl, .slice ma mn mc, .slice ua un uc, .slice xa xn xc, .slice ra rn rc]] w15 fun e w' => e = .returned (.bool true) ∧ Below w15.heap.size w15 w') := Lib.hid (by
              have h3 : Below w13.heap.size w13 w15 := hy.out.grown hg.out hy.out.size (fun k hk => by cases hk; exact Nat.le_refl _)
              have hq15 := hq'.out.ext hT.out.bel
              obtain ⟨k1, k2, k3, k4, k5, k6, k7⟩ := hrk'.out.1
              have hz15 := hz'.out.ext h3
              rw [hnr'.out] at hz15
              have hbare : RecR w15 ⟨none, 0, 0, 41, cl, ttl, none, 0, 0, none, 0, 0, none, 0, 0, az, nr, cz⟩ L := RecR.bare hq15 hz15 k1 k4 k5 k6 (by decide)
              have h := same_rec hbare hq15 k2.symm rfl rfl
              unfold RD.val rV at h
              dsimp only at h
              exact h)
            refine hsame.out.mono ?_
            rintro e w16 ⟨rfl, hb16⟩
            have hS16 := Lib.hid (hT.out.below hb16)
            go_wp2_with fail
            go_ret
            exact ⟨rfl, hS16.out.bel⟩
        · subst hR10
          unfold eV nilV
          obtain ⟨W11, hW11⟩ : ∃ W, w10.alloc (.cells #[.int .i64 0, .int .i64 0, .int .i64 0, .bool false, .slice none 0 0] 24) = W := ⟨_, rfl⟩
          have hZ : Hid (Blk W11 w10.heap.size 24 (0, 0) [.int .i64 0, .int .i64 0, .int .i64 0, .bool false, .slice none 0 0]) := Lib.hid (by rw [← hW11]; exact Blk.new w10 24 (0, 0) #[.int .i64 0, .int .i64 0, .int .i64 0, .bool false, .slice none 0 0])
          have hy : Hid (Below w10.heap.size w10 W11) := Lib.hid (by rw [← hW11]; exact alloc_bel _ _)
          have hSn := Lib.hid (hS10.out.below hy.out)
          go_wp2_with (refine store_whole rfl 24 (.tmp 10) (.tmp 48) rfl rfl rfl hZ.out (by rfl) (by kernel_rfl) (by kernel_rfl) ?_; intro w12 hB6 hg6 hz6; have hR := Lib.hid hB6; have hg := Lib.hid hg6; have hT := Lib.hid (hSn.out.grown hS10.out hg6); clear hB6 hg6 hz6)
          go_ret
          exact ⟨rfl, hT.out.bel⟩

section
open Go.ChangeShapes Go.WideShapes
variable {H : Type} {enc : TypeId × Value → H}
set_option maxRecDepth 100000 in
theorem ednsBack_law {W : World} {r : Reach} {b0 : Nat} {ts : List TypeId} {ds : List (DataW H)} (v0 : Value) (d0 : DataW H) (p0 : List MemPlace) (h0 : DataW.Trod enc Try.prog W 0 (fun _ => true) true 24 v0 d0 p0) (hv0 : Value.okWide Try.prog W r b0 24 v0)
    (_ : (DataW.weightsEach Try.prog ts ds).all (· ≤ reachBytes) = true) (z0 : Sz Try.prog 24 d0) (v1 : Value) (d1 : DataW H) (p1 : List MemPlace) (h1 : DataW.Trod enc Try.prog W 0 (fun _ => true) true 37 v1 d1 p1) (hv1 : Value.okWide Try.prog W r b0 37 v1)
    (_ : (DataW.weightsEach Try.prog ts ds).all (· ≤ reachBytes) = true) (z1 : Sz Try.prog 37 d1) (_ : World) : Calls Try.prog 4 #[v0, v1] W fun e w' => e = .returned (.bool true) ∧ Below W.heap.size W w' := by
  obtain ⟨sz, hi, ver, b, a, n, c, O, rfl, hO, hC⟩ := open_edns hv0 h0 z0
  obtain ⟨q, rfl, L, hq⟩ := open_rec hv1 h1 z1
  exact back_any hO hC sz hi ver b hq
end
end Go.Proofs.Ythgnlbdolilklaa
