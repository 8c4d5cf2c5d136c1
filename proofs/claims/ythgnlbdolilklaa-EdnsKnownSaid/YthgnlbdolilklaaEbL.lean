/- Small lemmas of walks: two blocks that are kept; allocations. -/
import Derived.Test.YthgnlbdolilklaaAwkF
namespace Go.Proofs.Ythgnlbdolilklaa
open Go Go.RowKit
/-- the walk's state: the two parameters in their blocks -/
structure StB (w : World) (b : Nat) (E C : List Value) (wx : World) : Prop where
  bel : Below w.heap.size w wx
  e : Blk wx w.heap.size 24 (0, 0) E
  q : Blk wx b 37 (0, 0) C
  lt : w.heap.size < b
theorem StB.below {w wx wy : World} {b : Nat} {E C : List Value} (h : StB w b E C wx) (hb : Below wx.heap.size wx wy) : StB w b E C wy :=
  ⟨h.bel.trans (hb.mono h.bel.size), h.e.below hb h.e.lt, h.q.below hb h.q.lt, h.lt⟩
theorem StB.grown {w wx wp wy : World} {b : Nat} {E C : List Value} (h : StB w b E C wx) (hp : StB w b E C wp) (hg : wx.grownBy wy (some wp.heap.size)) : StB w b E C wy := by
  have h1 := hp.e.lt
  have h2 := hp.q.lt
  exact ⟨h.bel.grown hg h.bel.size (fun k hk => by have := Option.some.inj hk; omega), (hg.block _ h.e.lt (fun e => by have := Option.some.inj e; omega)).trans h.e, (hg.block _ h.q.lt (fun e => by have := Option.some.inj e; omega)).trans h.q, h.lt⟩
theorem alloc_bel (w : World) (o : Obj) : Below w.heap.size w (w.alloc o) := (Below.refl _ _).alloc (Nat.le_refl _) _
theorem Blk.grown_ {w wy : World} {b g : Nat} {t : TypeId} {fz : Nat × Nat} {C : List Value} (h : Blk w b t fz C) (hg : w.grownBy wy (some g)) (hne : b ≠ g) : Blk wy b t fz C := (hg.block _ h.lt (fun e => hne (Option.some.inj e))).trans h
theorem RdO.grown {w wp wx wy : World} {a : Option Addr} {n c : Nat} {O : List Opt} (h : RdO w a n c O) (h1 : Below w.heap.size w wp) (h2 : Below wp.heap.size wp wx) (hg : wx.grownBy wy (some wp.heap.size)) : RdO wy a n c O := by
  have h3 : Below wp.heap.size wp wy := h2.grown hg h2.size (fun k hk => by cases hk; exact Nat.le_refl _)
  exact (h.ext h1).ext h3
end Go.Proofs.Ythgnlbdolilklaa
