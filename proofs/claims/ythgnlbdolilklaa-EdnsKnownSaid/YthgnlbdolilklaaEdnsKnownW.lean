/- EdnsKnown. Printed by gen_ek.py. -/
import Derived.Test.YthgnlbdolilklaaEdnsWithW
import Derived.Test.YthgnlbdolilklaaInR
namespace Go.Proofs.Ythgnlbdolilklaa
open Go Go.RowKit
def O12 : List Opt := [(10, [1, 2])]
theorem O12_raw : rawB O12 = [0, 10, 0, 2, 1, 2] := by decide +kernel
theorem rdO12 (w : World) : RdO ((w.alloc (.cells #[.int .u8 1, .int .u8 2] 5)).alloc (.cells #[.int .u16 10, .slice (some ⟨w.heap.size, 0, none⟩) 2 2] 53)) (some ⟨(w.alloc (.cells #[.int .u8 1, .int .u8 2] 5)).heap.size, 0, none⟩) 1 1 O12 := by
  refine ⟨[(10, (some ⟨w.heap.size, 0, none⟩, 2, 2))], (own_rd_at (Own.made opE _ #[.int .u16 10, .slice (some ⟨w.heap.size, 0, none⟩) 2 2] [(10, (some ⟨w.heap.size, 0, none⟩, 2, 2))] 1 rfl rfl (by decide))).1, rfl, fun j p o hp ho => ?_⟩
  match j, hp, ho with
  | 0, hp, ho =>
    cases hp
    cases ho
    exact ⟨rfl, ((own_rd_at (Own.made byteE w #[.int .u8 1, .int .u8 2] [1, 2] 2 rfl rfl (by decide))).1).ext (alloc_bel _ _)⟩
  | j + 1, hp, ho => simp at hp
theorem rd6 (w : World) : Rd byteE (w.alloc (.cells #[.int .u8 0, .int .u8 10, .int .u8 0, .int .u8 2, .int .u8 1, .int .u8 2] 5)) (some ⟨w.heap.size, 0, none⟩) 6 6 [0, 10, 0, 2, 1, 2] := (own_rd_at (Own.made byteE w #[.int .u8 0, .int .u8 10, .int .u8 0, .int .u8 2, .int .u8 1, .int .u8 2] [0, 10, 0, 2, 1, 2] 6 rfl rfl (by decide))).1
def RQ (ra : Option Addr) (rc : Nat) : RD := ⟨none, 0, 0, 41, 4096, 65536, none, 0, 0, none, 0, 0, none, 0, 0, ra, 6, rc⟩
def RLq : RL := ⟨[], [], [], [], [0, 10, 0, 2, 1, 2]⟩
theorem recRq {w : World} {b : Nat} {ra : Option Addr} {rc : Nat} (h : Own byteE w b (.slice ra 6 rc) [0, 10, 0, 2, 1, 2]) : RecR w (RQ ra rc) RLq := by
  have h1 := (own_rd_at h).1
  have hz : (0 : Nat) ≤ maxLen := Nat.zero_le _
  exact ⟨⟨Rd.zero strE w none 0 hz, fun s hs => by simp [RLq] at hs, by unfold RQ; unfold reachBytes; dsimp only; omega⟩, ⟨[], Rd.zero slN w none 0 hz, rfl, by unfold RQ; unfold reachBytes; dsimp only; omega, fun j p X hp => by simp at hp⟩, Rd.zero u32E w none 0 hz, ⟨Rd.zero strE w none 0 hz, fun s hs => by simp [RLq] at hs, by unfold RQ; unfold reachBytes; dsimp only; omega⟩, h1, by unfold RQ; dsimp only; omega, by unfold RQ; dsimp only; omega, by unfold RQ; dsimp only; omega, fun n hn => by simp [RLq] at hn, by unfold RQ; unfold reachBytes; dsimp only; omega, by unfold RQ; unfold reachBytes; dsimp only; omega⟩
def R6 : List UInt8 := [0, 10, 0, 2, 1, 2]
def F4 (s0 s1 s3 s5 : Nat) (ra : Option Addr) (rc : Nat) (v3 v4 v5 v51 v53 v55 : Value) : Act := { tmps := #[.bool false, .pointer (some ⟨s3, 0, none⟩), .int .i64 0, v3, v4, v5, undef, undef, undef, undef, undef, undef, undef, undef, undef, undef, undef, undef, undef, undef, undef, undef, undef, undef, undef, undef, undef, .tuple #[.agg #[.slice none 0 0, .int .u16 41, .int .u16 4096, .int .u32 65536, .slice none 0 0, .slice none 0 0, .slice none 0 0, .slice ra 6 rc], .int .i64 0], .slice (some ⟨s0, 0, none⟩) 2 2, .agg #[.int .u16 10, .slice (some ⟨s0, 0, none⟩) 2 2], .slice (some ⟨s1, 0, none⟩) 1 1, .agg #[.int .i64 4096, .int .i64 0, .int .i64 1, .bool false, .slice (some ⟨s1, 0, none⟩) 1 1], .tuple #[.agg #[.slice none 0 0, .int .u16 41, .int .u16 4096, .int .u32 65536, .slice none 0 0, .slice none 0 0, .slice none 0 0, .slice ra 6 rc], .int .i64 0], .agg #[.slice none 0 0, .int .u16 41, .int .u16 4096, .int .u32 65536, .slice none 0 0, .slice none 0 0, .slice none 0 0, .slice ra 6 rc], .int .i64 0, .pointer (some ⟨s3, 4, none⟩), .pointer (some ⟨s3, 7, none⟩), .slice ra 6 rc, .slice (some ⟨s5, 0, none⟩) 6 6, .bool true, .bool false, .bool false, .pointer (some ⟨s3, 3, none⟩), .int .u32 65536, .bool false, .bool false, .bool false, .int .i64 0, .bool false, .bool false, .agg #[.slice none 0 0, .int .u16 41, .int .u16 4096, .int .u32 65536, .slice none 0 0, .slice none 0 0, .slice none 0 0, .slice ra 6 rc], v51, .agg #[.slice none 0 0, .int .u16 41, .int .u16 4096, .int .u32 65536, .slice none 0 0, .slice none 0 0, .slice none 0 0, .slice ra 6 rc], v53, .agg #[.slice none 0 0, .int .u16 41, .int .u16 4096, .int .u32 65536, .slice none 0 0, .slice none 0 0, .slice none 0 0, .slice ra 6 rc], v55, undef, undef, undef, undef, undef, undef, undef, undef, undef, undef, undef, undef, undef, undef, undef, undef, undef, undef, undef, undef, undef, undef, undef, undef, undef, undef, undef, undef, undef, undef, undef, undef, undef, undef, undef, undef, undef, undef, undef, undef, undef, undef, undef, undef, undef, undef, undef, undef, undef, undef, undef, undef, undef, undef, undef, undef, undef, undef, undef, undef, undef, undef, undef, undef, undef, undef, undef, undef, undef, undef, undef, undef, undef, undef, undef, undef, undef, undef, undef, undef, undef, undef, undef, undef, undef, undef, undef, undef, undef, undef, undef, undef, undef, undef, undef, undef, undef, undef, undef, undef, undef, undef, undef, undef, undef, undef, undef, undef, undef, undef, undef, undef], defers := [] }
def RDok (q : RD) : Prop := q.on = 0 ∧ q.ty = 41 ∧ q.cl = 4096 ∧ q.ttl = 65536 ∧ q.mn = 0 ∧ q.un = 0 ∧ q.xn = 0 ∧ q.rn = 6
def rawV (q : RD) : Value := .slice q.ra q.rn q.rc
def Z8c : List Value := [.slice none 0 0, .int .u16 0, .int .u16 0, .int .u32 0, .slice none 0 0, .slice none 0 0, .slice none 0 0, .slice none 0 0]
/-- what is so while region 4 goes on -/
structure I4 (W U : World) (l3 l4 l5 m1 m2 m3 : Bool) (b3 b4 b5 : Nat) (q1 q2 q3 : RD) (v3 v4 v5 v51 v53 v55 : Value) : Prop where
  bel : Below W.heap.size W U
  a3 : l3 = true → v3 = .pointer (some ⟨b3, 0, none⟩) ∧ Blk U b3 37 (0, 0) Z8c ∧ W.heap.size ≤ b3
  a4 : l4 = true → v4 = .pointer (some ⟨b4, 0, none⟩) ∧ Blk U b4 37 (0, 0) Z8c ∧ W.heap.size ≤ b4
  a5 : l5 = true → v5 = .pointer (some ⟨b5, 0, none⟩) ∧ Blk U b5 37 (0, 0) Z8c ∧ W.heap.size ≤ b5
  n34 : l3 = true → l4 = true → b3 ≠ b4
  n35 : l3 = true → l5 = true → b3 ≠ b5
  n45 : l4 = true → l5 = true → b4 ≠ b5
  c1 : m1 = true → v51 = q1.val ∧ RDok q1 ∧ Own byteE U W.heap.size (rawV q1) R6
  c2 : m2 = true → v53 = q2.val ∧ RDok q2 ∧ Own byteE U W.heap.size (rawV q2) R6 ∧ ∀ g, (rawV q1).ownBlock = some g → (rawV q2).ownBlock ≠ some g
  c3 : m3 = true → v55 = q3.val ∧ RDok q3 ∧ Own byteE U W.heap.size (rawV q3) R6 ∧ ∀ g, (rawV q1).ownBlock = some g → (rawV q3).ownBlock ≠ some g
  o2 : m2 = true → m1 = true
  o3 : m3 = true → m2 = true
theorem I4.ext {U' : World} {W U : World} {l3 l4 l5 m1 m2 m3 : Bool} {b3 b4 b5 : Nat} {q1 q2 q3 : RD} {v3 v4 v5 v51 v53 v55 : Value} (h : I4 W U l3 l4 l5 m1 m2 m3 b3 b4 b5 q1 q2 q3 v3 v4 v5 v51 v53 v55) (hb : Below U.heap.size U U') : I4 W U' l3 l4 l5 m1 m2 m3 b3 b4 b5 q1 q2 q3 v3 v4 v5 v51 v53 v55 where
  bel := h.bel.trans (hb.mono h.bel.size)
  a3 := fun e => ⟨(h.a3 e).1, (h.a3 e).2.1.below hb (h.a3 e).2.1.lt, (h.a3 e).2.2⟩
  a4 := fun e => ⟨(h.a4 e).1, (h.a4 e).2.1.below hb (h.a4 e).2.1.lt, (h.a4 e).2.2⟩
  a5 := fun e => ⟨(h.a5 e).1, (h.a5 e).2.1.below hb (h.a5 e).2.1.lt, (h.a5 e).2.2⟩
  n34 := h.n34
  n35 := h.n35
  n45 := h.n45
  c1 := fun e => ⟨(h.c1 e).1, (h.c1 e).2.1, (h.c1 e).2.2.ext hb⟩
  c2 := fun e => ⟨(h.c2 e).1, (h.c2 e).2.1, (h.c2 e).2.2.1.ext hb, (h.c2 e).2.2.2⟩
  c3 := fun e => ⟨(h.c3 e).1, (h.c3 e).2.1, (h.c3 e).2.2.1.ext hb, (h.c3 e).2.2.2⟩
  o2 := h.o2
  o3 := h.o3
theorem I4.al3 {W U : World} {l3 l4 l5 m1 m2 m3 : Bool} {b3 b4 b5 : Nat} {q1 q2 q3 : RD} {v3 v4 v5 v51 v53 v55 : Value} (h : I4 W U l3 l4 l5 m1 m2 m3 b3 b4 b5 q1 q2 q3 v3 v4 v5 v51 v53 v55) : I4 W (U.alloc (.cells Z8c.toArray 37)) true l4 l5 m1 m2 m3 U.heap.size b4 b5 q1 q2 q3 (.pointer (some ⟨U.heap.size, 0, none⟩)) v4 v5 v51 v53 v55 := by
  have hb : Below U.heap.size U (U.alloc (.cells Z8c.toArray 37)) := alloc_bel _ _
  have h2 := h.ext hb
  exact { h2 with
    a3 := fun _ => ⟨rfl, Blk.new U 37 (0, 0) Z8c.toArray, h.bel.size⟩
    n34 := fun _ e => Nat.ne_of_gt (h.a4 e).2.1.lt
    n35 := fun _ e => Nat.ne_of_gt (h.a5 e).2.1.lt
  }
theorem I4.al4 {W U : World} {l3 l4 l5 m1 m2 m3 : Bool} {b3 b4 b5 : Nat} {q1 q2 q3 : RD} {v3 v4 v5 v51 v53 v55 : Value} (h : I4 W U l3 l4 l5 m1 m2 m3 b3 b4 b5 q1 q2 q3 v3 v4 v5 v51 v53 v55) : I4 W (U.alloc (.cells Z8c.toArray 37)) l3 true l5 m1 m2 m3 b3 U.heap.size b5 q1 q2 q3 v3 (.pointer (some ⟨U.heap.size, 0, none⟩)) v5 v51 v53 v55 := by
  have hb : Below U.heap.size U (U.alloc (.cells Z8c.toArray 37)) := alloc_bel _ _
  have h2 := h.ext hb
  exact { h2 with
    a4 := fun _ => ⟨rfl, Blk.new U 37 (0, 0) Z8c.toArray, h.bel.size⟩
    n34 := fun e _ => Nat.ne_of_lt (h.a3 e).2.1.lt
    n45 := fun _ e => Nat.ne_of_gt (h.a5 e).2.1.lt
  }
theorem I4.al5 {W U : World} {l3 l4 l5 m1 m2 m3 : Bool} {b3 b4 b5 : Nat} {q1 q2 q3 : RD} {v3 v4 v5 v51 v53 v55 : Value} (h : I4 W U l3 l4 l5 m1 m2 m3 b3 b4 b5 q1 q2 q3 v3 v4 v5 v51 v53 v55) : I4 W (U.alloc (.cells Z8c.toArray 37)) l3 l4 true m1 m2 m3 b3 b4 U.heap.size q1 q2 q3 v3 v4 (.pointer (some ⟨U.heap.size, 0, none⟩)) v51 v53 v55 := by
  have hb : Below U.heap.size U (U.alloc (.cells Z8c.toArray 37)) := alloc_bel _ _
  have h2 := h.ext hb
  exact { h2 with
    a5 := fun _ => ⟨rfl, Blk.new U 37 (0, 0) Z8c.toArray, h.bel.size⟩
    n35 := fun e _ => Nat.ne_of_lt (h.a3 e).2.1.lt
    n45 := fun e _ => Nat.ne_of_lt (h.a4 e).2.1.lt
  }
theorem I4.cl1 {U' : World} {W U : World} {l3 l4 l5 m2 m3 : Bool} {b3 b4 b5 : Nat} {q1 q2 q3 : RD} {v3 v4 v5 v51 v53 v55 : Value} {q : RD} (h : I4 W U l3 l4 l5 false m2 m3 b3 b4 b5 q1 q2 q3 v3 v4 v5 v51 v53 v55) (hb : Below U.heap.size U U') (hq : RDok q) (ho : Own byteE U' U.heap.size (rawV q) R6) : I4 W U' l3 l4 l5 true m2 m3 b3 b4 b5 q q2 q3 v3 v4 v5 q.val v53 v55 := by
  have h2 := h.ext hb
  exact { h2 with
    c1 := fun _ => ⟨rfl, hq, ho.mono h.bel.size⟩
    c2 := fun e => absurd (h.o2 e) (by decide)
    c3 := fun e => absurd (h.o2 (h.o3 e)) (by decide)
    o2 := fun _ => rfl
  }
theorem I4.cl2 {U' : World} {W U : World} {l3 l4 l5 m1 m3 : Bool} {b3 b4 b5 : Nat} {q1 q2 q3 : RD} {v3 v4 v5 v51 v53 v55 : Value} {q : RD} (h : I4 W U l3 l4 l5 m1 false m3 b3 b4 b5 q1 q2 q3 v3 v4 v5 v51 v53 v55) (hp : m1 = true) (hb : Below U.heap.size U U') (hq : RDok q) (ho : Own byteE U' U.heap.size (rawV q) R6) : I4 W U' l3 l4 l5 m1 true m3 b3 b4 b5 q1 q q3 v3 v4 v5 v51 q.val v55 := by
  have h2 := h.ext hb
  exact { h2 with
    c2 := fun _ => ⟨rfl, hq, ho.mono h.bel.size, fun g hg hk => by have h3 := ((h.c1 hp).2.2.lt g hg).2; have h4 := (ho.lt g hk).1; omega⟩
    o2 := fun _ => hp
    o3 := fun _ => rfl
  }
theorem I4.cl3 {U' : World} {W U : World} {l3 l4 l5 m1 m2 : Bool} {b3 b4 b5 : Nat} {q1 q2 q3 : RD} {v3 v4 v5 v51 v53 v55 : Value} {q : RD} (h : I4 W U l3 l4 l5 m1 m2 false b3 b4 b5 q1 q2 q3 v3 v4 v5 v51 v53 v55) (hp : m2 = true) (hb : Below U.heap.size U U') (hq : RDok q) (ho : Own byteE U' U.heap.size (rawV q) R6) : I4 W U' l3 l4 l5 m1 m2 true b3 b4 b5 q1 q2 q v3 v4 v5 v51 v53 q.val := by
  have h2 := h.ext hb
  have hp1 := h.o2 hp
  exact { h2 with
    c3 := fun _ => ⟨rfl, hq, ho.mono h.bel.size, fun g hg hk => by have h3 := ((h.c1 hp1).2.2.lt g hg).2; have h4 := (ho.lt g hk).1; omega⟩
    o3 := fun _ => hp
  }
/-- behind region 4 -/
structure E4 (W U : World) (b3 b4 b5 : Nat) (q1 q2 q3 : RD) : Prop where
  bel : Below W.heap.size W U
  k3 : Blk U b3 37 (0, 0) q1.val.cells.toList
  k4 : Blk U b4 37 (0, 0) q2.val.cells.toList
  k5 : Blk U b5 37 (0, 0) q3.val.cells.toList
  z : W.heap.size ≤ b3 ∧ W.heap.size ≤ b4 ∧ W.heap.size ≤ b5 ∧ b3 ≠ b4 ∧ b3 ≠ b5 ∧ b4 ≠ b5
  r1 : RDok q1 ∧ Own byteE U W.heap.size (rawV q1) R6
  r2 : RDok q2 ∧ Own byteE U W.heap.size (rawV q2) R6 ∧ ∀ g, (rawV q1).ownBlock = some g → (rawV q2).ownBlock ≠ some g
  r3 : RDok q3 ∧ Own byteE U W.heap.size (rawV q3) R6 ∧ ∀ g, (rawV q1).ownBlock = some g → (rawV q3).ownBlock ≠ some g
def RA4 (W : World) (s0 s1 s3 s5 : Nat) (ra : Option Addr) (rc : Nat) (e : Exit) (a : Act) (U : World) : Prop := e = .normal ∧ ∃ b3 b4 b5 q1 q2 q3, a = F4 s0 s1 s3 s5 ra rc (.pointer (some ⟨b3, 0, none⟩)) (.pointer (some ⟨b4, 0, none⟩)) (.pointer (some ⟨b5, 0, none⟩)) q1.val q2.val q3.val ∧ E4 W U b3 b4 b5 q1 q2 q3
theorem row_set (X : List UInt8) (q : Nat) (x : UInt8) : rowOf byteE (X.set q x) = (rowOf byteE X).set q (.int .u8 x.toNat) := by
  rw [rowOf_byte, rowOf_byte]
  unfold u8s
  rw [List.map_set]
  rfl
/-- behind region 5 -/
structure M4 (W V : World) (b3 b4 b5 na : Nat) (q1 q2 q3 : RD) : Prop where
  bel : Below W.heap.size W V
  k3 : Blk V b3 37 (0, 0) q1.val.cells.toList
  k4 : Blk V b4 37 (0, 0) (q2.val.cells.toList.set 0 (.slice (some ⟨na, 0, none⟩) 1 1))
  k5 : Blk V b5 37 (0, 0) (q3.val.cells.toList.set 3 (.int .u32 1))
  r1 : Own byteE V W.heap.size (rawV q1) [0, 10, 0, 3, 1, 2]
  r2 : Own byteE V W.heap.size (rawV q2) R6
  r3 : Own byteE V W.heap.size (rawV q3) R6
theorem E4.mod {W U V1 V2 V3 V4 : World} {b3 b4 b5 g1 : Nat} {q1 q2 q3 : RD} (h : E4 W U b3 b4 b5 q1 q2 q3) (hra : q1.ra = some ⟨g1, 0, none⟩) (e1 : U.alloc (.cells #[.string ⟨#[97]⟩] 9) = V1) (e2 : V1.setCell ⟨g1, 3, none⟩ (.int .u8 3) = V2) (e3 : V2.setCell ⟨b4, 0, none⟩ (.slice (some ⟨U.heap.size, 0, none⟩) 1 1) = V3) (e4 : V3.setCell ⟨b5, 3, none⟩ (.int .u32 1) = V4) :
    (V1.cell? ⟨g1, 3, none⟩ = some (.int .u8 2) ∧ V1.frozen? ⟨g1, 3, none⟩ = false) ∧ (V2.cell? ⟨b4, 0, none⟩ = some (.slice q2.oa q2.on q2.oc) ∧ V2.frozen? ⟨b4, 0, none⟩ = false) ∧ (V3.cell? ⟨b5, 3, none⟩ = some (.int .u32 q3.ttl) ∧ V3.frozen? ⟨b5, 3, none⟩ = false) ∧ M4 W V4 b3 b4 b5 U.heap.size q1 q2 q3 := by
  have j1 : Below U.heap.size U V1 := by rw [← e1]; exact alloc_bel _ _
  obtain ⟨ok1, o1⟩ := h.r1
  obtain ⟨ok2, o2, f2⟩ := h.r2
  obtain ⟨ok3, o3, f3⟩ := h.r3
  obtain ⟨y3, y4, y5, n34, n35, n45⟩ := h.z
  have x3 := h.k3.below j1 h.k3.lt
  have x4 := h.k4.below j1 h.k4.lt
  have x5 := h.k5.below j1 h.k5.lt
  have o1' := o1.ext j1
  have o2' := o2.ext j1
  have o3' := o3.ext j1
  have bel1 := h.bel.trans (j1.mono h.bel.size)
  have eb : (rawV q1).ownBlock = some g1 := by unfold rawV; rw [hra]; rfl
  have hlt := o1'.lt g1 eb
  rcases o1' with ⟨e, _⟩ | ⟨g, cap, X, e, hbg, hB, hX, hle, hcm, htk⟩
  · unfold rawV at e; rw [hra] at e; cases e
  · have hg : g = g1 := by unfold rawV at e; rw [hra] at e; injection e with e5; injection e5 with e6; injection e6 with e7; exact e7.symm
    subst hg
    have hXl : 6 ≤ X.length := by rw [hX]; exact hle
    have c3 : V1.cell? ⟨g, 3, none⟩ = some (.int .u8 2) := by
      rw [hB.cell, rowOf_byte]
      have e7 : X[3]? = some 2 := by
        have e8 : (X.take 6)[3]? = some 2 := by rw [show X.take 6 = R6 from htk]; rfl
        rw [List.getElem?_take] at e8
        simpa using e8
      unfold u8s
      rw [List.getElem?_map, e7]
      rfl
    have fz : V1.frozen? ⟨g, 3, none⟩ = false := by rw [hB.frozen]; simp
    have t2 : Tch (fun k => k = g) V1 V2 := by rw [← e2]; exact Tch.setCell (S := fun k => k = g) V1 (p := ⟨g, 3, none⟩) rfl _
    have hB2 : Blk V2 g 5 (0, 0) (rowOf byteE (X.set 3 3)) := by rw [row_set, ← e2]; exact hB.set 3 _
    have o1b : Own byteE V2 W.heap.size (rawV q1) [0, 10, 0, 3, 1, 2] := by
      refine .inr ⟨g, cap, X.set 3 3, ?_, hbg, hB2, by rw [List.length_set]; exact hX, hle, hcm, ?_⟩
      · exact e
      · show (X.set 3 3).take 6 = _
        rw [List.take_set, show X.take 6 = R6 from htk]
        rfl
    have a3 : ¬ b3 = g := fun e => by subst e; exact absurd (blk_type hB x3) (by decide)
    have a4 : ¬ b4 = g := fun e => by subst e; exact absurd (blk_type hB x4) (by decide)
    have a5 : ¬ b5 = g := fun e => by subst e; exact absurd (blk_type hB x5) (by decide)
    have x3b := t2.blk x3 a3
    have x4b := t2.blk x4 a4
    have x5b := t2.blk x5 a5
    have o2b := t2.own o2' (fun b hb e => f2 g eb (by rw [hb, e]))
    have o3b := t2.own o3' (fun b hb e => f3 g eb (by rw [hb, e]))
    have bel2 := bel1.trans (t2.below bel1.size (fun b _ e => by rw [e]; exact hlt.1))
    have g3 : V2.grownBy V3 (some b4) := by rw [← e3]; exact grown_set _ _ _ _
    have x4c : Blk V3 b4 37 (0, 0) (q2.val.cells.toList.set 0 (.slice (some ⟨U.heap.size, 0, none⟩) 1 1)) := by rw [← e3]; exact x4b.set 0 _
    have x3c := x3b.grownV2 g3 (fun e => n34 (Option.some.inj e))
    have x5c := x5b.grownV2 g3 (fun e => n45 (Option.some.inj e).symm)
    have o1c := own_store (E := byteE) o1b x4b (by decide) g3
    have o2c := own_store (E := byteE) o2b x4b (by decide) g3
    have o3c := own_store (E := byteE) o3b x4b (by decide) g3
    have bel3 := bel2.grown g3 bel2.size (fun k hk => by have e5 := Option.some.inj hk; omega)
    have g4 : V3.grownBy V4 (some b5) := by rw [← e4]; exact grown_set _ _ _ _
    have x5d : Blk V4 b5 37 (0, 0) (q3.val.cells.toList.set 3 (.int .u32 1)) := by rw [← e4]; exact x5c.set 3 _
    refine ⟨⟨c3, fz⟩, ⟨(x4b.cell 0).trans rfl, by rw [x4b.frozen]; simp⟩, ⟨(x5c.cell 3).trans rfl, by rw [x5c.frozen]; simp⟩, bel3.grown g4 bel3.size (fun k hk => by have e5 := Option.some.inj hk; omega), x3c.grownV2 g4 (fun e => n35 (Option.some.inj e)), x4c.grownV2 g4 (fun e => n45 (Option.some.inj e)), x5d, own_store (E := byteE) o1c x5c (by decide) g4, own_store (E := byteE) o2c x5c (by decide) g4, own_store (E := byteE) o3c x5c (by decide) g4⟩
theorem read_bad {w : World} (a0 : Option Addr) (n0 c0 : Nat) (ty cl ttl : Nat) (a4 : Option Addr) (n4 c4 : Nat) (a5 : Option Addr) (n5 c5 : Nat) (a6 : Option Addr) (n6 c6 : Nat) {a : Option Addr} {n c : Nat} {l : List UInt8} (h : Rd byteE w a n c l)
    (ht : ttl < 4294967296) (hty : ty < 65536) (hcl : cl < 65536) (h0 : n0 ≤ 1152921504606846976) (h4 : n4 ≤ 1152921504606846976) (h5 : n5 ≤ 1152921504606846976) (h6 : n6 ≤ 1152921504606846976) (hn : n ≤ 1152921504606846976) (hb : ¬ rdOK n0 ty ttl n4 n5 n6 l.length ∨ prs l 0 = none) :
    Calls Try.prog 13 #[rV (.slice a0 n0 c0) ty cl ttl (.slice a4 n4 c4) (.slice a5 n5 c5) (.slice a6 n6 c6) (.slice a n c)] w fun e w' => e = .returned (.tuple #[.agg #[.int .i64 0, .int .i64 0, .int .i64 0, .bool false, .slice none 0 0], .int .i64 8]) ∧ Below w.heap.size w w' := by
  refine (read_any a0 n0 c0 ty cl ttl a4 n4 c4 a5 n5 c5 a6 n6 c6 h ht hty hcl h0 h4 h5 h6 hn).mono ?_
  rintro e w' ⟨h1, h2⟩
  refine ⟨?_, h2⟩
  unfold ReadB at h1
  split at h1
  · rename_i h3
    rcases hb with hb | hb
    · exact absurd h3 hb
    · rw [hb] at h1
      exact h1
  · exact h1
theorem rdM0 (w : World) : RdM w none 0 0 [] [] none 0 0 [] [] none 0 0 [] [] none 0 0 [] [] := by
  have hz : (0 : Nat) ≤ maxLen := Nat.zero_le _
  have hr : RdRs w none 0 0 [] [] := ⟨Rd.zero recE w none 0 hz, rfl, by decide, fun j q L hq => by simp at hq⟩
  exact ⟨⟨Rd.zero _ w none 0 hz, rfl, by decide, fun j q L hq => by simp at hq⟩, hr, hr, hr⟩
theorem ofU0 : OfU [] [] 0 0 0 false [] false 0 := .inl ⟨rfl, rfl, rfl, rfl, rfl, rfl, rfl, rfl⟩
theorem with0 (w : World) (sz : Int) (h0 : 0 ≤ sz) (h1 : sz ≤ 65535) :
    Calls Try.prog 22 #[.agg #[.int .u16 0, .bool false, .int .i64 0, .bool false, .bool false, .bool false, .bool false, .bool false, .bool false, .int .i64 0, .slice none 0 0, .slice none 0 0, .slice none 0 0, .slice none 0 0], .agg #[.int .i64 sz, .int .i64 0, .int .i64 0, .bool false, .slice none 0 0]] w fun e w' => (∃ aq cq a1 c1 a2 c2 a3 c3 A3, e = .returned (.tuple #[.agg #[.int .u16 0, .bool false, .int .i64 0, .bool false, .bool false, .bool false, .bool false, .bool false, .bool false, .int .i64 0, .slice aq 0 cq, .slice a1 0 c1, .slice a2 0 c2, .slice a3 1 c3], .int .i64 0]) ∧ RdRs w' a3 1 c3 A3 ([] ++ [optRL (rawB [])]) ∧ OfU A3 ([] ++ [optRL (rawB [])]) sz 0 0 false [] true 0) ∧ Below w.heap.size w w' := by
  have hg : mayB sz 0 0 = true ∧ (rawB []).length ≤ 65535 := ⟨by unfold mayB; simp; omega, by decide⟩
  refine (with_good (rdM0 w) (.int .u16 0) (.bool false) (.int .i64 0) (.bool false) (.bool false) (.bool false) (.bool false) (.bool false) (.bool false) (.int .i64 0) rfl (by decide) (RdO.none w) (fun o ho => by cases ho) (fun o ho => by cases ho) sz 0 0 false hg).mono ?_
  rintro e w' ⟨⟨vq, v1, v2, v3, rfl, om⟩, hb⟩
  refine ⟨?_, hb⟩
  obtain ⟨aq, cq, rfl⟩ := om.q.shape
  obtain ⟨a1, c1, rfl⟩ := om.a1.shape
  obtain ⟨a2, c2, rfl⟩ := om.a2.shape
  obtain ⟨a3, c3, A3, rfl, rA3, eA3⟩ := om.a3.rdRs (fit_snoc (rdM0 w).a3.fit (by decide) hg)
  exact ⟨aq, cq, a1, c1, a2, c2, a3, c3, A3, rfl, rA3, ofU_with rA3 (fun x hx => by cases hx) rfl eA3 hg (fun o ho => by cases ho)⟩
theorem two_rd {U : World} {ra : Option Addr} {rc b : Nat} (h : Own byteE U b (.slice ra 6 rc) [0, 10, 0, 2, 1, 2]) :
    RdRs (U.alloc (.cells #[.slice none 0 0, .int .u16 41, .int .u16 4096, .int .u32 65536, .slice none 0 0, .slice none 0 0, .slice none 0 0, .slice ra 6 rc, .slice none 0 0, .int .u16 41, .int .u16 4096, .int .u32 65536, .slice none 0 0, .slice none 0 0, .slice none 0 0, .slice ra 6 rc] 37)) (some ⟨U.heap.size, 0, none⟩) 2 2 [RQ ra rc, RQ ra rc] [RLq, RLq] ∧ OfU [RQ ra rc, RQ ra rc] [RLq, RLq] 0 0 0 false [] false 10 := by
  refine ⟨⟨(own_rd_at (Own.made recE U #[.slice none 0 0, .int .u16 41, .int .u16 4096, .int .u32 65536, .slice none 0 0, .slice none 0 0, .slice none 0 0, .slice ra 6 rc, .slice none 0 0, .int .u16 41, .int .u16 4096, .int .u32 65536, .slice none 0 0, .slice none 0 0, .slice none 0 0, .slice ra 6 rc] [RQ ra rc, RQ ra rc] 2 rfl rfl (by decide))).1, rfl, by decide, fun j q L hq hL => ?_⟩, .inr (.inl ⟨0, by rfl, by simp, by simp [idxF, RQ], rfl, rfl, rfl, rfl, rfl, rfl, rfl⟩)⟩
  have hr := (recRq h).ext (alloc_bel U (.cells #[.slice none 0 0, .int .u16 41, .int .u16 4096, .int .u32 65536, .slice none 0 0, .slice none 0 0, .slice none 0 0, .slice ra 6 rc, .slice none 0 0, .int .u16 41, .int .u16 4096, .int .u32 65536, .slice none 0 0, .slice none 0 0, .slice none 0 0, .slice ra 6 rc] 37))
  match j, hq, hL with
  | 0, hq, hL =>
    cases hq
    cases hL
    exact hr
  | 1, hq, hL =>
    cases hq
    cases hL
    exact hr
  | j + 2, hq, hL => simp at hq
set_option maxHeartbeats 8000000 in
set_option maxRecDepth 100000 in
theorem known_any (w : World) : Calls Try.prog 5 #[] w fun e w' => e = .returned (.bool true) ∧ Below w.heap.size w w' := by
  have hrd := Lib.hid (rdO12 w)
  obtain ⟨W1, hW1⟩ : ∃ W, w.alloc (.cells #[.int .u8 1, .int .u8 2] 5) = W := ⟨_, rfl⟩
  rw [hW1] at hrd
  obtain ⟨W2, hW2⟩ : ∃ W, W1.alloc (.cells #[.int .u16 10, .slice (some ⟨w.heap.size, 0, none⟩) 2 2] 53) = W := ⟨_, rfl⟩
  rw [hW2] at hrd
  have kb : Hid (Below w.heap.size w W2) := Lib.hid (by rw [← hW2, ← hW1]; exact (alloc_bel w _).trans ((alloc_bel _ _).mono (alloc_bel w _).size))
  have hrc := Lib.hid (rec_any hrd.out (fun o ho => by unfold O12 at ho; simp at ho; subst ho; decide) (fun o ho => by unfold O12 at ho; simp at ho; subst ho; decide) 4096 0 1 false)
  dsimp only [eV] at hrc
  go_enter Try.func5, Try.ntmps5
  go_wp2_with fail
  try rw [hW1]
  try rw [hW2]
  clear hW1 hW2
  refine hrc.out.mono ?_
  rintro e w3 ⟨hB, hb⟩
  unfold RecB at hB
  rw [if_pos ⟨by decide +kernel, by rw [O12_raw]; decide⟩] at hB
  obtain ⟨v, rfl, ho⟩ := hB
  obtain ⟨ra, rc, rfl⟩ := ho.shape
  rw [O12_raw] at ho ⊢
  replace ho : Own byteE w3 W2.heap.size (.slice ra 6 rc) [0, 10, 0, 2, 1, 2] := ho
  have ho1 := Lib.hid ho
  dsimp only [rV, nilV]
  rw [show ttlN (0 : Int).toNat (1 : Int).toNat false = 65536 by decide +kernel]
  try dsimp only [List.length]
  have K_1 := Lib.hid (kb.out.trans ((hb).mono kb.out.size))
  clear kb
  clear ho hb hrc hrd
  obtain ⟨W4, hW4⟩ : ∃ W, w3.alloc (.cells #[.slice none 0 0, .int .u16 0, .int .u16 0, .int .u32 0, .slice none 0 0, .slice none 0 0, .slice none 0 0, .slice none 0 0] 37) = W := ⟨_, rfl⟩
  have N4 : Hid (Blk W4 w3.heap.size 37 (0, 0) [.slice none 0 0, .int .u16 0, .int .u16 0, .int .u32 0, .slice none 0 0, .slice none 0 0, .slice none 0 0, .slice none 0 0]) := Lib.hid (by rw [← hW4]; exact Blk.new w3 37 (0, 0) #[.slice none 0 0, .int .u16 0, .int .u16 0, .int .u32 0, .slice none 0 0, .slice none 0 0, .slice none 0 0, .slice none 0 0])
  have n4 : Hid (Below w3.heap.size w3 W4) := Lib.hid (by rw [← hW4]; exact alloc_bel _ _)
  go_upto_region 2 with (refine store_whole rfl 37 (.tmp 1) (.tmp 33) rfl rfl rfl N4.out (by rfl) (by kernel_rfl) (by first | kernel_rfl | rfl) ?_; intro w5 hBx hgx hzx; have R4 := Lib.hid hBx; have g4 := Lib.hid hgx; clear hBx hgx hzx)
  try rw [hW4]
  clear hW4
  have s4 := Lib.hid (fresh_store n4.out g4.out)
  have K_2 := Lib.hid (K_1.out.trans ((s4.out).mono K_1.out.size))
  have O_2 := Lib.hid (ho1.out.ext s4.out)
  clear K_1 ho1
  have l4 : Hid (w3.heap.size < w5.heap.size) := Lib.hid R4.out.lt
  clear N4 n4 g4 s4
  have h6 := Lib.hid (rd6 w5)
  obtain ⟨W6, hW6⟩ : ∃ W, w5.alloc (.cells #[.int .u8 0, .int .u8 10, .int .u8 0, .int .u8 2, .int .u8 1, .int .u8 2] 5) = W := ⟨_, rfl⟩
  rw [hW6] at h6
  have k6 : Hid (Below w5.heap.size w5 W6) := Lib.hid (by rw [← hW6]; exact alloc_bel _ _)
  have hsb := Lib.hid (same_bytes ((own_rd_at O_2.out).1.ext k6.out) h6.out)
  have p0 : w5.cell? ⟨w3.heap.size, 0, none⟩ = some (.slice none 0 0) := (R4.out.cell 0).trans rfl
  have p1 : w5.cell? ⟨w3.heap.size, 1, none⟩ = some (.int .u16 41) := (R4.out.cell 1).trans rfl
  have p2 : w5.cell? ⟨w3.heap.size, 2, none⟩ = some (.int .u16 4096) := (R4.out.cell 2).trans rfl
  have p3 : w5.cell? ⟨w3.heap.size, 3, none⟩ = some (.int .u32 65536) := (R4.out.cell 3).trans rfl
  have p4 : w5.cell? ⟨w3.heap.size, 4, none⟩ = some (.slice none 0 0) := (R4.out.cell 4).trans rfl
  have p5 : w5.cell? ⟨w3.heap.size, 5, none⟩ = some (.slice none 0 0) := (R4.out.cell 5).trans rfl
  have p6 : w5.cell? ⟨w3.heap.size, 6, none⟩ = some (.slice none 0 0) := (R4.out.cell 6).trans rfl
  have p7 : w5.cell? ⟨w3.heap.size, 7, none⟩ = some (.slice ra 6 rc) := (R4.out.cell 7).trans rfl
  have p7b : W6.cell? ⟨w3.heap.size, 7, none⟩ = some (.slice ra 6 rc) := cell_later k6.out p7
  have p3b : W6.cell? ⟨w3.heap.size, 3, none⟩ = some (.int .u32 65536) := cell_later k6.out p3
  go_wp2_with fail
  try rw [hW6]
  refine hsb.out.mono ?_
  rintro e w7 ⟨rfl, rfl⟩
  clear hsb h6
  clear p0 p1 p2 p3 p4 p5 p6 p7
  have K_3 := Lib.hid (K_2.out.trans ((k6.out).mono K_2.out.size))
  have O_3 := Lib.hid (O_2.out.ext k6.out)
  have BR_3 := Lib.hid (R4.out.below k6.out R4.out.lt)
  clear K_2 O_2 R4
  clear k6
  go_upto_region 4 with (fail)
  have hPS : Hid (∀ U : World, Blk U w3.heap.size 37 (0, 0) [.slice none 0 0, .int .u16 41, .int .u16 4096, .int .u32 65536, .slice none 0 0, .slice none 0 0, .slice none 0 0, .slice ra 6 rc] → U.cell? ⟨w3.heap.size, 0, none⟩ = some (.slice none 0 0) ∧ U.cell? ⟨w3.heap.size, 1, none⟩ = some (.int .u16 41) ∧ U.cell? ⟨w3.heap.size, 2, none⟩ = some (.int .u16 4096) ∧ U.cell? ⟨w3.heap.size, 3, none⟩ = some (.int .u32 65536) ∧ U.cell? ⟨w3.heap.size, 4, none⟩ = some (.slice none 0 0) ∧ U.cell? ⟨w3.heap.size, 5, none⟩ = some (.slice none 0 0) ∧ U.cell? ⟨w3.heap.size, 6, none⟩ = some (.slice none 0 0) ∧ U.cell? ⟨w3.heap.size, 7, none⟩ = some (.slice ra 6 rc)) := Lib.hid (fun U hB => ⟨(hB.cell 0).trans rfl, (hB.cell 1).trans rfl, (hB.cell 2).trans rfl, (hB.cell 3).trans rfl, (hB.cell 4).trans rfl, (hB.cell 5).trans rfl, (hB.cell 6).trans rfl, (hB.cell 7).trans rfl⟩)
  refine Code.wp_mono (Q := RA4 W6 w.heap.size W1.heap.size w3.heap.size w5.heap.size ra rc) ?rest ?reg
  case reg =>
    refine wp_region_noPanic ?_
    refine wp_region_held_drew (S := fun U => U.cell? ⟨w3.heap.size, 0, none⟩ = some (.slice none 0 0) ∧ U.cell? ⟨w3.heap.size, 1, none⟩ = some (.int .u16 41) ∧ U.cell? ⟨w3.heap.size, 2, none⟩ = some (.int .u16 4096) ∧ U.cell? ⟨w3.heap.size, 3, none⟩ = some (.int .u32 65536) ∧ U.cell? ⟨w3.heap.size, 4, none⟩ = some (.slice none 0 0) ∧ U.cell? ⟨w3.heap.size, 5, none⟩ = some (.slice none 0 0) ∧ U.cell? ⟨w3.heap.size, 6, none⟩ = some (.slice none 0 0) ∧ U.cell? ⟨w3.heap.size, 7, none⟩ = some (.slice ra 6 rc)) (by kernel_rfl) (hPS.out _ BR_3.out.drew) (fun hHeld => ?_)
    have hb0 : Below W6.heap.size W6 W6.drew := (Below.refl _ _).drew
    generalize W6.drew = U0 at *
    refine wpAnyH_take (i := 0) (oi := { dst := some 50, op := Op.load 37 (Operand.tmp 1), type := 37, pos := _, after := #[], guard := none }) (v := ?_) rfl (by kernel_rfl) (by kernel_rfl) (by kernel_rfl) (fun _ _ _ h => h) (Or.inl ⟨by rfl, ?_⟩) (by assumption) ?_
    rotate_left
    · intro w hSw
      go_simp
      first | done | with_reducible rfl
    try simp only [Act.put, List.setIfInBounds_toArray, List.set_cons_zero, List.set_cons_succ]
    refine wpAnyH_take (i := 2) (oi := { dst := some 52, op := Op.load 37 (Operand.tmp 1), type := 37, pos := _, after := #[], guard := none }) (v := ?_) rfl (by kernel_rfl) (by kernel_rfl) (by kernel_rfl) (fun _ _ _ h => h) (Or.inl ⟨by rfl, ?_⟩) (by assumption) ?_
    rotate_left
    · intro w hSw
      go_simp
      first | done | with_reducible rfl
    try simp only [Act.put, List.setIfInBounds_toArray, List.set_cons_zero, List.set_cons_succ]
    refine wpAnyH_take (i := 4) (oi := { dst := some 54, op := Op.load 37 (Operand.tmp 1), type := 37, pos := _, after := #[], guard := none }) (v := ?_) rfl (by kernel_rfl) (by kernel_rfl) (by kernel_rfl) (fun _ _ _ h => h) (Or.inl ⟨by rfl, ?_⟩) (by assumption) ?_
    rotate_left
    · intro w hSw
      go_simp
      first | done | with_reducible rfl
    try simp only [Act.put, List.setIfInBounds_toArray, List.set_cons_zero, List.set_cons_succ]
    have R0 : RD := RQ ra rc
    refine wpAnyH_inv (fun f l a U => ∃ (l3 l4 l5 m1 m2 m3 : Bool) (b3 b4 b5 : Nat) (q1 q2 q3 : RD) (v3 v4 v5 v51 v53 v55 : Value), l = #[true, m1, true, m2, true, m3, l3, l4, l5, false, false, false] ∧ a = F4 w.heap.size W1.heap.size w3.heap.size w5.heap.size ra rc v3 v4 v5 v51 v53 v55 ∧ f = 3 + (!l3).toNat + (!l4).toNat + (!l5).toNat + (!m1).toNat + (!m2).toNat + (!m3).toNat ∧ I4 W6 U l3 l4 l5 m1 m2 m3 b3 b4 b5 q1 q2 q3 v3 v4 v5 v51 v53 v55) ?step _ _ _ _ ?init
    case init => exact ⟨false, false, false, false, false, false, 0, 0, 0, R0, R0, R0, undef, undef, undef, undef, undef, undef, rfl, rfl, rfl, ⟨hb0, nofun, nofun, nofun, nofun, nofun, nofun, nofun, nofun, nofun, nofun, nofun⟩⟩
    case step =>
      rintro f l a U ⟨l3, l4, l5, m1, m2, m3, b3, b4, b5, q1, q2, q3, v3, v4, v5, v51, v53, v55, rfl, rfl, rfl, hI⟩
      by_cases hall : l3 = true ∧ l4 = true ∧ l5 = true ∧ m3 = true
      · left
        obtain ⟨rfl, rfl, rfl, rfl⟩ := hall
        obtain rfl := hI.o3 rfl
        obtain rfl := hI.o2 rfl
        obtain ⟨rfl, x3, y3⟩ := hI.a3 rfl
        obtain ⟨rfl, x4, y4⟩ := hI.a4 rfl
        obtain ⟨rfl, x5, y5⟩ := hI.a5 rfl
        obtain ⟨rfl, g1, u1⟩ := hI.c1 rfl
        obtain ⟨rfl, g2, u2, f2⟩ := hI.c2 rfl
        obtain ⟨rfl, g3, u3, f3⟩ := hI.c3 rfl
        have n34 := hI.n34 rfl rfl
        have n35 := hI.n35 rfl rfl
        have n45 := hI.n45 rfl rfl
        have bel := hI.bel
        have hBR := BR_3.out.lt
        unfold F4
        show wpAnyH _ _ _ _ _ 3 _ _ _
        refine wpAnyH_ready (rs := [9]) (by kernel_rfl) (by simp) ?_
        refine AllReadyH.cons (o := { dst := none, op := Op.store 37 (Operand.tmp 3) (Operand.tmp 51), type := 0, pos := _, after := #[{ on := 6, ground := Ground.data }, { on := 1, ground := Ground.data }, { on := 5, ground := Ground.chain }, { on := 0, ground := Ground.phase }, { on := 1, ground := Ground.phase }, { on := 2, ground := Ground.textOnly Departure.lateStores }, { on := 3, ground := Ground.textOnly Departure.lateStoresUnsure }, { on := 4, ground := Ground.textOnly Departure.lateStores }, { on := 5, ground := Ground.textOnly Departure.lateStoresUnsure }, { on := 6, ground := Ground.phase }, { on := 7, ground := Ground.phase }, { on := 8, ground := Ground.phase }], guard := none }) rfl (fun K hK => ?_) AllReadyH.nil
        have x3o := x3
        refine step_store (by rfl) 37 (.tmp 3) (.tmp 51) (by rfl) (cells := #[.slice q1.oa q1.on q1.oc, .int .u16 q1.ty, .int .u16 q1.cl, .int .u32 q1.ttl, .slice q1.ma q1.mn q1.mc, .slice q1.ua q1.un q1.uc, .slice q1.xa q1.xn q1.xc, .slice q1.ra q1.rn q1.rc]) (by rfl) (by rfl) x3 (by rfl) (by kernel_rfl) (by kernel_rfl) ?_
        intro X0 hB0 hg0 hz0
        have bel0 : Below W6.heap.size W6 X0 := bel.grown hg0 bel.size (fun k hk => by have e2 := Option.some.inj hk; omega)
        replace x4 := x4.grownV2 hg0 (fun e => by have e2 := Option.some.inj e; omega)
        replace x5 := x5.grownV2 hg0 (fun e => by have e2 := Option.some.inj e; omega)
        replace u1 : Own byteE X0 W6.heap.size (rawV q1) R6 := own_store (E := byteE) u1 x3o (by decide) hg0
        replace u2 : Own byteE X0 W6.heap.size (rawV q2) R6 := own_store (E := byteE) u2 x3o (by decide) hg0
        replace u3 : Own byteE X0 W6.heap.size (rawV q3) R6 := own_store (E := byteE) u3 x3o (by decide) hg0
        replace x3 := hB0
        replace bel := bel0
        refine hK.out _ _ (hPS.out _ (BR_3.out.below bel hBR)) (fun hHeld => ?_)
        clear hK K
        refine wpAnyH_ready (rs := [10]) (by kernel_rfl) (by simp) ?_
        refine AllReadyH.cons (o := { dst := none, op := Op.store 37 (Operand.tmp 4) (Operand.tmp 53), type := 0, pos := _, after := #[{ on := 7, ground := Ground.data }, { on := 3, ground := Ground.data }, { on := 9, ground := Ground.chain }, { on := 0, ground := Ground.phase }, { on := 1, ground := Ground.phase }, { on := 2, ground := Ground.phase }, { on := 3, ground := Ground.phase }, { on := 4, ground := Ground.textOnly Departure.lateStores }, { on := 5, ground := Ground.textOnly Departure.lateStoresUnsure }, { on := 6, ground := Ground.phase }, { on := 7, ground := Ground.phase }, { on := 8, ground := Ground.phase }, { on := 9, ground := Ground.phase }], guard := none }) rfl (fun K hK => ?_) AllReadyH.nil
        have x4o := x4
        refine step_store (by rfl) 37 (.tmp 4) (.tmp 53) (by rfl) (cells := #[.slice q2.oa q2.on q2.oc, .int .u16 q2.ty, .int .u16 q2.cl, .int .u32 q2.ttl, .slice q2.ma q2.mn q2.mc, .slice q2.ua q2.un q2.uc, .slice q2.xa q2.xn q2.xc, .slice q2.ra q2.rn q2.rc]) (by rfl) (by rfl) x4 (by rfl) (by kernel_rfl) (by kernel_rfl) ?_
        intro X1 hB1 hg1 hz1
        have bel1 : Below W6.heap.size W6 X1 := bel.grown hg1 bel.size (fun k hk => by have e2 := Option.some.inj hk; omega)
        replace x3 := x3.grownV2 hg1 (fun e => by have e2 := Option.some.inj e; omega)
        replace x5 := x5.grownV2 hg1 (fun e => by have e2 := Option.some.inj e; omega)
        replace u1 : Own byteE X1 W6.heap.size (rawV q1) R6 := own_store (E := byteE) u1 x4o (by decide) hg1
        replace u2 : Own byteE X1 W6.heap.size (rawV q2) R6 := own_store (E := byteE) u2 x4o (by decide) hg1
        replace u3 : Own byteE X1 W6.heap.size (rawV q3) R6 := own_store (E := byteE) u3 x4o (by decide) hg1
        replace x4 := hB1
        replace bel := bel1
        refine hK.out _ _ (hPS.out _ (BR_3.out.below bel hBR)) (fun hHeld => ?_)
        clear hK K
        refine wpAnyH_ready (rs := [11]) (by kernel_rfl) (by simp) ?_
        refine AllReadyH.cons (o := { dst := none, op := Op.store 37 (Operand.tmp 5) (Operand.tmp 55), type := 0, pos := _, after := #[{ on := 8, ground := Ground.data }, { on := 5, ground := Ground.data }, { on := 10, ground := Ground.chain }, { on := 0, ground := Ground.phase }, { on := 1, ground := Ground.phase }, { on := 2, ground := Ground.phase }, { on := 3, ground := Ground.phase }, { on := 4, ground := Ground.phase }, { on := 5, ground := Ground.phase }, { on := 6, ground := Ground.phase }, { on := 7, ground := Ground.phase }, { on := 8, ground := Ground.phase }, { on := 9, ground := Ground.phase }, { on := 10, ground := Ground.phase }], guard := none }) rfl (fun K hK => ?_) AllReadyH.nil
        have x5o := x5
        refine step_store (by rfl) 37 (.tmp 5) (.tmp 55) (by rfl) (cells := #[.slice q3.oa q3.on q3.oc, .int .u16 q3.ty, .int .u16 q3.cl, .int .u32 q3.ttl, .slice q3.ma q3.mn q3.mc, .slice q3.ua q3.un q3.uc, .slice q3.xa q3.xn q3.xc, .slice q3.ra q3.rn q3.rc]) (by rfl) (by rfl) x5 (by rfl) (by kernel_rfl) (by kernel_rfl) ?_
        intro X2 hB2 hg2 hz2
        have bel2 : Below W6.heap.size W6 X2 := bel.grown hg2 bel.size (fun k hk => by have e2 := Option.some.inj hk; omega)
        replace x3 := x3.grownV2 hg2 (fun e => by have e2 := Option.some.inj e; omega)
        replace x4 := x4.grownV2 hg2 (fun e => by have e2 := Option.some.inj e; omega)
        replace u1 : Own byteE X2 W6.heap.size (rawV q1) R6 := own_store (E := byteE) u1 x5o (by decide) hg2
        replace u2 : Own byteE X2 W6.heap.size (rawV q2) R6 := own_store (E := byteE) u2 x5o (by decide) hg2
        replace u3 : Own byteE X2 W6.heap.size (rawV q3) R6 := own_store (E := byteE) u3 x5o (by decide) hg2
        replace x5 := hB2
        replace bel := bel2
        refine hK.out _ _ (hPS.out _ (BR_3.out.below bel hBR)) (fun hHeld => ?_)
        clear hK K
        refine wpAnyH_done (by kernel_rfl) ?_ _
        exact ⟨rfl, b3, b4, b5, q1, q2, q3, rfl, ⟨bel, x3, x4, x5, ⟨y3, y4, y5, n34, n35, n45⟩, ⟨g1, u1⟩, ⟨g2, u2, f2⟩, ⟨g3, u3, f3⟩⟩⟩
      · right
        refine ⟨2 + (!l3).toNat + (!l4).toNat + (!l5).toNat + (!m1).toNat + (!m2).toNat + (!m3).toNat, by omega, List.exists_mem_of_ne_nil _ ?ne, fun i hi => ?arm⟩
        case ne =>
          intro hne
          have h0 : ∀ l : List Nat, l = [] → l.isEmpty = true := fun l h => by rw [h]; rfl
          have h1 := h0 _ hne
          revert h1
          clear hne h0 hI
          revert hall
          cases l3 <;> cases l4 <;> cases l5 <;> cases m1 <;> cases m2 <;> cases m3 <;> first | (intro h; exact absurd ⟨rfl, rfl, rfl, rfl⟩ h) | (intro _ h; exact absurd h (by rw [show (Region.ready Region.Mode.any _ _).isEmpty = false from by kernel_rfl]; decide))
        case arm =>
          have hrd0 := mem_ready.1 hi
          clear hi
          obtain ⟨hun, o, ho, hdep⟩ := hrd0
          match i, hun, ho with
          | 0, hun, ho =>
            exact absurd hun (by simp)
          | 1, hun, ho =>
            cases ho
            obtain rfl : m1 = false := hun
            clear hun hdep hall
            unfold F4
            refine wpOp_step (o := { dst := some 51, op := Op.call { callee := Callee.value (Operand.func 10), args := #[Operand.tmp 50], argTypes := #[37] }, type := 37, pos := _, after := #[{ on := 0, ground := Ground.data }], guard := none }) rfl (fun K hK => ?_)
            replace hK := Lib.hid hK
            have hrq := Lib.hid (recRq (O_3.out.ext hI.bel))
            have hI' := Lib.hid hI
            clear hI
            refine step_call (by rfl) (.tmp 50) 37 (by rfl) (v := (RQ ra rc).val) (by rfl) enter10 ?_
            refine (copy_rec hrq.out).mono ?_
            rintro e U' ⟨⟨q', rfl, ho, e1, e2, e3⟩, hb⟩
            refine ⟨_, rfl, ?_⟩
            have hln := ho.lens hrq.out
            have hN := hI'.out.cl1 hb (q := q') ⟨hln.1, e1, e2, e3, hln.2.1, hln.2.2.1, hln.2.2.2.1, hln.2.2.2.2⟩ ho.raw
            refine hK.out _ _ ⟨hPS.out _ (BR_3.out.below hN.bel BR_3.out.lt), l3, l4, l5, true, m2, m3, b3, b4, b5, q', q2, q3, v3, v4, v5, q'.val, v53, v55, rfl, rfl, by simp only [Bool.not_true, Bool.not_false, Bool.toNat_true, Bool.toNat_false] <;> omega, hN⟩
          | 2, hun, ho =>
            exact absurd hun (by simp)
          | 3, hun, ho =>
            cases ho
            obtain rfl : m2 = false := hun
            have hpv : m1 = true := hdep ⟨1, .chain⟩ (by simp) (by rfl)
            clear hun hdep hall
            unfold F4
            refine wpOp_step (o := { dst := some 53, op := Op.call { callee := Callee.value (Operand.func 10), args := #[Operand.tmp 52], argTypes := #[37] }, type := 37, pos := _, after := #[{ on := 2, ground := Ground.data }, { on := 1, ground := Ground.chain }], guard := none }) rfl (fun K hK => ?_)
            replace hK := Lib.hid hK
            have hrq := Lib.hid (recRq (O_3.out.ext hI.bel))
            have hI' := Lib.hid hI
            clear hI
            refine step_call (by rfl) (.tmp 52) 37 (by rfl) (v := (RQ ra rc).val) (by rfl) enter10 ?_
            refine (copy_rec hrq.out).mono ?_
            rintro e U' ⟨⟨q', rfl, ho, e1, e2, e3⟩, hb⟩
            refine ⟨_, rfl, ?_⟩
            have hln := ho.lens hrq.out
            have hN := hI'.out.cl2 hpv hb (q := q') ⟨hln.1, e1, e2, e3, hln.2.1, hln.2.2.1, hln.2.2.2.1, hln.2.2.2.2⟩ ho.raw
            refine hK.out _ _ ⟨hPS.out _ (BR_3.out.below hN.bel BR_3.out.lt), l3, l4, l5, m1, true, m3, b3, b4, b5, q1, q', q3, v3, v4, v5, v51, q'.val, v55, rfl, rfl, by simp only [Bool.not_true, Bool.not_false, Bool.toNat_true, Bool.toNat_false] <;> omega, hN⟩
          | 4, hun, ho =>
            exact absurd hun (by simp)
          | 5, hun, ho =>
            cases ho
            obtain rfl : m3 = false := hun
            have hpv : m2 = true := hdep ⟨3, .chain⟩ (by simp) (by rfl)
            clear hun hdep hall
            unfold F4
            refine wpOp_step (o := { dst := some 55, op := Op.call { callee := Callee.value (Operand.func 10), args := #[Operand.tmp 54], argTypes := #[37] }, type := 37, pos := _, after := #[{ on := 4, ground := Ground.data }, { on := 3, ground := Ground.chain }], guard := none }) rfl (fun K hK => ?_)
            replace hK := Lib.hid hK
            have hrq := Lib.hid (recRq (O_3.out.ext hI.bel))
            have hI' := Lib.hid hI
            clear hI
            refine step_call (by rfl) (.tmp 54) 37 (by rfl) (v := (RQ ra rc).val) (by rfl) enter10 ?_
            refine (copy_rec hrq.out).mono ?_
            rintro e U' ⟨⟨q', rfl, ho, e1, e2, e3⟩, hb⟩
            refine ⟨_, rfl, ?_⟩
            have hln := ho.lens hrq.out
            have hN := hI'.out.cl3 hpv hb (q := q') ⟨hln.1, e1, e2, e3, hln.2.1, hln.2.2.1, hln.2.2.2.1, hln.2.2.2.2⟩ ho.raw
            refine hK.out _ _ ⟨hPS.out _ (BR_3.out.below hN.bel BR_3.out.lt), l3, l4, l5, m1, m2, true, b3, b4, b5, q1, q2, q', v3, v4, v5, v51, v53, q'.val, rfl, rfl, by simp only [Bool.not_true, Bool.not_false, Bool.toNat_true, Bool.toNat_false] <;> omega, hN⟩
          | 6, hun, ho =>
            cases ho
            obtain rfl : l3 = false := hun
            clear hun hdep hall
            unfold F4
            refine wpOp_step (o := { dst := some 3, op := Op.alloc 37, type := 0, pos := _, after := #[], guard := none }) rfl (fun K hK => ?_)
            replace hK := Lib.hid hK
            have hN := Lib.hid (hI.al3)
            go_simp
            refine hK.out _ _ ⟨hPS.out _ (BR_3.out.below hN.out.bel BR_3.out.lt), true, l4, l5, m1, m2, m3, U.heap.size, b4, b5, q1, q2, q3, (.pointer (some ⟨U.heap.size, 0, none⟩)), v4, v5, v51, v53, v55, rfl, rfl, by simp only [Bool.not_true, Bool.not_false, Bool.toNat_true, Bool.toNat_false] <;> omega, hN.out⟩
          | 7, hun, ho =>
            cases ho
            obtain rfl : l4 = false := hun
            clear hun hdep hall
            unfold F4
            refine wpOp_step (o := { dst := some 4, op := Op.alloc 37, type := 0, pos := _, after := #[], guard := none }) rfl (fun K hK => ?_)
            replace hK := Lib.hid hK
            have hN := Lib.hid (hI.al4)
            go_simp
            refine hK.out _ _ ⟨hPS.out _ (BR_3.out.below hN.out.bel BR_3.out.lt), l3, true, l5, m1, m2, m3, b3, U.heap.size, b5, q1, q2, q3, v3, (.pointer (some ⟨U.heap.size, 0, none⟩)), v5, v51, v53, v55, rfl, rfl, by simp only [Bool.not_true, Bool.not_false, Bool.toNat_true, Bool.toNat_false] <;> omega, hN.out⟩
          | 8, hun, ho =>
            cases ho
            obtain rfl : l5 = false := hun
            clear hun hdep hall
            unfold F4
            refine wpOp_step (o := { dst := some 5, op := Op.alloc 37, type := 0, pos := _, after := #[], guard := none }) rfl (fun K hK => ?_)
            replace hK := Lib.hid hK
            have hN := Lib.hid (hI.al5)
            go_simp
            refine hK.out _ _ ⟨hPS.out _ (BR_3.out.below hN.out.bel BR_3.out.lt), l3, l4, true, m1, m2, m3, b3, b4, U.heap.size, q1, q2, q3, v3, v4, (.pointer (some ⟨U.heap.size, 0, none⟩)), v51, v53, v55, rfl, rfl, by simp only [Bool.not_true, Bool.not_false, Bool.toNat_true, Bool.toNat_false] <;> omega, hN.out⟩
          | 9, hun, ho =>
            cases ho
            have h6 := hdep ⟨6, .data⟩ (by simp) (by rfl)
            have h7 := hdep ⟨7, .phase⟩ (by simp) (by rfl)
            have h8 := hdep ⟨8, .phase⟩ (by simp) (by rfl)
            have h5 := hdep ⟨5, .chain⟩ (by simp) (by rfl)
            exact absurd ⟨h6, h7, h8, h5⟩ hall
          | 10, hun, ho =>
            have h9 := hdep ⟨9, .chain⟩ (by cases ho; simp) (by rfl)
            exact absurd h9 (by simp)
          | 11, hun, ho =>
            have h9 := hdep ⟨10, .chain⟩ (by cases ho; simp) (by rfl)
            exact absurd h9 (by simp)
          | n + 12, hun, ho => exact absurd hun (by simp)
  case rest =>
    rintro e a U ⟨rfl, b3, b4, b5, q1, q2, q3, rfl, hE⟩
    obtain ⟨g1, hra⟩ : ∃ g1, q1.ra = some ⟨g1, 0, none⟩ := by
      have e6 := hE.r1.1.2.2.2.2.2.2.2
      rcases hE.r1.2 with ⟨e, _⟩ | ⟨g, cap, X, e, _⟩
      · unfold rawV at e; injection e with e1 e2 e3; omega
      · unfold rawV at e; injection e with e1; exact ⟨g, e1⟩
    obtain ⟨V1, hV1⟩ : ∃ V, U.alloc (.cells #[.string ⟨#[97]⟩] 9) = V := ⟨_, rfl⟩
    obtain ⟨V2, hV2⟩ : ∃ V, V1.setCell ⟨g1, 3, none⟩ (.int .u8 3) = V := ⟨_, rfl⟩
    obtain ⟨V3, hV3⟩ : ∃ V, V2.setCell ⟨b4, 0, none⟩ (.slice (some ⟨U.heap.size, 0, none⟩) 1 1) = V := ⟨_, rfl⟩
    obtain ⟨V4, hV4⟩ : ∃ V, V3.setCell ⟨b5, 3, none⟩ (.int .u32 1) = V := ⟨_, rfl⟩
    obtain ⟨⟨c1, f1⟩, ⟨c2, f2⟩, ⟨c3, f3⟩, hM⟩ := hE.mod hra hV1 hV2 hV3 hV4
    have c0 := hE.k3.cell 7
    have ok1 := hE.r1.1
    have ok2 := hE.r2.1
    have ok3 := hE.r3.1
    clear hE
    obtain ⟨oa1, on1, oc1, ty1, cl1, tt1, ma1, mn1, mc1, ua1, un1, uc1, xa1, xn1, xc1, ra1, rn1, rc1⟩ := q1
    dsimp only [RDok] at ok1
    obtain ⟨rfl, rfl, rfl, rfl, rfl, rfl, rfl, rfl⟩ := ok1
    obtain ⟨oa2, on2, oc2, ty2, cl2, tt2, ma2, mn2, mc2, ua2, un2, uc2, xa2, xn2, xc2, ra2, rn2, rc2⟩ := q2
    dsimp only [RDok] at ok2
    obtain ⟨rfl, rfl, rfl, rfl, rfl, rfl, rfl, rfl⟩ := ok2
    obtain ⟨oa3, on3, oc3, ty3, cl3, tt3, ma3, mn3, mc3, ua3, un3, uc3, xa3, xn3, xc3, ra3, rn3, rc3⟩ := q3
    dsimp only [RDok] at ok3
    obtain ⟨rfl, rfl, rfl, rfl, rfl, rfl, rfl, rfl⟩ := ok3
    dsimp only at hra
    subst hra
    replace c0 : U.cell? ⟨b3, 7, none⟩ = some (.slice (some ⟨g1, 0, none⟩) 6 rc1) := c0
    have M := Lib.hid hM
    have K_4 := Lib.hid (K_3.out.trans ((hM.bel).mono K_3.out.size))
    have O_4 := Lib.hid (O_3.out.ext hM.bel)
    have BR_4 := Lib.hid (BR_3.out.below hM.bel BR_3.out.lt)
    clear K_3 O_3 BR_3
    obtain ⟨na, hna⟩ : ∃ n, U.heap.size = n := ⟨_, rfl⟩
    have hna2 := Lib.hid hna
    rw [hna] at M hV3
    have x1 : Hid (Blk V4 b3 37 (0, 0) [.slice oa1 0 oc1, .int .u16 41, .int .u16 4096, .int .u32 65536, .slice ma1 0 mc1, .slice ua1 0 uc1, .slice xa1 0 xc1, .slice (some ⟨g1, 0, none⟩) 6 rc1]) := Lib.hid M.out.k3
    have x2 : Hid (Blk V4 b4 37 (0, 0) [.slice (some ⟨na, 0, none⟩) 1 1, .int .u16 41, .int .u16 4096, .int .u32 65536, .slice ma2 0 mc2, .slice ua2 0 uc2, .slice xa2 0 xc2, .slice ra2 6 rc2]) := Lib.hid M.out.k4
    have x3 : Hid (Blk V4 b5 37 (0, 0) [.slice oa3 0 oc3, .int .u16 41, .int .u16 4096, .int .u32 1, .slice ma3 0 mc3, .slice ua3 0 uc3, .slice xa3 0 xc3, .slice ra3 6 rc3]) := Lib.hid M.out.k5
    have rr1 : Hid (Own byteE V4 W6.heap.size (.slice (some ⟨g1, 0, none⟩) 6 rc1) [0, 10, 0, 3, 1, 2]) := Lib.hid M.out.r1
    have rr2 : Hid (Own byteE V4 W6.heap.size (.slice ra2 6 rc2) [0, 10, 0, 2, 1, 2]) := Lib.hid M.out.r2
    have rr3 : Hid (Own byteE V4 W6.heap.size (.slice ra3 6 rc3) [0, 10, 0, 2, 1, 2]) := Lib.hid M.out.r3
    clear hM M
    unfold F4
    go_upto_region 6 with (fail)
    try rw [hV1]
    try rw [hV2]
    try rw [hV3]
    try rw [hV4]
    clear hna hV1 hV2 hV3 hV4 c0 c1 c2 c3 f1 f2 f3
    have x1c0 : V4.cell? ⟨b3, 0, none⟩ = some (.slice oa1 0 oc1) := (x1.out.cell 0).trans rfl
    have x1c1 : V4.cell? ⟨b3, 1, none⟩ = some (.int .u16 41) := (x1.out.cell 1).trans rfl
    have x1c2 : V4.cell? ⟨b3, 2, none⟩ = some (.int .u16 4096) := (x1.out.cell 2).trans rfl
    have x1c3 : V4.cell? ⟨b3, 3, none⟩ = some (.int .u32 65536) := (x1.out.cell 3).trans rfl
    have x1c4 : V4.cell? ⟨b3, 4, none⟩ = some (.slice ma1 0 mc1) := (x1.out.cell 4).trans rfl
    have x1c5 : V4.cell? ⟨b3, 5, none⟩ = some (.slice ua1 0 uc1) := (x1.out.cell 5).trans rfl
    have x1c6 : V4.cell? ⟨b3, 6, none⟩ = some (.slice xa1 0 xc1) := (x1.out.cell 6).trans rfl
    have x1c7 : V4.cell? ⟨b3, 7, none⟩ = some (.slice (some ⟨g1, 0, none⟩) 6 rc1) := (x1.out.cell 7).trans rfl
    have x2c0 : V4.cell? ⟨b4, 0, none⟩ = some (.slice (some ⟨na, 0, none⟩) 1 1) := (x2.out.cell 0).trans rfl
    have x2c1 : V4.cell? ⟨b4, 1, none⟩ = some (.int .u16 41) := (x2.out.cell 1).trans rfl
    have x2c2 : V4.cell? ⟨b4, 2, none⟩ = some (.int .u16 4096) := (x2.out.cell 2).trans rfl
    have x2c3 : V4.cell? ⟨b4, 3, none⟩ = some (.int .u32 65536) := (x2.out.cell 3).trans rfl
    have x2c4 : V4.cell? ⟨b4, 4, none⟩ = some (.slice ma2 0 mc2) := (x2.out.cell 4).trans rfl
    have x2c5 : V4.cell? ⟨b4, 5, none⟩ = some (.slice ua2 0 uc2) := (x2.out.cell 5).trans rfl
    have x2c6 : V4.cell? ⟨b4, 6, none⟩ = some (.slice xa2 0 xc2) := (x2.out.cell 6).trans rfl
    have x2c7 : V4.cell? ⟨b4, 7, none⟩ = some (.slice ra2 6 rc2) := (x2.out.cell 7).trans rfl
    have x3c0 : V4.cell? ⟨b5, 0, none⟩ = some (.slice oa3 0 oc3) := (x3.out.cell 0).trans rfl
    have x3c1 : V4.cell? ⟨b5, 1, none⟩ = some (.int .u16 41) := (x3.out.cell 1).trans rfl
    have x3c2 : V4.cell? ⟨b5, 2, none⟩ = some (.int .u16 4096) := (x3.out.cell 2).trans rfl
    have x3c3 : V4.cell? ⟨b5, 3, none⟩ = some (.int .u32 1) := (x3.out.cell 3).trans rfl
    have x3c4 : V4.cell? ⟨b5, 4, none⟩ = some (.slice ma3 0 mc3) := (x3.out.cell 4).trans rfl
    have x3c5 : V4.cell? ⟨b5, 5, none⟩ = some (.slice ua3 0 uc3) := (x3.out.cell 5).trans rfl
    have x3c6 : V4.cell? ⟨b5, 6, none⟩ = some (.slice xa3 0 xc3) := (x3.out.cell 6).trans rfl
    have x3c7 : V4.cell? ⟨b5, 7, none⟩ = some (.slice ra3 6 rc3) := (x3.out.cell 7).trans rfl
    obtain ⟨W8, hW8⟩ : ∃ W, V4.alloc (.cells #[.slice oa1 0 oc1, .int .u16 41, .int .u16 4096, .int .u32 65536, .slice ma1 0 mc1, .slice ua1 0 uc1, .slice xa1 0 xc1, .slice (some ⟨g1, 0, none⟩) 6 rc1, .slice (some ⟨na, 0, none⟩) 1 1, .int .u16 41, .int .u16 4096, .int .u32 65536, .slice ma2 0 mc2, .slice ua2 0 uc2, .slice xa2 0 xc2, .slice ra2 6 rc2, .slice oa3 0 oc3, .int .u16 41, .int .u16 4096, .int .u32 1, .slice ma3 0 mc3, .slice ua3 0 uc3, .slice xa3 0 xc3, .slice ra3 6 rc3, .slice none 0 0, .int .u16 0, .int .u16 0, .int .u32 0, .slice none 0 0, .slice none 0 0, .slice none 0 0, .slice none 0 0] 37) = W := ⟨_, rfl⟩
    have B8 : Hid (Blk W8 V4.heap.size 37 (0, 0) [.slice oa1 0 oc1, .int .u16 41, .int .u16 4096, .int .u32 65536, .slice ma1 0 mc1, .slice ua1 0 uc1, .slice xa1 0 xc1, .slice (some ⟨g1, 0, none⟩) 6 rc1, .slice (some ⟨na, 0, none⟩) 1 1, .int .u16 41, .int .u16 4096, .int .u32 65536, .slice ma2 0 mc2, .slice ua2 0 uc2, .slice xa2 0 xc2, .slice ra2 6 rc2, .slice oa3 0 oc3, .int .u16 41, .int .u16 4096, .int .u32 1, .slice ma3 0 mc3, .slice ua3 0 uc3, .slice xa3 0 xc3, .slice ra3 6 rc3, .slice none 0 0, .int .u16 0, .int .u16 0, .int .u32 0, .slice none 0 0, .slice none 0 0, .slice none 0 0, .slice none 0 0]) := Lib.hid (by rw [← hW8]; exact Blk.new V4 37 (0, 0) #[.slice oa1 0 oc1, .int .u16 41, .int .u16 4096, .int .u32 65536, .slice ma1 0 mc1, .slice ua1 0 uc1, .slice xa1 0 xc1, .slice (some ⟨g1, 0, none⟩) 6 rc1, .slice (some ⟨na, 0, none⟩) 1 1, .int .u16 41, .int .u16 4096, .int .u32 65536, .slice ma2 0 mc2, .slice ua2 0 uc2, .slice xa2 0 xc2, .slice ra2 6 rc2, .slice oa3 0 oc3, .int .u16 41, .int .u16 4096, .int .u32 1, .slice ma3 0 mc3, .slice ua3 0 uc3, .slice xa3 0 xc3, .slice ra3 6 rc3, .slice none 0 0, .int .u16 0, .int .u16 0, .int .u32 0, .slice none 0 0, .slice none 0 0, .slice none 0 0, .slice none 0 0])
    have k8 : Hid (Below V4.heap.size V4 W8) := Lib.hid (by rw [← hW8]; exact alloc_bel _ _)
    go_wp2_with fail
    try rw [hW8]
    clear hW8
    clear x1c0 x1c1 x1c2 x1c3 x1c4 x1c5 x1c6 x1c7 x2c0 x2c1 x2c2 x2c3 x2c4 x2c5 x2c6 x2c7 x3c0 x3c1 x3c2 x3c3 x3c4 x3c5 x3c6 x3c7
    have K_5 := Lib.hid (K_4.out.trans ((k8.out).mono K_4.out.size))
    have O_5 := Lib.hid (O_4.out.ext k8.out)
    have BR_5 := Lib.hid (BR_4.out.below k8.out BR_4.out.lt)
    have R1_5 := Lib.hid (rr1.out.ext k8.out)
    have R2_5 := Lib.hid (rr2.out.ext k8.out)
    have R3_5 := Lib.hid (rr3.out.ext k8.out)
    clear K_4 O_4 BR_4 rr1 rr2 rr3
    clear k8
    clear x1
    clear x2
    clear x3
    obtain ⟨ab, hab⟩ : ∃ n, V4.heap.size = n := ⟨_, rfl⟩
    rw [hab] at B8
    try rw [hab]
    clear hab
    go_loopw [69] (fun i wr => ∃ k : Nat, k ≤ 4 ∧ i = .int .i64 k ∧ Hid (Below W8.heap.size W8 wr)) (fun i _ => 4 - (intOf i).toNat)
    case atStart => exact ⟨0, Nat.zero_le _, rfl, Lib.hid (Below.refl _ _)⟩
    case round =>
      obtain ⟨k, hk, rfl, hb⟩ := hrel
      have hb8 := hb.out
      have K_6 := Lib.hid (K_5.out.trans ((hb8).mono K_5.out.size))
      have O_6 := Lib.hid (O_5.out.ext hb8)
      have BR_6 := Lib.hid (BR_5.out.below hb8 BR_5.out.lt)
      have R1_6 := Lib.hid (R1_5.out.ext hb8)
      have R2_6 := Lib.hid (R2_5.out.ext hb8)
      have R3_6 := Lib.hid (R3_5.out.ext hb8)
      have A_6 := Lib.hid (B8.out.below hb8 B8.out.lt)
      clear K_5 O_5 BR_5 R1_5 R2_5 R3_5 B8
      clear hb8
      obtain rfl | rfl | rfl | rfl | rfl : k = 0 ∨ k = 1 ∨ k = 2 ∨ k = 3 ∨ k = 4 := by omega
      · skip
        have a0 : wr.cell? ⟨ab, 0, none⟩ = some (.slice oa1 0 oc1) := (A_6.out.cell 0).trans rfl
        have a1 : wr.cell? ⟨ab, 1, none⟩ = some (.int .u16 41) := (A_6.out.cell 1).trans rfl
        have a2 : wr.cell? ⟨ab, 2, none⟩ = some (.int .u16 4096) := (A_6.out.cell 2).trans rfl
        have a3 : wr.cell? ⟨ab, 3, none⟩ = some (.int .u32 65536) := (A_6.out.cell 3).trans rfl
        have a4 : wr.cell? ⟨ab, 4, none⟩ = some (.slice ma1 0 mc1) := (A_6.out.cell 4).trans rfl
        have a5 : wr.cell? ⟨ab, 5, none⟩ = some (.slice ua1 0 uc1) := (A_6.out.cell 5).trans rfl
        have a6 : wr.cell? ⟨ab, 6, none⟩ = some (.slice xa1 0 xc1) := (A_6.out.cell 6).trans rfl
        have a7 : wr.cell? ⟨ab, 7, none⟩ = some (.slice (some ⟨g1, 0, none⟩) 6 rc1) := (A_6.out.cell 7).trans rfl
        obtain ⟨W9, hW9⟩ : ∃ W, wr.alloc (.cells #[.slice none 0 0, .int .u16 0, .int .u16 0, .int .u32 0, .slice none 0 0, .slice none 0 0, .slice none 0 0, .slice none 0 0] 37) = W := ⟨_, rfl⟩
        have N9 : Hid (Blk W9 wr.heap.size 37 (0, 0) [.slice none 0 0, .int .u16 0, .int .u16 0, .int .u32 0, .slice none 0 0, .slice none 0 0, .slice none 0 0, .slice none 0 0]) := Lib.hid (by rw [← hW9]; exact Blk.new wr 37 (0, 0) #[.slice none 0 0, .int .u16 0, .int .u16 0, .int .u32 0, .slice none 0 0, .slice none 0 0, .slice none 0 0, .slice none 0 0])
        have n9 : Hid (Below wr.heap.size wr W9) := Lib.hid (by rw [← hW9]; exact alloc_bel _ _)
        go_upto_region 9 with (refine store_whole rfl 37 (.tmp 7) (.tmp 72) rfl rfl rfl N9.out (by rfl) (by kernel_rfl) (by first | kernel_rfl | rfl) ?_; intro w10 hBx hgx hzx; have R9 := Lib.hid hBx; have g9 := Lib.hid hgx; clear hBx hgx hzx)
        try rw [hW9]
        clear hW9
        have s9 := Lib.hid (fresh_store n9.out g9.out)
        have K_7 := Lib.hid (K_6.out.trans ((s9.out).mono K_6.out.size))
        have O_7 := Lib.hid (O_6.out.ext s9.out)
        have BR_7 := Lib.hid (BR_6.out.below s9.out BR_6.out.lt)
        have R1_7 := Lib.hid (R1_6.out.ext s9.out)
        have R2_7 := Lib.hid (R2_6.out.ext s9.out)
        have R3_7 := Lib.hid (R3_6.out.ext s9.out)
        have A_7 := Lib.hid (A_6.out.below s9.out A_6.out.lt)
        have L_7 := Lib.hid (hb.out.trans ((s9.out).mono hb.out.size))
        clear K_6 O_6 BR_6 R1_6 R2_6 R3_6 A_6 hb
        have l9 : Hid (wr.heap.size < w10.heap.size) := Lib.hid R9.out.lt
        clear N9 n9 g9 s9
        clear a0 a1 a2 a3 a4 a5 a6 a7
        have hrd := Lib.hid (read_bad oa1 0 oc1 41 4096 65536 ma1 0 mc1 ua1 0 uc1 xa1 0 xc1 (own_rd_at R1_7.out).1 (by decide) (by decide) (by decide) (by decide) (by decide) (by decide) (by decide) (by decide) (.inr (by decide +kernel)))
        dsimp only [rV] at hrd
        have p0 : w10.cell? ⟨wr.heap.size, 0, none⟩ = some (.slice oa1 0 oc1) := (R9.out.cell 0).trans rfl
        have p1 : w10.cell? ⟨wr.heap.size, 1, none⟩ = some (.int .u16 41) := (R9.out.cell 1).trans rfl
        have p2 : w10.cell? ⟨wr.heap.size, 2, none⟩ = some (.int .u16 4096) := (R9.out.cell 2).trans rfl
        have p3 : w10.cell? ⟨wr.heap.size, 3, none⟩ = some (.int .u32 65536) := (R9.out.cell 3).trans rfl
        have p4 : w10.cell? ⟨wr.heap.size, 4, none⟩ = some (.slice ma1 0 mc1) := (R9.out.cell 4).trans rfl
        have p5 : w10.cell? ⟨wr.heap.size, 5, none⟩ = some (.slice ua1 0 uc1) := (R9.out.cell 5).trans rfl
        have p6 : w10.cell? ⟨wr.heap.size, 6, none⟩ = some (.slice xa1 0 xc1) := (R9.out.cell 6).trans rfl
        have p7 : w10.cell? ⟨wr.heap.size, 7, none⟩ = some (.slice (some ⟨g1, 0, none⟩) 6 rc1) := (R9.out.cell 7).trans rfl
        go_wp2_with fail
        refine hrd.out.mono ?_
        rintro e w11 ⟨rfl, hb2⟩
        clear p0 p1 p2 p3 p4 p5 p6 p7
        have K_8 := Lib.hid (K_7.out.trans ((hb2).mono K_7.out.size))
        have O_8 := Lib.hid (O_7.out.ext hb2)
        have BR_8 := Lib.hid (BR_7.out.below hb2 BR_7.out.lt)
        have R1_8 := Lib.hid (R1_7.out.ext hb2)
        have R2_8 := Lib.hid (R2_7.out.ext hb2)
        have R3_8 := Lib.hid (R3_7.out.ext hb2)
        have A_8 := Lib.hid (A_7.out.below hb2 A_7.out.lt)
        have L_8 := Lib.hid (L_7.out.trans ((hb2).mono L_7.out.size))
        have BX_8 := Lib.hid (R9.out.below hb2 R9.out.lt)
        clear K_7 O_7 BR_7 R1_7 R2_7 R3_7 A_7 L_7 R9
        clear hb2 hrd
        obtain ⟨W12, hW12⟩ : ∃ W, w11.alloc (.cells #[.int .i64 0, .int .i64 0, .int .i64 0, .bool false, .slice none 0 0] 24) = W := ⟨_, rfl⟩
        have N12 : Hid (Blk W12 w11.heap.size 24 (0, 0) [.int .i64 0, .int .i64 0, .int .i64 0, .bool false, .slice none 0 0]) := Lib.hid (by rw [← hW12]; exact Blk.new w11 24 (0, 0) #[.int .i64 0, .int .i64 0, .int .i64 0, .bool false, .slice none 0 0])
        have n12 : Hid (Below w11.heap.size w11 W12) := Lib.hid (by rw [← hW12]; exact alloc_bel _ _)
        go_wp2_with (refine store_whole rfl 24 (.tmp 8) (.tmp 76) rfl rfl rfl N12.out (by rfl) (by kernel_rfl) (by first | kernel_rfl | rfl) ?_; intro w13 hBx hgx hzx; have R12 := Lib.hid hBx; have g12 := Lib.hid hgx; clear hBx hgx hzx)
        try rw [hW12]
        clear hW12
        have s12 := Lib.hid (fresh_store n12.out g12.out)
        have K_9 := Lib.hid (K_8.out.trans ((s12.out).mono K_8.out.size))
        have O_9 := Lib.hid (O_8.out.ext s12.out)
        have BR_9 := Lib.hid (BR_8.out.below s12.out BR_8.out.lt)
        have R1_9 := Lib.hid (R1_8.out.ext s12.out)
        have R2_9 := Lib.hid (R2_8.out.ext s12.out)
        have R3_9 := Lib.hid (R3_8.out.ext s12.out)
        have A_9 := Lib.hid (A_8.out.below s12.out A_8.out.lt)
        have L_9 := Lib.hid (L_8.out.trans ((s12.out).mono L_8.out.size))
        have BX_9 := Lib.hid (BX_8.out.below s12.out BX_8.out.lt)
        clear K_8 O_8 BR_8 R1_8 R2_8 R3_8 A_8 L_8 BX_8
        have l12 : Hid (w11.heap.size < w13.heap.size) := Lib.hid R12.out.lt
        clear N12 n12 g12 s12
        exact ⟨⟨1, by omega, rfl, L_9⟩, by decide⟩
      · skip
        have a8 : wr.cell? ⟨ab, 8, none⟩ = some (.slice (some ⟨na, 0, none⟩) 1 1) := (A_6.out.cell 8).trans rfl
        have a9 : wr.cell? ⟨ab, 9, none⟩ = some (.int .u16 41) := (A_6.out.cell 9).trans rfl
        have a10 : wr.cell? ⟨ab, 10, none⟩ = some (.int .u16 4096) := (A_6.out.cell 10).trans rfl
        have a11 : wr.cell? ⟨ab, 11, none⟩ = some (.int .u32 65536) := (A_6.out.cell 11).trans rfl
        have a12 : wr.cell? ⟨ab, 12, none⟩ = some (.slice ma2 0 mc2) := (A_6.out.cell 12).trans rfl
        have a13 : wr.cell? ⟨ab, 13, none⟩ = some (.slice ua2 0 uc2) := (A_6.out.cell 13).trans rfl
        have a14 : wr.cell? ⟨ab, 14, none⟩ = some (.slice xa2 0 xc2) := (A_6.out.cell 14).trans rfl
        have a15 : wr.cell? ⟨ab, 15, none⟩ = some (.slice ra2 6 rc2) := (A_6.out.cell 15).trans rfl
        obtain ⟨W9, hW9⟩ : ∃ W, wr.alloc (.cells #[.slice none 0 0, .int .u16 0, .int .u16 0, .int .u32 0, .slice none 0 0, .slice none 0 0, .slice none 0 0, .slice none 0 0] 37) = W := ⟨_, rfl⟩
        have N9 : Hid (Blk W9 wr.heap.size 37 (0, 0) [.slice none 0 0, .int .u16 0, .int .u16 0, .int .u32 0, .slice none 0 0, .slice none 0 0, .slice none 0 0, .slice none 0 0]) := Lib.hid (by rw [← hW9]; exact Blk.new wr 37 (0, 0) #[.slice none 0 0, .int .u16 0, .int .u16 0, .int .u32 0, .slice none 0 0, .slice none 0 0, .slice none 0 0, .slice none 0 0])
        have n9 : Hid (Below wr.heap.size wr W9) := Lib.hid (by rw [← hW9]; exact alloc_bel _ _)
        go_upto_region 9 with (refine store_whole rfl 37 (.tmp 7) (.tmp 72) rfl rfl rfl N9.out (by rfl) (by kernel_rfl) (by first | kernel_rfl | rfl) ?_; intro w10 hBx hgx hzx; have R9 := Lib.hid hBx; have g9 := Lib.hid hgx; clear hBx hgx hzx)
        try rw [hW9]
        clear hW9
        have s9 := Lib.hid (fresh_store n9.out g9.out)
        have K_7 := Lib.hid (K_6.out.trans ((s9.out).mono K_6.out.size))
        have O_7 := Lib.hid (O_6.out.ext s9.out)
        have BR_7 := Lib.hid (BR_6.out.below s9.out BR_6.out.lt)
        have R1_7 := Lib.hid (R1_6.out.ext s9.out)
        have R2_7 := Lib.hid (R2_6.out.ext s9.out)
        have R3_7 := Lib.hid (R3_6.out.ext s9.out)
        have A_7 := Lib.hid (A_6.out.below s9.out A_6.out.lt)
        have L_7 := Lib.hid (hb.out.trans ((s9.out).mono hb.out.size))
        clear K_6 O_6 BR_6 R1_6 R2_6 R3_6 A_6 hb
        have l9 : Hid (wr.heap.size < w10.heap.size) := Lib.hid R9.out.lt
        clear N9 n9 g9 s9
        clear a8 a9 a10 a11 a12 a13 a14 a15
        have hrd := Lib.hid (read_bad (some ⟨na, 0, none⟩) 1 1 41 4096 65536 ma2 0 mc2 ua2 0 uc2 xa2 0 xc2 (own_rd_at R2_7.out).1 (by decide) (by decide) (by decide) (by decide) (by decide) (by decide) (by decide) (by decide) (.inl (by decide +kernel)))
        dsimp only [rV] at hrd
        have p0 : w10.cell? ⟨wr.heap.size, 0, none⟩ = some (.slice (some ⟨na, 0, none⟩) 1 1) := (R9.out.cell 0).trans rfl
        have p1 : w10.cell? ⟨wr.heap.size, 1, none⟩ = some (.int .u16 41) := (R9.out.cell 1).trans rfl
        have p2 : w10.cell? ⟨wr.heap.size, 2, none⟩ = some (.int .u16 4096) := (R9.out.cell 2).trans rfl
        have p3 : w10.cell? ⟨wr.heap.size, 3, none⟩ = some (.int .u32 65536) := (R9.out.cell 3).trans rfl
        have p4 : w10.cell? ⟨wr.heap.size, 4, none⟩ = some (.slice ma2 0 mc2) := (R9.out.cell 4).trans rfl
        have p5 : w10.cell? ⟨wr.heap.size, 5, none⟩ = some (.slice ua2 0 uc2) := (R9.out.cell 5).trans rfl
        have p6 : w10.cell? ⟨wr.heap.size, 6, none⟩ = some (.slice xa2 0 xc2) := (R9.out.cell 6).trans rfl
        have p7 : w10.cell? ⟨wr.heap.size, 7, none⟩ = some (.slice ra2 6 rc2) := (R9.out.cell 7).trans rfl
        go_wp2_with fail
        refine hrd.out.mono ?_
        rintro e w11 ⟨rfl, hb2⟩
        clear p0 p1 p2 p3 p4 p5 p6 p7
        have K_8 := Lib.hid (K_7.out.trans ((hb2).mono K_7.out.size))
        have O_8 := Lib.hid (O_7.out.ext hb2)
        have BR_8 := Lib.hid (BR_7.out.below hb2 BR_7.out.lt)
        have R1_8 := Lib.hid (R1_7.out.ext hb2)
        have R2_8 := Lib.hid (R2_7.out.ext hb2)
        have R3_8 := Lib.hid (R3_7.out.ext hb2)
        have A_8 := Lib.hid (A_7.out.below hb2 A_7.out.lt)
        have L_8 := Lib.hid (L_7.out.trans ((hb2).mono L_7.out.size))
        have BX_8 := Lib.hid (R9.out.below hb2 R9.out.lt)
        clear K_7 O_7 BR_7 R1_7 R2_7 R3_7 A_7 L_7 R9
        clear hb2 hrd
        obtain ⟨W12, hW12⟩ : ∃ W, w11.alloc (.cells #[.int .i64 0, .int .i64 0, .int .i64 0, .bool false, .slice none 0 0] 24) = W := ⟨_, rfl⟩
        have N12 : Hid (Blk W12 w11.heap.size 24 (0, 0) [.int .i64 0, .int .i64 0, .int .i64 0, .bool false, .slice none 0 0]) := Lib.hid (by rw [← hW12]; exact Blk.new w11 24 (0, 0) #[.int .i64 0, .int .i64 0, .int .i64 0, .bool false, .slice none 0 0])
        have n12 : Hid (Below w11.heap.size w11 W12) := Lib.hid (by rw [← hW12]; exact alloc_bel _ _)
        go_wp2_with (refine store_whole rfl 24 (.tmp 8) (.tmp 76) rfl rfl rfl N12.out (by rfl) (by kernel_rfl) (by first | kernel_rfl | rfl) ?_; intro w13 hBx hgx hzx; have R12 := Lib.hid hBx; have g12 := Lib.hid hgx; clear hBx hgx hzx)
        try rw [hW12]
        clear hW12
        have s12 := Lib.hid (fresh_store n12.out g12.out)
        have K_9 := Lib.hid (K_8.out.trans ((s12.out).mono K_8.out.size))
        have O_9 := Lib.hid (O_8.out.ext s12.out)
        have BR_9 := Lib.hid (BR_8.out.below s12.out BR_8.out.lt)
        have R1_9 := Lib.hid (R1_8.out.ext s12.out)
        have R2_9 := Lib.hid (R2_8.out.ext s12.out)
        have R3_9 := Lib.hid (R3_8.out.ext s12.out)
        have A_9 := Lib.hid (A_8.out.below s12.out A_8.out.lt)
        have L_9 := Lib.hid (L_8.out.trans ((s12.out).mono L_8.out.size))
        have BX_9 := Lib.hid (BX_8.out.below s12.out BX_8.out.lt)
        clear K_8 O_8 BR_8 R1_8 R2_8 R3_8 A_8 L_8 BX_8
        have l12 : Hid (w11.heap.size < w13.heap.size) := Lib.hid R12.out.lt
        clear N12 n12 g12 s12
        exact ⟨⟨2, by omega, rfl, L_9⟩, by decide⟩
      · skip
        have a16 : wr.cell? ⟨ab, 16, none⟩ = some (.slice oa3 0 oc3) := (A_6.out.cell 16).trans rfl
        have a17 : wr.cell? ⟨ab, 17, none⟩ = some (.int .u16 41) := (A_6.out.cell 17).trans rfl
        have a18 : wr.cell? ⟨ab, 18, none⟩ = some (.int .u16 4096) := (A_6.out.cell 18).trans rfl
        have a19 : wr.cell? ⟨ab, 19, none⟩ = some (.int .u32 1) := (A_6.out.cell 19).trans rfl
        have a20 : wr.cell? ⟨ab, 20, none⟩ = some (.slice ma3 0 mc3) := (A_6.out.cell 20).trans rfl
        have a21 : wr.cell? ⟨ab, 21, none⟩ = some (.slice ua3 0 uc3) := (A_6.out.cell 21).trans rfl
        have a22 : wr.cell? ⟨ab, 22, none⟩ = some (.slice xa3 0 xc3) := (A_6.out.cell 22).trans rfl
        have a23 : wr.cell? ⟨ab, 23, none⟩ = some (.slice ra3 6 rc3) := (A_6.out.cell 23).trans rfl
        obtain ⟨W9, hW9⟩ : ∃ W, wr.alloc (.cells #[.slice none 0 0, .int .u16 0, .int .u16 0, .int .u32 0, .slice none 0 0, .slice none 0 0, .slice none 0 0, .slice none 0 0] 37) = W := ⟨_, rfl⟩
        have N9 : Hid (Blk W9 wr.heap.size 37 (0, 0) [.slice none 0 0, .int .u16 0, .int .u16 0, .int .u32 0, .slice none 0 0, .slice none 0 0, .slice none 0 0, .slice none 0 0]) := Lib.hid (by rw [← hW9]; exact Blk.new wr 37 (0, 0) #[.slice none 0 0, .int .u16 0, .int .u16 0, .int .u32 0, .slice none 0 0, .slice none 0 0, .slice none 0 0, .slice none 0 0])
        have n9 : Hid (Below wr.heap.size wr W9) := Lib.hid (by rw [← hW9]; exact alloc_bel _ _)
        go_upto_region 9 with (refine store_whole rfl 37 (.tmp 7) (.tmp 72) rfl rfl rfl N9.out (by rfl) (by kernel_rfl) (by first | kernel_rfl | rfl) ?_; intro w10 hBx hgx hzx; have R9 := Lib.hid hBx; have g9 := Lib.hid hgx; clear hBx hgx hzx)
        try rw [hW9]
        clear hW9
        have s9 := Lib.hid (fresh_store n9.out g9.out)
        have K_7 := Lib.hid (K_6.out.trans ((s9.out).mono K_6.out.size))
        have O_7 := Lib.hid (O_6.out.ext s9.out)
        have BR_7 := Lib.hid (BR_6.out.below s9.out BR_6.out.lt)
        have R1_7 := Lib.hid (R1_6.out.ext s9.out)
        have R2_7 := Lib.hid (R2_6.out.ext s9.out)
        have R3_7 := Lib.hid (R3_6.out.ext s9.out)
        have A_7 := Lib.hid (A_6.out.below s9.out A_6.out.lt)
        have L_7 := Lib.hid (hb.out.trans ((s9.out).mono hb.out.size))
        clear K_6 O_6 BR_6 R1_6 R2_6 R3_6 A_6 hb
        have l9 : Hid (wr.heap.size < w10.heap.size) := Lib.hid R9.out.lt
        clear N9 n9 g9 s9
        clear a16 a17 a18 a19 a20 a21 a22 a23
        have hrd := Lib.hid (read_bad oa3 0 oc3 41 4096 1 ma3 0 mc3 ua3 0 uc3 xa3 0 xc3 (own_rd_at R3_7.out).1 (by decide) (by decide) (by decide) (by decide) (by decide) (by decide) (by decide) (by decide) (.inl (by decide +kernel)))
        dsimp only [rV] at hrd
        have p0 : w10.cell? ⟨wr.heap.size, 0, none⟩ = some (.slice oa3 0 oc3) := (R9.out.cell 0).trans rfl
        have p1 : w10.cell? ⟨wr.heap.size, 1, none⟩ = some (.int .u16 41) := (R9.out.cell 1).trans rfl
        have p2 : w10.cell? ⟨wr.heap.size, 2, none⟩ = some (.int .u16 4096) := (R9.out.cell 2).trans rfl
        have p3 : w10.cell? ⟨wr.heap.size, 3, none⟩ = some (.int .u32 1) := (R9.out.cell 3).trans rfl
        have p4 : w10.cell? ⟨wr.heap.size, 4, none⟩ = some (.slice ma3 0 mc3) := (R9.out.cell 4).trans rfl
        have p5 : w10.cell? ⟨wr.heap.size, 5, none⟩ = some (.slice ua3 0 uc3) := (R9.out.cell 5).trans rfl
        have p6 : w10.cell? ⟨wr.heap.size, 6, none⟩ = some (.slice xa3 0 xc3) := (R9.out.cell 6).trans rfl
        have p7 : w10.cell? ⟨wr.heap.size, 7, none⟩ = some (.slice ra3 6 rc3) := (R9.out.cell 7).trans rfl
        go_wp2_with fail
        refine hrd.out.mono ?_
        rintro e w11 ⟨rfl, hb2⟩
        clear p0 p1 p2 p3 p4 p5 p6 p7
        have K_8 := Lib.hid (K_7.out.trans ((hb2).mono K_7.out.size))
        have O_8 := Lib.hid (O_7.out.ext hb2)
        have BR_8 := Lib.hid (BR_7.out.below hb2 BR_7.out.lt)
        have R1_8 := Lib.hid (R1_7.out.ext hb2)
        have R2_8 := Lib.hid (R2_7.out.ext hb2)
        have R3_8 := Lib.hid (R3_7.out.ext hb2)
        have A_8 := Lib.hid (A_7.out.below hb2 A_7.out.lt)
        have L_8 := Lib.hid (L_7.out.trans ((hb2).mono L_7.out.size))
        have BX_8 := Lib.hid (R9.out.below hb2 R9.out.lt)
        clear K_7 O_7 BR_7 R1_7 R2_7 R3_7 A_7 L_7 R9
        clear hb2 hrd
        obtain ⟨W12, hW12⟩ : ∃ W, w11.alloc (.cells #[.int .i64 0, .int .i64 0, .int .i64 0, .bool false, .slice none 0 0] 24) = W := ⟨_, rfl⟩
        have N12 : Hid (Blk W12 w11.heap.size 24 (0, 0) [.int .i64 0, .int .i64 0, .int .i64 0, .bool false, .slice none 0 0]) := Lib.hid (by rw [← hW12]; exact Blk.new w11 24 (0, 0) #[.int .i64 0, .int .i64 0, .int .i64 0, .bool false, .slice none 0 0])
        have n12 : Hid (Below w11.heap.size w11 W12) := Lib.hid (by rw [← hW12]; exact alloc_bel _ _)
        go_wp2_with (refine store_whole rfl 24 (.tmp 8) (.tmp 76) rfl rfl rfl N12.out (by rfl) (by kernel_rfl) (by first | kernel_rfl | rfl) ?_; intro w13 hBx hgx hzx; have R12 := Lib.hid hBx; have g12 := Lib.hid hgx; clear hBx hgx hzx)
        try rw [hW12]
        clear hW12
        have s12 := Lib.hid (fresh_store n12.out g12.out)
        have K_9 := Lib.hid (K_8.out.trans ((s12.out).mono K_8.out.size))
        have O_9 := Lib.hid (O_8.out.ext s12.out)
        have BR_9 := Lib.hid (BR_8.out.below s12.out BR_8.out.lt)
        have R1_9 := Lib.hid (R1_8.out.ext s12.out)
        have R2_9 := Lib.hid (R2_8.out.ext s12.out)
        have R3_9 := Lib.hid (R3_8.out.ext s12.out)
        have A_9 := Lib.hid (A_8.out.below s12.out A_8.out.lt)
        have L_9 := Lib.hid (L_8.out.trans ((s12.out).mono L_8.out.size))
        have BX_9 := Lib.hid (BX_8.out.below s12.out BX_8.out.lt)
        clear K_8 O_8 BR_8 R1_8 R2_8 R3_8 A_8 L_8 BX_8
        have l12 : Hid (w11.heap.size < w13.heap.size) := Lib.hid R12.out.lt
        clear N12 n12 g12 s12
        exact ⟨⟨3, by omega, rfl, L_9⟩, by decide⟩
      · skip
        have a24 : wr.cell? ⟨ab, 24, none⟩ = some (.slice none 0 0) := (A_6.out.cell 24).trans rfl
        have a25 : wr.cell? ⟨ab, 25, none⟩ = some (.int .u16 0) := (A_6.out.cell 25).trans rfl
        have a26 : wr.cell? ⟨ab, 26, none⟩ = some (.int .u16 0) := (A_6.out.cell 26).trans rfl
        have a27 : wr.cell? ⟨ab, 27, none⟩ = some (.int .u32 0) := (A_6.out.cell 27).trans rfl
        have a28 : wr.cell? ⟨ab, 28, none⟩ = some (.slice none 0 0) := (A_6.out.cell 28).trans rfl
        have a29 : wr.cell? ⟨ab, 29, none⟩ = some (.slice none 0 0) := (A_6.out.cell 29).trans rfl
        have a30 : wr.cell? ⟨ab, 30, none⟩ = some (.slice none 0 0) := (A_6.out.cell 30).trans rfl
        have a31 : wr.cell? ⟨ab, 31, none⟩ = some (.slice none 0 0) := (A_6.out.cell 31).trans rfl
        obtain ⟨W9, hW9⟩ : ∃ W, wr.alloc (.cells #[.slice none 0 0, .int .u16 0, .int .u16 0, .int .u32 0, .slice none 0 0, .slice none 0 0, .slice none 0 0, .slice none 0 0] 37) = W := ⟨_, rfl⟩
        have N9 : Hid (Blk W9 wr.heap.size 37 (0, 0) [.slice none 0 0, .int .u16 0, .int .u16 0, .int .u32 0, .slice none 0 0, .slice none 0 0, .slice none 0 0, .slice none 0 0]) := Lib.hid (by rw [← hW9]; exact Blk.new wr 37 (0, 0) #[.slice none 0 0, .int .u16 0, .int .u16 0, .int .u32 0, .slice none 0 0, .slice none 0 0, .slice none 0 0, .slice none 0 0])
        have n9 : Hid (Below wr.heap.size wr W9) := Lib.hid (by rw [← hW9]; exact alloc_bel _ _)
        go_upto_region 9 with (refine store_whole rfl 37 (.tmp 7) (.tmp 72) rfl rfl rfl N9.out (by rfl) (by kernel_rfl) (by first | kernel_rfl | rfl) ?_; intro w10 hBx hgx hzx; have R9 := Lib.hid hBx; have g9 := Lib.hid hgx; clear hBx hgx hzx)
        try rw [hW9]
        clear hW9
        have s9 := Lib.hid (fresh_store n9.out g9.out)
        have K_7 := Lib.hid (K_6.out.trans ((s9.out).mono K_6.out.size))
        have O_7 := Lib.hid (O_6.out.ext s9.out)
        have BR_7 := Lib.hid (BR_6.out.below s9.out BR_6.out.lt)
        have R1_7 := Lib.hid (R1_6.out.ext s9.out)
        have R2_7 := Lib.hid (R2_6.out.ext s9.out)
        have R3_7 := Lib.hid (R3_6.out.ext s9.out)
        have A_7 := Lib.hid (A_6.out.below s9.out A_6.out.lt)
        have L_7 := Lib.hid (hb.out.trans ((s9.out).mono hb.out.size))
        clear K_6 O_6 BR_6 R1_6 R2_6 R3_6 A_6 hb
        have l9 : Hid (wr.heap.size < w10.heap.size) := Lib.hid R9.out.lt
        clear N9 n9 g9 s9
        clear a24 a25 a26 a27 a28 a29 a30 a31
        have hrd := Lib.hid (read_bad none 0 0 0 0 0 none 0 0 none 0 0 none 0 0 (Rd.nil byteE w10) (by decide) (by decide) (by decide) (by decide) (by decide) (by decide) (by decide) (by decide) (.inl (by decide +kernel)))
        dsimp only [rV] at hrd
        have p0 : w10.cell? ⟨wr.heap.size, 0, none⟩ = some (.slice none 0 0) := (R9.out.cell 0).trans rfl
        have p1 : w10.cell? ⟨wr.heap.size, 1, none⟩ = some (.int .u16 0) := (R9.out.cell 1).trans rfl
        have p2 : w10.cell? ⟨wr.heap.size, 2, none⟩ = some (.int .u16 0) := (R9.out.cell 2).trans rfl
        have p3 : w10.cell? ⟨wr.heap.size, 3, none⟩ = some (.int .u32 0) := (R9.out.cell 3).trans rfl
        have p4 : w10.cell? ⟨wr.heap.size, 4, none⟩ = some (.slice none 0 0) := (R9.out.cell 4).trans rfl
        have p5 : w10.cell? ⟨wr.heap.size, 5, none⟩ = some (.slice none 0 0) := (R9.out.cell 5).trans rfl
        have p6 : w10.cell? ⟨wr.heap.size, 6, none⟩ = some (.slice none 0 0) := (R9.out.cell 6).trans rfl
        have p7 : w10.cell? ⟨wr.heap.size, 7, none⟩ = some (.slice none 0 0) := (R9.out.cell 7).trans rfl
        go_wp2_with fail
        refine hrd.out.mono ?_
        rintro e w11 ⟨rfl, hb2⟩
        clear p0 p1 p2 p3 p4 p5 p6 p7
        have K_8 := Lib.hid (K_7.out.trans ((hb2).mono K_7.out.size))
        have O_8 := Lib.hid (O_7.out.ext hb2)
        have BR_8 := Lib.hid (BR_7.out.below hb2 BR_7.out.lt)
        have R1_8 := Lib.hid (R1_7.out.ext hb2)
        have R2_8 := Lib.hid (R2_7.out.ext hb2)
        have R3_8 := Lib.hid (R3_7.out.ext hb2)
        have A_8 := Lib.hid (A_7.out.below hb2 A_7.out.lt)
        have L_8 := Lib.hid (L_7.out.trans ((hb2).mono L_7.out.size))
        have BX_8 := Lib.hid (R9.out.below hb2 R9.out.lt)
        clear K_7 O_7 BR_7 R1_7 R2_7 R3_7 A_7 L_7 R9
        clear hb2 hrd
        obtain ⟨W12, hW12⟩ : ∃ W, w11.alloc (.cells #[.int .i64 0, .int .i64 0, .int .i64 0, .bool false, .slice none 0 0] 24) = W := ⟨_, rfl⟩
        have N12 : Hid (Blk W12 w11.heap.size 24 (0, 0) [.int .i64 0, .int .i64 0, .int .i64 0, .bool false, .slice none 0 0]) := Lib.hid (by rw [← hW12]; exact Blk.new w11 24 (0, 0) #[.int .i64 0, .int .i64 0, .int .i64 0, .bool false, .slice none 0 0])
        have n12 : Hid (Below w11.heap.size w11 W12) := Lib.hid (by rw [← hW12]; exact alloc_bel _ _)
        go_wp2_with (refine store_whole rfl 24 (.tmp 8) (.tmp 76) rfl rfl rfl N12.out (by rfl) (by kernel_rfl) (by first | kernel_rfl | rfl) ?_; intro w13 hBx hgx hzx; have R12 := Lib.hid hBx; have g12 := Lib.hid hgx; clear hBx hgx hzx)
        try rw [hW12]
        clear hW12
        have s12 := Lib.hid (fresh_store n12.out g12.out)
        have K_9 := Lib.hid (K_8.out.trans ((s12.out).mono K_8.out.size))
        have O_9 := Lib.hid (O_8.out.ext s12.out)
        have BR_9 := Lib.hid (BR_8.out.below s12.out BR_8.out.lt)
        have R1_9 := Lib.hid (R1_8.out.ext s12.out)
        have R2_9 := Lib.hid (R2_8.out.ext s12.out)
        have R3_9 := Lib.hid (R3_8.out.ext s12.out)
        have A_9 := Lib.hid (A_8.out.below s12.out A_8.out.lt)
        have L_9 := Lib.hid (L_8.out.trans ((s12.out).mono L_8.out.size))
        have BX_9 := Lib.hid (BX_8.out.below s12.out BX_8.out.lt)
        clear K_8 O_8 BR_8 R1_8 R2_8 R3_8 A_8 L_8 BX_8
        have l12 : Hid (w11.heap.size < w13.heap.size) := Lib.hid R12.out.lt
        clear N12 n12 g12 s12
        exact ⟨⟨4, by omega, rfl, L_9⟩, by decide⟩
      · skip
        clear A_6
        clear R1_6
        clear R2_6
        clear R3_6
        clear hb
        obtain ⟨W14, hW14⟩ : ∃ W, wr.alloc (.cells #[.slice none 0 0, .int .u16 41, .int .u16 4096, .int .u32 65536, .slice none 0 0, .slice none 0 0, .slice none 0 0, .slice ra 6 rc, .slice none 0 0, .int .u16 41, .int .u16 4096, .int .u32 65536, .slice none 0 0, .slice none 0 0, .slice none 0 0, .slice ra 6 rc] 37) = W := ⟨_, rfl⟩
        obtain ⟨t1, t2⟩ := two_rd O_6.out
        rw [hW14] at t1
        have k14 : Hid (Below wr.heap.size wr W14) := Lib.hid (by rw [← hW14]; exact alloc_bel _ _)
        have hof := Lib.hid (of_any t1 t2 (.int .u16 0) (.bool false) (.int .i64 0) (.bool false) (.bool false) (.bool false) (.bool false) (.bool false) (.bool false) (.int .i64 0) (.slice none 0 0) (.slice none 0 0) (.slice none 0 0))
        clear t1 t2
        have p0 : wr.cell? ⟨w3.heap.size, 0, none⟩ = some (.slice none 0 0) := (BR_6.out.cell 0).trans rfl
        have p1 : wr.cell? ⟨w3.heap.size, 1, none⟩ = some (.int .u16 41) := (BR_6.out.cell 1).trans rfl
        have p2 : wr.cell? ⟨w3.heap.size, 2, none⟩ = some (.int .u16 4096) := (BR_6.out.cell 2).trans rfl
        have p3 : wr.cell? ⟨w3.heap.size, 3, none⟩ = some (.int .u32 65536) := (BR_6.out.cell 3).trans rfl
        have p4 : wr.cell? ⟨w3.heap.size, 4, none⟩ = some (.slice none 0 0) := (BR_6.out.cell 4).trans rfl
        have p5 : wr.cell? ⟨w3.heap.size, 5, none⟩ = some (.slice none 0 0) := (BR_6.out.cell 5).trans rfl
        have p6 : wr.cell? ⟨w3.heap.size, 6, none⟩ = some (.slice none 0 0) := (BR_6.out.cell 6).trans rfl
        have p7 : wr.cell? ⟨w3.heap.size, 7, none⟩ = some (.slice ra 6 rc) := (BR_6.out.cell 7).trans rfl
        go_wp2_with fail
        try rw [hW14]
        clear hW14
        clear p0 p1 p2 p3 p4 p5 p6 p7
        have K_7 := Lib.hid (K_6.out.trans ((k14.out).mono K_6.out.size))
        have O_7 := Lib.hid (O_6.out.ext k14.out)
        have BR_7 := Lib.hid (BR_6.out.below k14.out BR_6.out.lt)
        clear K_6 O_6 BR_6
        clear k14
        refine hof.out.mono ?_
        rintro e w15 ⟨⟨u, rfl, hu⟩, hb2⟩
        obtain ⟨xa, xc, rfl⟩ := hu.shape
        dsimp only [eV, List.length]
        have K_8 := Lib.hid (K_7.out.trans ((hb2).mono K_7.out.size))
        have O_8 := Lib.hid (O_7.out.ext hb2)
        have BR_8 := Lib.hid (BR_7.out.below hb2 BR_7.out.lt)
        clear K_7 O_7 BR_7
        clear hb2 hu hof
        obtain ⟨W16, hW16⟩ : ∃ W, w15.alloc (.cells #[.int .i64 0, .int .i64 0, .int .i64 0, .bool false, .slice none 0 0] 24) = W := ⟨_, rfl⟩
        have N16 : Hid (Blk W16 w15.heap.size 24 (0, 0) [.int .i64 0, .int .i64 0, .int .i64 0, .bool false, .slice none 0 0]) := Lib.hid (by rw [← hW16]; exact Blk.new w15 24 (0, 0) #[.int .i64 0, .int .i64 0, .int .i64 0, .bool false, .slice none 0 0])
        have n16 : Hid (Below w15.heap.size w15 W16) := Lib.hid (by rw [← hW16]; exact alloc_bel _ _)
        go_upto_region 14 with (refine store_whole rfl 24 (.tmp 10) (.tmp 87) rfl rfl rfl N16.out (by rfl) (by kernel_rfl) (by first | kernel_rfl | rfl) ?_; intro w17 hBx hgx hzx; have R16 := Lib.hid hBx; have g16 := Lib.hid hgx; clear hBx hgx hzx)
        try rw [hW16]
        clear hW16
        have s16 := Lib.hid (fresh_store n16.out g16.out)
        have K_9 := Lib.hid (K_8.out.trans ((s16.out).mono K_8.out.size))
        have O_9 := Lib.hid (O_8.out.ext s16.out)
        have BR_9 := Lib.hid (BR_8.out.below s16.out BR_8.out.lt)
        clear K_8 O_8 BR_8
        have l16 : Hid (w15.heap.size < w17.heap.size) := Lib.hid R16.out.lt
        clear N16 n16 g16 s16
        clear R16
        have hw := Lib.hid (with0 w17 4096 (by decide) (by decide))
        go_wp2_with fail
        refine hw.out.mono ?_
        rintro e w20 ⟨⟨aq0, cq0, a10, c10, a20, c20, a30, c30, A0, rfl, rA, oU⟩, hb2⟩
        have rA0 := Lib.hid rA
        have oU0 := Lib.hid oU
        have K_10 := Lib.hid (K_9.out.trans ((hb2).mono K_9.out.size))
        have O_10 := Lib.hid (O_9.out.ext hb2)
        have BR_10 := Lib.hid (BR_9.out.below hb2 BR_9.out.lt)
        clear K_9 O_9 BR_9
        clear hb2 hw rA oU
        obtain ⟨W21, hW21⟩ : ∃ W, w20.alloc (.cells #[.int .u16 0, .bool false, .int .i64 0, .bool false, .bool false, .bool false, .bool false, .bool false, .bool false, .int .i64 0, .slice none 0 0, .slice none 0 0, .slice none 0 0, .slice none 0 0] 60) = W := ⟨_, rfl⟩
        have N21 : Hid (Blk W21 w20.heap.size 60 (0, 0) [.int .u16 0, .bool false, .int .i64 0, .bool false, .bool false, .bool false, .bool false, .bool false, .bool false, .int .i64 0, .slice none 0 0, .slice none 0 0, .slice none 0 0, .slice none 0 0]) := Lib.hid (by rw [← hW21]; exact Blk.new w20 60 (0, 0) #[.int .u16 0, .bool false, .int .i64 0, .bool false, .bool false, .bool false, .bool false, .bool false, .bool false, .int .i64 0, .slice none 0 0, .slice none 0 0, .slice none 0 0, .slice none 0 0])
        have n21 : Hid (Below w20.heap.size w20 W21) := Lib.hid (by rw [← hW21]; exact alloc_bel _ _)
        go_upto_region 15 with (refine store_whole rfl 60 (.tmp 13) (.tmp 94) rfl rfl rfl N21.out (by rfl) (by kernel_rfl) (by first | kernel_rfl | rfl) ?_; intro w22 hBx hgx hzx; have R21 := Lib.hid hBx; have g21 := Lib.hid hgx; clear hBx hgx hzx)
        try rw [hW21]
        clear hW21
        have s21 := Lib.hid (fresh_store n21.out g21.out)
        have K_11 := Lib.hid (K_10.out.trans ((s21.out).mono K_10.out.size))
        have O_11 := Lib.hid (O_10.out.ext s21.out)
        have BR_11 := Lib.hid (BR_10.out.below s21.out BR_10.out.lt)
        have G0_11 := Lib.hid (rA0.out.ext s21.out)
        clear K_10 O_10 BR_10 rA0
        have l21 : Hid (w20.heap.size < w22.heap.size) := Lib.hid R21.out.lt
        clear N21 n21 g21 s21
        have hw := Lib.hid (with0 w22 100 (by decide) (by decide))
        go_wp2_with fail
        refine hw.out.mono ?_
        rintro e w30 ⟨⟨aq1, cq1, a11, c11, a21, c21, a31, c31, A1, rfl, rA, oU⟩, hb2⟩
        have rA1 := Lib.hid rA
        have oU1 := Lib.hid oU
        have K_12 := Lib.hid (K_11.out.trans ((hb2).mono K_11.out.size))
        have O_12 := Lib.hid (O_11.out.ext hb2)
        have BR_12 := Lib.hid (BR_11.out.below hb2 BR_11.out.lt)
        have G0_12 := Lib.hid (G0_11.out.ext hb2)
        have M0_12 := Lib.hid (R21.out.below hb2 R21.out.lt)
        clear K_11 O_11 BR_11 G0_11 R21
        clear hb2 hw rA oU
        obtain ⟨W31, hW31⟩ : ∃ W, w30.alloc (.cells #[.int .u16 0, .bool false, .int .i64 0, .bool false, .bool false, .bool false, .bool false, .bool false, .bool false, .int .i64 0, .slice none 0 0, .slice none 0 0, .slice none 0 0, .slice none 0 0] 60) = W := ⟨_, rfl⟩
        have N31 : Hid (Blk W31 w30.heap.size 60 (0, 0) [.int .u16 0, .bool false, .int .i64 0, .bool false, .bool false, .bool false, .bool false, .bool false, .bool false, .int .i64 0, .slice none 0 0, .slice none 0 0, .slice none 0 0, .slice none 0 0]) := Lib.hid (by rw [← hW31]; exact Blk.new w30 60 (0, 0) #[.int .u16 0, .bool false, .int .i64 0, .bool false, .bool false, .bool false, .bool false, .bool false, .bool false, .int .i64 0, .slice none 0 0, .slice none 0 0, .slice none 0 0, .slice none 0 0])
        have n31 : Hid (Below w30.heap.size w30 W31) := Lib.hid (by rw [← hW31]; exact alloc_bel _ _)
        go_upto_region 16 with (refine store_whole rfl 60 (.tmp 15) (.tmp 100) rfl rfl rfl N31.out (by rfl) (by kernel_rfl) (by first | kernel_rfl | rfl) ?_; intro w32 hBx hgx hzx; have R31 := Lib.hid hBx; have g31 := Lib.hid hgx; clear hBx hgx hzx)
        try rw [hW31]
        clear hW31
        have s31 := Lib.hid (fresh_store n31.out g31.out)
        have K_13 := Lib.hid (K_12.out.trans ((s31.out).mono K_12.out.size))
        have O_13 := Lib.hid (O_12.out.ext s31.out)
        have BR_13 := Lib.hid (BR_12.out.below s31.out BR_12.out.lt)
        have G0_13 := Lib.hid (G0_12.out.ext s31.out)
        have M0_13 := Lib.hid (M0_12.out.below s31.out M0_12.out.lt)
        have G1_13 := Lib.hid (rA1.out.ext s31.out)
        clear K_12 O_12 BR_12 G0_12 M0_12 rA1
        have l31 : Hid (w30.heap.size < w32.heap.size) := Lib.hid R31.out.lt
        clear N31 n31 g31 s31
        have hs := Lib.hid (size_any (rdM0 w32).a3 ofU0 1232 (by decide) (by decide) (.int .u16 0) (.bool false) (.int .i64 0) (.bool false) (.bool false) (.bool false) (.bool false) (.bool false) (.bool false) (.int .i64 0) (.slice none 0 0) (.slice none 0 0) (.slice none 0 0))
        go_wp2_with fail
        refine hs.out.mono ?_
        rintro e w41 ⟨rfl, hb2⟩
        have K_14 := Lib.hid (K_13.out.trans ((hb2).mono K_13.out.size))
        have O_14 := Lib.hid (O_13.out.ext hb2)
        have BR_14 := Lib.hid (BR_13.out.below hb2 BR_13.out.lt)
        have G0_14 := Lib.hid (G0_13.out.ext hb2)
        have M0_14 := Lib.hid (M0_13.out.below hb2 M0_13.out.lt)
        have G1_14 := Lib.hid (G1_13.out.ext hb2)
        have M1_14 := Lib.hid (R31.out.below hb2 R31.out.lt)
        clear K_13 O_13 BR_13 G0_13 M0_13 G1_13 R31
        clear hb2 hs
        rw [show szV 1232 0 false 0 = 512 by decide]
        have p0 : w41.cell? ⟨w20.heap.size, 0, none⟩ = some (.int .u16 0) := (M0_14.out.cell 0).trans rfl
        have p1 : w41.cell? ⟨w20.heap.size, 1, none⟩ = some (.bool false) := (M0_14.out.cell 1).trans rfl
        have p2 : w41.cell? ⟨w20.heap.size, 2, none⟩ = some (.int .i64 0) := (M0_14.out.cell 2).trans rfl
        have p3 : w41.cell? ⟨w20.heap.size, 3, none⟩ = some (.bool false) := (M0_14.out.cell 3).trans rfl
        have p4 : w41.cell? ⟨w20.heap.size, 4, none⟩ = some (.bool false) := (M0_14.out.cell 4).trans rfl
        have p5 : w41.cell? ⟨w20.heap.size, 5, none⟩ = some (.bool false) := (M0_14.out.cell 5).trans rfl
        have p6 : w41.cell? ⟨w20.heap.size, 6, none⟩ = some (.bool false) := (M0_14.out.cell 6).trans rfl
        have p7 : w41.cell? ⟨w20.heap.size, 7, none⟩ = some (.bool false) := (M0_14.out.cell 7).trans rfl
        have p8 : w41.cell? ⟨w20.heap.size, 8, none⟩ = some (.bool false) := (M0_14.out.cell 8).trans rfl
        have p9 : w41.cell? ⟨w20.heap.size, 9, none⟩ = some (.int .i64 0) := (M0_14.out.cell 9).trans rfl
        have p10 : w41.cell? ⟨w20.heap.size, 10, none⟩ = some (.slice aq0 0 cq0) := (M0_14.out.cell 10).trans rfl
        have p11 : w41.cell? ⟨w20.heap.size, 11, none⟩ = some (.slice a10 0 c10) := (M0_14.out.cell 11).trans rfl
        have p12 : w41.cell? ⟨w20.heap.size, 12, none⟩ = some (.slice a20 0 c20) := (M0_14.out.cell 12).trans rfl
        have p13 : w41.cell? ⟨w20.heap.size, 13, none⟩ = some (.slice a30 1 c30) := (M0_14.out.cell 13).trans rfl
        have hs := Lib.hid (size_any G0_14.out oU0.out 1232 (by decide) (by decide) (.int .u16 0) (.bool false) (.int .i64 0) (.bool false) (.bool false) (.bool false) (.bool false) (.bool false) (.bool false) (.int .i64 0) (.slice aq0 0 cq0) (.slice a10 0 c10) (.slice a20 0 c20))
        go_wp2_with fail
        refine hs.out.mono ?_
        rintro e w42 ⟨rfl, hb2⟩
        clear p0 p1 p2 p3 p4 p5 p6 p7 p8 p9 p10 p11 p12 p13
        have K_15 := Lib.hid (K_14.out.trans ((hb2).mono K_14.out.size))
        have O_15 := Lib.hid (O_14.out.ext hb2)
        have BR_15 := Lib.hid (BR_14.out.below hb2 BR_14.out.lt)
        have G0_15 := Lib.hid (G0_14.out.ext hb2)
        have M0_15 := Lib.hid (M0_14.out.below hb2 M0_14.out.lt)
        have G1_15 := Lib.hid (G1_14.out.ext hb2)
        have M1_15 := Lib.hid (M1_14.out.below hb2 M1_14.out.lt)
        clear K_14 O_14 BR_14 G0_14 M0_14 G1_14 M1_14
        clear hb2 hs
        rw [show szV 1232 4096 true 0 = 1232 by decide]
        have p0 : w42.cell? ⟨w30.heap.size, 0, none⟩ = some (.int .u16 0) := (M1_15.out.cell 0).trans rfl
        have p1 : w42.cell? ⟨w30.heap.size, 1, none⟩ = some (.bool false) := (M1_15.out.cell 1).trans rfl
        have p2 : w42.cell? ⟨w30.heap.size, 2, none⟩ = some (.int .i64 0) := (M1_15.out.cell 2).trans rfl
        have p3 : w42.cell? ⟨w30.heap.size, 3, none⟩ = some (.bool false) := (M1_15.out.cell 3).trans rfl
        have p4 : w42.cell? ⟨w30.heap.size, 4, none⟩ = some (.bool false) := (M1_15.out.cell 4).trans rfl
        have p5 : w42.cell? ⟨w30.heap.size, 5, none⟩ = some (.bool false) := (M1_15.out.cell 5).trans rfl
        have p6 : w42.cell? ⟨w30.heap.size, 6, none⟩ = some (.bool false) := (M1_15.out.cell 6).trans rfl
        have p7 : w42.cell? ⟨w30.heap.size, 7, none⟩ = some (.bool false) := (M1_15.out.cell 7).trans rfl
        have p8 : w42.cell? ⟨w30.heap.size, 8, none⟩ = some (.bool false) := (M1_15.out.cell 8).trans rfl
        have p9 : w42.cell? ⟨w30.heap.size, 9, none⟩ = some (.int .i64 0) := (M1_15.out.cell 9).trans rfl
        have p10 : w42.cell? ⟨w30.heap.size, 10, none⟩ = some (.slice aq1 0 cq1) := (M1_15.out.cell 10).trans rfl
        have p11 : w42.cell? ⟨w30.heap.size, 11, none⟩ = some (.slice a11 0 c11) := (M1_15.out.cell 11).trans rfl
        have p12 : w42.cell? ⟨w30.heap.size, 12, none⟩ = some (.slice a21 0 c21) := (M1_15.out.cell 12).trans rfl
        have p13 : w42.cell? ⟨w30.heap.size, 13, none⟩ = some (.slice a31 1 c31) := (M1_15.out.cell 13).trans rfl
        have hs := Lib.hid (size_any G1_15.out oU1.out 1232 (by decide) (by decide) (.int .u16 0) (.bool false) (.int .i64 0) (.bool false) (.bool false) (.bool false) (.bool false) (.bool false) (.bool false) (.int .i64 0) (.slice aq1 0 cq1) (.slice a11 0 c11) (.slice a21 0 c21))
        go_wp2_with fail
        refine hs.out.mono ?_
        rintro e w43 ⟨rfl, hb2⟩
        clear p0 p1 p2 p3 p4 p5 p6 p7 p8 p9 p10 p11 p12 p13
        have K_16 := Lib.hid (K_15.out.trans ((hb2).mono K_15.out.size))
        have O_16 := Lib.hid (O_15.out.ext hb2)
        have BR_16 := Lib.hid (BR_15.out.below hb2 BR_15.out.lt)
        have G0_16 := Lib.hid (G0_15.out.ext hb2)
        have M0_16 := Lib.hid (M0_15.out.below hb2 M0_15.out.lt)
        have G1_16 := Lib.hid (G1_15.out.ext hb2)
        have M1_16 := Lib.hid (M1_15.out.below hb2 M1_15.out.lt)
        clear K_15 O_15 BR_15 G0_15 M0_15 G1_15 M1_15
        clear hb2 hs
        rw [show szV 1232 100 true 0 = 512 by decide]
        have hr := Lib.hid (rec_any (RdO.none w43) (fun o ho => by cases ho) (fun o ho => by cases ho) 65536 0 0 false)
        dsimp only [eV] at hr
        go_wp2_with fail
        refine hr.out.mono ?_
        rintro e w44 ⟨hB, hb2⟩
        unfold RecB at hB
        rw [if_neg (by decide +kernel)] at hB
        subst hB
        dsimp only [rV, nilV]
        have K_17 := Lib.hid (K_16.out.trans ((hb2).mono K_16.out.size))
        have O_17 := Lib.hid (O_16.out.ext hb2)
        have BR_17 := Lib.hid (BR_16.out.below hb2 BR_16.out.lt)
        have G0_17 := Lib.hid (G0_16.out.ext hb2)
        have M0_17 := Lib.hid (M0_16.out.below hb2 M0_16.out.lt)
        have G1_17 := Lib.hid (G1_16.out.ext hb2)
        have M1_17 := Lib.hid (M1_16.out.below hb2 M1_16.out.lt)
        clear K_16 O_16 BR_16 G0_16 M0_16 G1_16 M1_16
        clear hb2 hr
        obtain ⟨W45, hW45⟩ : ∃ W, w44.alloc (.cells #[.slice none 0 0, .int .u16 0, .int .u16 0, .int .u32 0, .slice none 0 0, .slice none 0 0, .slice none 0 0, .slice none 0 0] 37) = W := ⟨_, rfl⟩
        have N45 : Hid (Blk W45 w44.heap.size 37 (0, 0) [.slice none 0 0, .int .u16 0, .int .u16 0, .int .u32 0, .slice none 0 0, .slice none 0 0, .slice none 0 0, .slice none 0 0]) := Lib.hid (by rw [← hW45]; exact Blk.new w44 37 (0, 0) #[.slice none 0 0, .int .u16 0, .int .u16 0, .int .u32 0, .slice none 0 0, .slice none 0 0, .slice none 0 0, .slice none 0 0])
        have n45 : Hid (Below w44.heap.size w44 W45) := Lib.hid (by rw [← hW45]; exact alloc_bel _ _)
        go_upto_region 20 with (refine store_whole rfl 37 (.tmp 23) (.tmp 120) rfl rfl rfl N45.out (by rfl) (by kernel_rfl) (by first | kernel_rfl | rfl) ?_; intro w46 hBx hgx hzx; have R45 := Lib.hid hBx; have g45 := Lib.hid hgx; clear hBx hgx hzx)
        try rw [hW45]
        clear hW45
        have s45 := Lib.hid (fresh_store n45.out g45.out)
        have K_18 := Lib.hid (K_17.out.trans ((s45.out).mono K_17.out.size))
        have O_18 := Lib.hid (O_17.out.ext s45.out)
        have BR_18 := Lib.hid (BR_17.out.below s45.out BR_17.out.lt)
        have G0_18 := Lib.hid (G0_17.out.ext s45.out)
        have M0_18 := Lib.hid (M0_17.out.below s45.out M0_17.out.lt)
        have G1_18 := Lib.hid (G1_17.out.ext s45.out)
        have M1_18 := Lib.hid (M1_17.out.below s45.out M1_17.out.lt)
        clear K_17 O_17 BR_17 G0_17 M0_17 G1_17 M1_17
        have l45 : Hid (w44.heap.size < w46.heap.size) := Lib.hid R45.out.lt
        clear N45 n45 g45 s45
        clear R45
        have p0 : w46.cell? ⟨w20.heap.size, 0, none⟩ = some (.int .u16 0) := (M0_18.out.cell 0).trans rfl
        have p1 : w46.cell? ⟨w20.heap.size, 1, none⟩ = some (.bool false) := (M0_18.out.cell 1).trans rfl
        have p2 : w46.cell? ⟨w20.heap.size, 2, none⟩ = some (.int .i64 0) := (M0_18.out.cell 2).trans rfl
        have p3 : w46.cell? ⟨w20.heap.size, 3, none⟩ = some (.bool false) := (M0_18.out.cell 3).trans rfl
        have p4 : w46.cell? ⟨w20.heap.size, 4, none⟩ = some (.bool false) := (M0_18.out.cell 4).trans rfl
        have p5 : w46.cell? ⟨w20.heap.size, 5, none⟩ = some (.bool false) := (M0_18.out.cell 5).trans rfl
        have p6 : w46.cell? ⟨w20.heap.size, 6, none⟩ = some (.bool false) := (M0_18.out.cell 6).trans rfl
        have p7 : w46.cell? ⟨w20.heap.size, 7, none⟩ = some (.bool false) := (M0_18.out.cell 7).trans rfl
        have p8 : w46.cell? ⟨w20.heap.size, 8, none⟩ = some (.bool false) := (M0_18.out.cell 8).trans rfl
        have p9 : w46.cell? ⟨w20.heap.size, 9, none⟩ = some (.int .i64 0) := (M0_18.out.cell 9).trans rfl
        have p10 : w46.cell? ⟨w20.heap.size, 10, none⟩ = some (.slice aq0 0 cq0) := (M0_18.out.cell 10).trans rfl
        have p11 : w46.cell? ⟨w20.heap.size, 11, none⟩ = some (.slice a10 0 c10) := (M0_18.out.cell 11).trans rfl
        have p12 : w46.cell? ⟨w20.heap.size, 12, none⟩ = some (.slice a20 0 c20) := (M0_18.out.cell 12).trans rfl
        have p13 : w46.cell? ⟨w20.heap.size, 13, none⟩ = some (.slice a30 1 c30) := (M0_18.out.cell 13).trans rfl
        have hs := Lib.hid (size_bad w46 511 (by decide) a30 1 c30 (.int .u16 0) (.bool false) (.int .i64 0) (.bool false) (.bool false) (.bool false) (.bool false) (.bool false) (.bool false) (.int .i64 0) (.slice aq0 0 cq0) (.slice a10 0 c10) (.slice a20 0 c20))
        go_wp2_with fail
        refine hs.out.mono ?_
        rintro e w47 ⟨rfl, hb2⟩
        clear p0 p1 p2 p3 p4 p5 p6 p7 p8 p9 p10 p11 p12 p13
        have K_19 := Lib.hid (K_18.out.trans ((hb2).mono K_18.out.size))
        have O_19 := Lib.hid (O_18.out.ext hb2)
        have BR_19 := Lib.hid (BR_18.out.below hb2 BR_18.out.lt)
        have G0_19 := Lib.hid (G0_18.out.ext hb2)
        have M0_19 := Lib.hid (M0_18.out.below hb2 M0_18.out.lt)
        have G1_19 := Lib.hid (G1_18.out.ext hb2)
        have M1_19 := Lib.hid (M1_18.out.below hb2 M1_18.out.lt)
        clear K_18 O_18 BR_18 G0_18 M0_18 G1_18 M1_18
        clear hb2 hs
        have ha := Lib.hid (awake_any w47)
        go_wp2_with fail
        refine ha.out.mono ?_
        rintro e w48 ⟨rfl, hb2⟩
        have K_20 := Lib.hid (K_19.out.trans ((hb2).mono K_19.out.size))
        have O_20 := Lib.hid (O_19.out.ext hb2)
        have BR_20 := Lib.hid (BR_19.out.below hb2 BR_19.out.lt)
        have G0_20 := Lib.hid (G0_19.out.ext hb2)
        have M0_20 := Lib.hid (M0_19.out.below hb2 M0_19.out.lt)
        have G1_20 := Lib.hid (G1_19.out.ext hb2)
        have M1_20 := Lib.hid (M1_19.out.below hb2 M1_19.out.lt)
        clear K_19 O_19 BR_19 G0_19 M0_19 G1_19 M1_19
        go_wp2_with fail
        go_ret
        exact ⟨rfl, K_20.out⟩
end Go.Proofs.Ythgnlbdolilklaa
