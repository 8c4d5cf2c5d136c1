/- The document's network: flights 44. Printed by gen_ntx.py. -/
import Derived.Test.YthdnbipfdahnlaaNtW
namespace Go.Proofs.Ythdnbipfdahnlaa
open Go Go.RowKit
/-- new flights: each with bytes of its own -/
def RepN (w : World) (base : Nat) (FN : List FD) (L : List Fl) : Prop := FN.length = L.length ∧ ∀ (j : Nat) (q : FD) (f : Fl), FN[j]? = some q → L[j]? = some f → q.at_ = f.at_ ∧ q.p.h = f.h ∧ Own byteE w base (dV q) f.d
theorem RepN.ext {w w' : World} {base : Nat} {FN : List FD} {L : List Fl} (h : RepN w base FN L) (hb : Below w.heap.size w w') : RepN w' base FN L := ⟨h.1, fun j q f hq hf => ⟨(h.2 j q f hq hf).1, (h.2 j q f hq hf).2.1, (h.2 j q f hq hf).2.2.ext hb⟩⟩
theorem RepN.nil (w : World) (base : Nat) : RepN w base [] [] := ⟨rfl, fun j q f h => by simp at h⟩
theorem RepN.one {w : World} {base : Nat} {y : Int} {h : Hd} {a : Option Addr} {n c : Nat} {d : List UInt8} (ho : Own byteE w base (.slice a n c) d) : RepN w base [(⟨y, ⟨h, a, n, c⟩⟩ : FD)] [⟨y, h, d⟩] := ⟨rfl, fun j q f hq hf => by
  match j, hq, hf with
  | 0, hq, hf => cases hq; cases hf; exact ⟨rfl, rfl, ho⟩
  | j + 1, hq, hf => simp at hq⟩
theorem RepN.two {w : World} {base : Nat} {y y' : Int} {h h' : Hd} {a a' : Option Addr} {n c n' c' : Nat} {d d' : List UInt8} (ho : Own byteE w base (.slice a n c) d) (ho' : Own byteE w base (.slice a' n' c') d') : RepN w base [(⟨y, ⟨h, a, n, c⟩⟩ : FD), ⟨y', ⟨h', a', n', c'⟩⟩] [⟨y, h, d⟩, ⟨y', h', d'⟩] := ⟨rfl, fun j q f hq hf => by
  match j, hq, hf with
  | 0, hq, hf => cases hq; cases hf; exact ⟨rfl, rfl, ho⟩
  | 1, hq, hf => cases hq; cases hf; exact ⟨rfl, rfl, ho'⟩
  | j + 2, hq, hf => simp at hq⟩
def FlsB (base : Nat) (L : List Fl) (e : Ending) (w' : World) : Prop := ∃ v FN, e = .returned v ∧ Own flE w' base v FN ∧ RepN w' base FN L
set_option maxHeartbeats 8000000 in
set_option maxRecDepth 100000 in
theorem flights_any {w : World} (f : Fate) (hm : mayF f = true) (h : Hd) {da : Option Addr} {dn dc : Nat} {d : List UInt8} (hr : Rd byteE w da dn dc d) (hn : dn ≤ 140737488355328) (y : Int) (hy : 0 ≤ y ∧ y ≤ 1099511627776) :
    Calls Try.prog 44 #[pkV h (.slice da dn dc), ftV f, .int .i64 y] w fun e w' => FlsB w.heap.size (flsF f h d y) e w' ∧ Below w.heap.size w w' := by
  obtain ⟨fk, fd, fm⟩ := f
  obtain ⟨⟨m1, m2⟩, m3, m4, mk⟩ := may_kinds hm
  dsimp only at m1 m2 m3 m4 mk
  unfold ftV pkV
  dsimp only
  obtain ⟨LF, hLF⟩ : ∃ x, flsF (fk, fd, fm) h d y = x := ⟨_, rfl⟩
  rw [hLF]
  unfold flsF at hLF
  dsimp only at hLF
  replace hLF := Lib.hid hLF
  obtain ⟨W1, hW1⟩ : ∃ W, w.alloc (.cells #[.int .u32 h.from_, .int .u16 h.fport, .int .u32 h.to_, .int .u16 h.tport, .bool h.stream, .slice da dn dc] 32) = W := ⟨_, rfl⟩
  have B1 : Hid (Blk W1 w.heap.size 32 (0, 0) [.int .u32 h.from_, .int .u16 h.fport, .int .u32 h.to_, .int .u16 h.tport, .bool h.stream, .slice da dn dc]) := Lib.hid (by rw [← hW1]; exact Blk.new w 32 (0, 0) #[.int .u32 h.from_, .int .u16 h.fport, .int .u32 h.to_, .int .u16 h.tport, .bool h.stream, .slice da dn dc])
  have k1 : Hid (Below w.heap.size w W1) := Lib.hid (by rw [← hW1]; exact alloc_bel _ _)
  obtain ⟨W2, hW2⟩ : ∃ W, W1.alloc (.cells #[.int .i64 fk, .int .i64 fd, .int .i64 fm] 51) = W := ⟨_, rfl⟩
  have B2 : Hid (Blk W2 W1.heap.size 51 (0, 0) [.int .i64 fk, .int .i64 fd, .int .i64 fm]) := Lib.hid (by rw [← hW2]; exact Blk.new W1 51 (0, 0) #[.int .i64 fk, .int .i64 fd, .int .i64 fm])
  have k2 : Hid (Below W1.heap.size W1 W2) := Lib.hid (by rw [← hW2]; exact alloc_bel _ _)
  have kb := Lib.hid (k1.out.trans (k2.out.mono k1.out.size))
  have B12 := Lib.hid (B1.out.below k2.out B1.out.lt)
  have HR := Lib.hid (hr.ext kb.out)
  have hf3 : Hid (fk = 3 → fm < 524280) := Lib.hid (fun e => by subst e; unfold mayF at hm; dsimp only at hm; rw [if_neg (by omega), if_neg (by omega), if_neg (by omega), if_pos rfl] at hm; exact (of_decide_eq_true hm).2)
  have hfm : Hid (fk = 2 → fm ≤ 86400) := Lib.hid (fun e => by subst e; unfold mayF at hm; dsimp only at hm; rw [if_neg (by omega), if_neg (by omega), if_pos rfl] at hm; exact (of_decide_eq_true hm).2)
  clear hr hm
  go_enter Try.func44, Try.ntmps44
  go_upto_region 1 with (fail)
  try rw [hW1]
  try rw [hW2]
  clear hW1 hW2
  refine fls_one _ _ _ _ _ _ _ _ _ _ _ _ _ _ _ _ _ _ _ _ _ _ _ _ _ _ _ _ _ _ _ _ _ _ _ _ _ _ _ _ _ _ h fk fd fm y B12.out B2.out HR.out hn hy ⟨m1, m2⟩ ?_
  intro x8 x9 x10 x11 x12 x13 x14 V gb a c kV BV hg ho
  dsimp only
  have B1V := Lib.hid (B12.out.below kV B12.out.lt)
  have B2V := Lib.hid (B2.out.below kV B2.out.lt)
  have HRV := Lib.hid (HR.out.ext kV)
  have KV := Lib.hid (kb.out.trans (kV.mono kb.out.size))
  have GV := Lib.hid BV
  have OV := Lib.hid ho
  have hgb : Hid (w.heap.size ≤ gb ∧ W2.heap.size ≤ gb) := Lib.hid ⟨Nat.le_trans kb.out.size hg, hg⟩
  have kV2 := Lib.hid kV
  have hz : Hid (w.heap.size ≤ W2.heap.size) := Lib.hid kb.out.size
  clear kV BV hg ho HR B12 B1 B2 kb
  rcases mk with rfl | rfl | rfl | rfl
  · skip
    have f0 : V.cell? ⟨W1.heap.size, 0, none⟩ = some (.int .i64 0) := (B2V.out.cell 0).trans rfl
    have f1 : V.cell? ⟨W1.heap.size, 1, none⟩ = some (.int .i64 fd) := (B2V.out.cell 1).trans rfl
    have f2 : V.cell? ⟨W1.heap.size, 2, none⟩ = some (.int .i64 fm) := (B2V.out.cell 2).trans rfl
    have g0 : V.cell? ⟨gb, 0, none⟩ = some (.int .i64 (y + fd)) := (GV.out.cell 0).trans rfl
    have g1 : V.cell? ⟨gb, 1, none⟩ = some (.int .u32 h.from_) := (GV.out.cell 1).trans rfl
    have g2 : V.cell? ⟨gb, 2, none⟩ = some (.int .u16 h.fport) := (GV.out.cell 2).trans rfl
    have g3 : V.cell? ⟨gb, 3, none⟩ = some (.int .u32 h.to_) := (GV.out.cell 3).trans rfl
    have g4 : V.cell? ⟨gb, 4, none⟩ = some (.int .u16 h.tport) := (GV.out.cell 4).trans rfl
    have g5 : V.cell? ⟨gb, 5, none⟩ = some (.bool h.stream) := (GV.out.cell 5).trans rfl
    have g6 : V.cell? ⟨gb, 6, none⟩ = some (.slice a dn c) := (GV.out.cell 6).trans rfl
    obtain ⟨V3, hW3⟩ : ∃ W, V.alloc (.cells #[.int .i64 (y + fd), .int .u32 h.from_, .int .u16 h.fport, .int .u32 h.to_, .int .u16 h.tport, .bool h.stream, .slice a dn c] 71) = W := ⟨_, rfl⟩
    have B3 : Hid (Blk V3 V.heap.size 71 (0, 0) [.int .i64 (y + fd), .int .u32 h.from_, .int .u16 h.fport, .int .u32 h.to_, .int .u16 h.tport, .bool h.stream, .slice a dn c]) := Lib.hid (by rw [← hW3]; exact Blk.new V 71 (0, 0) #[.int .i64 (y + fd), .int .u32 h.from_, .int .u16 h.fport, .int .u32 h.to_, .int .u16 h.tport, .bool h.stream, .slice a dn c])
    have k3 : Hid (Below V.heap.size V V3) := Lib.hid (by rw [← hW3]; exact alloc_bel _ _)
    go_wp2_with fail
    try rw [hW3]
    go_ret
    refine ⟨⟨_, [(⟨y + fd, ⟨h, a, dn, c⟩⟩ : FD)], rfl, ?_, ?_⟩, KV.out.trans (k3.out.mono KV.out.size)⟩
    · exact .inr ⟨_, 1, [(⟨y + fd, ⟨h, a, dn, c⟩⟩ : FD)], rfl, KV.out.size, B3.out, rfl, Nat.le_refl 1, (by decide : 1 ≤ maxLen), rfl⟩
    · rw [← hLF.out]
      exact RepN.one ((OV.out.mono hz.out).ext k3.out)
  · skip
    have f0 : V.cell? ⟨W1.heap.size, 0, none⟩ = some (.int .i64 1) := (B2V.out.cell 0).trans rfl
    have f1 : V.cell? ⟨W1.heap.size, 1, none⟩ = some (.int .i64 fd) := (B2V.out.cell 1).trans rfl
    have f2 : V.cell? ⟨W1.heap.size, 2, none⟩ = some (.int .i64 fm) := (B2V.out.cell 2).trans rfl
    go_wp2_with fail
    go_ret
    refine ⟨⟨_, [], rfl, Own.nil _ _ _, ?_⟩, KV.out⟩
    rw [← hLF.out]
    exact RepN.nil _ _
  · skip
    have f0 : V.cell? ⟨W1.heap.size, 0, none⟩ = some (.int .i64 2) := (B2V.out.cell 0).trans rfl
    have f1 : V.cell? ⟨W1.heap.size, 1, none⟩ = some (.int .i64 fd) := (B2V.out.cell 1).trans rfl
    have f2 : V.cell? ⟨W1.heap.size, 2, none⟩ = some (.int .i64 fm) := (B2V.out.cell 2).trans rfl
    have hm6 := hfm.out rfl
    go_upto_region 6 with (fail)
    refine fls_two _ _ _ _ _ _ _ _ _ _ _ _ _ _ _ _ _ _ _ _ _ _ _ _ _ _ _ _ _ _ _ _ _ _ _ _ _ _ _ _ _ h 2 fd fm y _ _ a c B1V.out B2V.out HRV.out hn hy ⟨m1, m2⟩ ⟨m3, hm6⟩ GV.out ?_
    intro x21 x22 x23 x24 x25 x26 x27 x28 x29 x30 x31 x32 V4 g2 a2 c2 k4 B4 hg2 ho2
    dsimp only
    have K4 := Lib.hid (KV.out.trans (k4.mono KV.out.size))
    have O4 := Lib.hid ho2
    have B4h := Lib.hid B4
    have O1 := Lib.hid (OV.out.ext k4)
    have hg3 : Hid (w.heap.size ≤ g2) := Lib.hid (Nat.le_trans KV.out.size hg2)
    have hVs : Hid (w.heap.size ≤ V.heap.size) := Lib.hid KV.out.size
    clear k4 B4 hg2 ho2
    go_wp2_with fail
    go_ret
    refine ⟨⟨_, [(⟨y + fd, ⟨h, a, dn, c⟩⟩ : FD), ⟨y + fd + fm, ⟨h, a2, dn, c2⟩⟩], rfl, ?_, ?_⟩, K4.out⟩
    · exact .inr ⟨_, 2, [(⟨y + fd, ⟨h, a, dn, c⟩⟩ : FD), ⟨y + fd + fm, ⟨h, a2, dn, c2⟩⟩], rfl, hg3.out, B4h.out, rfl, Nat.le_refl 2, (by decide : 2 ≤ maxLen), rfl⟩
    · rw [← hLF.out]
      exact RepN.two (O1.out.mono hz.out) (O4.out.mono hVs.out)
  · skip
    have f0 : V.cell? ⟨W1.heap.size, 0, none⟩ = some (.int .i64 3) := (B2V.out.cell 0).trans rfl
    have f1 : V.cell? ⟨W1.heap.size, 1, none⟩ = some (.int .i64 fd) := (B2V.out.cell 1).trans rfl
    have f2 : V.cell? ⟨W1.heap.size, 2, none⟩ = some (.int .i64 fm) := (B2V.out.cell 2).trans rfl
    have p0 : V.cell? ⟨w.heap.size, 0, none⟩ = some (.int .u32 h.from_) := (B1V.out.cell 0).trans rfl
    have p1 : V.cell? ⟨w.heap.size, 1, none⟩ = some (.int .u16 h.fport) := (B1V.out.cell 1).trans rfl
    have p2 : V.cell? ⟨w.heap.size, 2, none⟩ = some (.int .u32 h.to_) := (B1V.out.cell 2).trans rfl
    have p3 : V.cell? ⟨w.heap.size, 3, none⟩ = some (.int .u16 h.tport) := (B1V.out.cell 3).trans rfl
    have p4 : V.cell? ⟨w.heap.size, 4, none⟩ = some (.bool h.stream) := (B1V.out.cell 4).trans rfl
    have p5 : V.cell? ⟨w.heap.size, 5, none⟩ = some (.slice da dn dc) := (B1V.out.cell 5).trans rfl
    have hc := Lib.hid (copied_any h HRV.out hn fm (hf3.out rfl))
    unfold pkV at hc
    go_wp2_with fail
    refine hc.out.mono ?_
    rintro e V4 ⟨⟨a4, c4, rfl, ho4⟩, hb4⟩
    have O4 := Lib.hid ho4
    have GV4 := Lib.hid (GV.out.below hb4 GV.out.lt)
    have KV4 := Lib.hid (KV.out.trans (hb4.mono KV.out.size))
    clear ho4 hb4 hc f0 f1 f2 p0 p1 p2 p3 p4 p5 GV KV
    have g0 : V4.cell? ⟨gb, 0, none⟩ = some (.int .i64 (y + fd)) := (GV4.out.cell 0).trans rfl
    have g1 : V4.cell? ⟨gb, 1, none⟩ = some (.int .u32 h.from_) := (GV4.out.cell 1).trans rfl
    have g2 : V4.cell? ⟨gb, 2, none⟩ = some (.int .u16 h.fport) := (GV4.out.cell 2).trans rfl
    have g3 : V4.cell? ⟨gb, 3, none⟩ = some (.int .u32 h.to_) := (GV4.out.cell 3).trans rfl
    have g4 : V4.cell? ⟨gb, 4, none⟩ = some (.int .u16 h.tport) := (GV4.out.cell 4).trans rfl
    have g5 : V4.cell? ⟨gb, 5, none⟩ = some (.bool h.stream) := (GV4.out.cell 5).trans rfl
    have g6 : V4.cell? ⟨gb, 6, none⟩ = some (.slice a dn c) := (GV4.out.cell 6).trans rfl
    have z1 : V4.frozen? ⟨gb, 1, none⟩ = false := by rw [GV4.out.frozen]; try simp
    have z2 : V4.frozen? ⟨gb, 2, none⟩ = false := by rw [GV4.out.frozen]; try simp
    have z3 : V4.frozen? ⟨gb, 3, none⟩ = false := by rw [GV4.out.frozen]; try simp
    have z4 : V4.frozen? ⟨gb, 4, none⟩ = false := by rw [GV4.out.frozen]; try simp
    have z5 : V4.frozen? ⟨gb, 5, none⟩ = false := by rw [GV4.out.frozen]; try simp
    have z6 : V4.frozen? ⟨gb, 6, none⟩ = false := by rw [GV4.out.frozen]; try simp
    go_upto_region 9 with (fail)
    obtain ⟨V5, hV⟩ : ∃ U, ((((((V4.setCell ⟨gb, 1, none⟩ (.int .u32 h.from_)).setCell ⟨gb, 2, none⟩ (.int .u16 h.fport)).setCell ⟨gb, 3, none⟩ (.int .u32 h.to_)).setCell ⟨gb, 4, none⟩ (.int .u16 h.tport)).setCell ⟨gb, 5, none⟩ (.bool h.stream)).setCell ⟨gb, 6, none⟩ (.slice a4 dn c4)) = U := ⟨_, rfl⟩
    rw [hV]
    have hgV : V4.grownBy V5 (some gb) := by rw [← hV]; exact grown_trans (grown_trans (grown_trans (grown_trans (grown_trans (grown_set _ _ _ _) (grown_set _ _ _ _)) (grown_set _ _ _ _)) (grown_set _ _ _ _)) (grown_set _ _ _ _)) (grown_set _ _ _ _)
    have B5 : Hid (Blk V5 gb 71 (0, 0) [.int .i64 (y + fd), .int .u32 h.from_, .int .u16 h.fport, .int .u32 h.to_, .int .u16 h.tport, .bool h.stream, .slice a4 dn c4]) := Lib.hid (by rw [← hV]; exact ((((((GV4.out.set 1 _).set 2 _).set 3 _).set 4 _).set 5 _).set 6 _))
    have O5 := Lib.hid (own_store O4.out GV4.out (by decide) hgV)
    have K5 := Lib.hid (KV4.out.grown hgV KV4.out.size (fun k hk => by cases hk; exact hgb.out.1))
    have hVs : Hid (w.heap.size ≤ V.heap.size) := Lib.hid (Nat.le_trans hz.out kV2.out.size)
    clear hV hgV g0 g1 g2 g3 g4 g5 g6 z1 z2 z3 z4 z5 z6 GV4 KV4 O4
    have g0 : V5.cell? ⟨gb, 0, none⟩ = some (.int .i64 (y + fd)) := (B5.out.cell 0).trans rfl
    have g1 : V5.cell? ⟨gb, 1, none⟩ = some (.int .u32 h.from_) := (B5.out.cell 1).trans rfl
    have g2 : V5.cell? ⟨gb, 2, none⟩ = some (.int .u16 h.fport) := (B5.out.cell 2).trans rfl
    have g3 : V5.cell? ⟨gb, 3, none⟩ = some (.int .u32 h.to_) := (B5.out.cell 3).trans rfl
    have g4 : V5.cell? ⟨gb, 4, none⟩ = some (.int .u16 h.tport) := (B5.out.cell 4).trans rfl
    have g5 : V5.cell? ⟨gb, 5, none⟩ = some (.bool h.stream) := (B5.out.cell 5).trans rfl
    have g6 : V5.cell? ⟨gb, 6, none⟩ = some (.slice a4 dn c4) := (B5.out.cell 6).trans rfl
    obtain ⟨W6, hW6⟩ : ∃ W, V5.alloc (.cells #[.int .i64 (y + fd), .int .u32 h.from_, .int .u16 h.fport, .int .u32 h.to_, .int .u16 h.tport, .bool h.stream, .slice a4 dn c4] 71) = W := ⟨_, rfl⟩
    have B6 : Hid (Blk W6 V5.heap.size 71 (0, 0) [.int .i64 (y + fd), .int .u32 h.from_, .int .u16 h.fport, .int .u32 h.to_, .int .u16 h.tport, .bool h.stream, .slice a4 dn c4]) := Lib.hid (by rw [← hW6]; exact Blk.new V5 71 (0, 0) #[.int .i64 (y + fd), .int .u32 h.from_, .int .u16 h.fport, .int .u32 h.to_, .int .u16 h.tport, .bool h.stream, .slice a4 dn c4])
    have k6 : Hid (Below V5.heap.size V5 W6) := Lib.hid (by rw [← hW6]; exact alloc_bel _ _)
    go_wp2_with fail
    try rw [hW6]
    go_ret
    refine ⟨⟨_, [(⟨y + fd, ⟨h, a4, dn, c4⟩⟩ : FD)], rfl, ?_, ?_⟩, K5.out.trans (k6.out.mono K5.out.size)⟩
    · exact .inr ⟨_, 1, [(⟨y + fd, ⟨h, a4, dn, c4⟩⟩ : FD)], rfl, K5.out.size, B6.out, rfl, Nat.le_refl 1, (by decide : 1 ≤ maxLen), rfl⟩
    · rw [← hLF.out]
      have h9 := (O5.out.mono hVs.out).ext k6.out
      unfold cpD at h9
      rw [if_neg (by omega)] at h9
      exact RepN.one h9
end Go.Proofs.Ythdnbipfdahnlaa
