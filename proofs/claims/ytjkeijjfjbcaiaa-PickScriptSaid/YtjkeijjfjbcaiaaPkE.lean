/- The program's picker: heard 35. -/
import Derived.Test.YtjkeijjfjbcaiaaPkD
namespace Go.Proofs.Ytjkeijjfjbcaiaa
open Go.RowKit
theorem step_own {α : Type} {P : Program} {E : Enc α} {ops : Array Oper} {o : Oper} {a : Act} {W : World} {K : Act → World → Prop} {Q : Exit → Act → World → Prop} {Ep : Prop} (hgd : o.guard = none) (s x : Operand) (t tx : TypeId)
    (ho : o.op = .call { callee := .builtin .append, args := #[s, x], argTypes := #[t, tx] }) {i : TypeInfo} {z : Value} {bytes : Nat} (ht : P.underlying t = some (.slice E.e)) (hi : P.info? E.e = some i) (hz : i.zero = some z)
    (hsize : i.size = E.k) (hby : i.bytes = bytes) (hzc : z.cells.toList = E.f E.z) {base : Nat} {v xv : Value} {l news : List α} (hs : a.eval s = v) (hown : Own E W base v l) (hx : a.eval x = xv) (hsrc : Src P E.k tx xv news.length (rowOf E news) W)
    (h63 : l.length + news.length ≤ maxLen) (hbytes : (l.length + news.length) * bytes ≤ 140737488355328) (hbase : base ≤ W.heap.size)
    (h : ∀ v' w', Own E w' base v' (l ++ news) → W.grownBy w' v.ownBlock → (v'.ownBlock = v.ownBlock ∨ v'.ownBlock = some W.heap.size) → K (a.put o.dst v') w') :
    if Region.wanted o (yielded ops a.tmps) = true then Oper.wp P o a W K Q else Ep := by
  have hw : Region.wanted o (yielded ops a.tmps) = true := by simp [Region.wanted, hgd]
  rw [if_pos hw]
  obtain ⟨v', w', hr, h2, h3, h4⟩ := run_append_Own (P := P) E W base t tx o.type i z bytes ht hi hz hsize hby hzc v l hown xv news hsrc h63 hbytes hbase
  unfold Oper.wp execOp
  simp only [ho, resolve, invoke, builtin, Sem.run_bind, Sem.run_pure, Result.andThen_ok, List.map_toArray, List.map_cons, List.map_nil, hs, hx, hr]
  exact h v' w' h2 h3 h4
theorem Pk.put {w : World} {p : Nat} {room : Int} {v v' : Value} {L : List Kn} (hB : Blk w p 52 (0, 0) [.int .i64 room, v]) (hO : Own knE w 0 v' L) (hne : v'.ownBlock ≠ some p) : Pk (w.setCell ⟨p, 1, none⟩ v') p room v' L :=
  ⟨hB.set 1 v', hO.keep fun k hk => Below.heap_setCell _ _ _ _ (fun e => hne (by rw [hk, e])), hne⟩
/-- what a call of the picker turns: its block, the row of its list; the list may come to lie in a new row -/
structure Hd (w w' : World) (p : Nat) (v v' : Value) : Prop where
  own : v'.ownBlock = v.ownBlock ∨ ∃ b, w.heap.size ≤ b ∧ v'.ownBlock = some b
  tch : Tch (fun b => b = p ∨ v.ownBlock = some b) w w'
theorem Hd.refl (w : World) (p : Nat) (v : Value) : Hd w w p v v := ⟨.inl rfl, Tch.refl _ _⟩
theorem Hd.trans {u v w : World} {p : Nat} {x y z : Value} (h : Hd u v p x y) (k : Hd v w p y z) : Hd u w p x z := by
  refine ⟨?_, h.tch.trans k.tch fun b hb hs => ?_⟩
  · rcases k.own with e | ⟨b, hb, e⟩
    · rw [e]; exact h.own
    · exact .inr ⟨b, Nat.le_trans h.tch.size hb, e⟩
  · rcases hs with rfl | hs
    · exact .inl rfl
    · rcases h.own with e | ⟨b', hb', e⟩
      · exact .inr (by rw [← e]; exact hs)
      · rw [e] at hs; cases hs; omega
theorem Hd.of_grown {u v : World} {p : Nat} {x y : Value} (h : u.grownBy v x.ownBlock) (ho : y.ownBlock = x.ownBlock ∨ ∃ b, u.heap.size ≤ b ∧ y.ownBlock = some b) : Hd u v p x y :=
  ⟨ho, Tch.of_grown h fun _ e => .inr e⟩
theorem Hd.set (w : World) (p : Nat) (v x : Value) (j : Nat) : Hd w (w.setCell ⟨p, j, none⟩ x) p v v := ⟨.inl rfl, Tch.setCell w (.inl rfl) x⟩
theorem Hd.ext {u v : World} {p : Nat} {x : Value} (h : Below u.heap.size u v) : Hd u v p x x := ⟨.inl rfl, Tch.of_below h⟩
theorem own_at {v : Value} {w : World} {L : List Kn} {p : Nat} (hO : Own knE w 0 v L) (hp : w.heap.size ≤ p) : v.ownBlock ≠ some p := fun e => by have := (hO.lt p e).2; omega
theorem cell_grown {w w' : World} {r : Option Nat} {p : Addr} {v : Value} (hg : w.grownBy w' r) (h : w.cell? p = some v) (hne : r ≠ some p.block) : w'.cell? p = some v :=
  (World.cell?_of_block (hg.block _ (World.block_lt_of_cell? w _ h) (fun e => hne e.symm))).trans h
theorem frozen_of_block {w w' : World} {p : Addr} (h : w'.heap[p.block]? = w.heap[p.block]?) : w'.frozen? p = w.frozen? p := by
  unfold World.frozen?; rw [h]
theorem frozen_grown {w w' : World} {r : Option Nat} {p : Addr} (hg : w.grownBy w' r) (hlt : p.block < w.heap.size) (h : w.frozen? p = false) (hne : r ≠ some p.block) : w'.frozen? p = false :=
  (frozen_of_block (hg.block _ hlt (fun e => hne e.symm))).trans h
theorem blk_grown {w w' : World} {r : Option Nat} {b : Nat} {e : TypeId} {fz : Nat × Nat} {C : List Value} (hg : w.grownBy w' r) (h : Blk w b e fz C) (hne : r ≠ some b) : Blk w' b e fz C :=
  (hg.block _ h.lt (fun e => hne e.symm)).trans h
set_option maxHeartbeats 8000000 in
set_option maxRecDepth 100000 in
theorem heard35 {w : World} {p : Nat} {room : Int} {v : Value} {L : List Kn} (h : Pk w p room v L) (h1 : 1 ≤ room) (hl : L.length ≤ 100000) (k : Kn) :
    Calls Try.prog 35 #[.pointer (some ⟨p, 0, none⟩), knV k] w fun e w' => e = .returned (.tuple #[]) ∧ ∃ v', Pk w' p room v' (hrd room L k) ∧ Hd w w' p v v' := by
  have hp := h.blk.lt
  obtain ⟨xa, xt, xf, xg⟩ := k
  have hb0 : Below w.heap.size w (w.alloc (.cells #[.int .u32 xa, .int .i64 xt, .int .i64 xf, .int .i64 xg] 34)) := (Below.refl _ _).alloc (Nat.le_refl _) _
  have hO0 := Lib.hid (h.own.ext hb0)
  have hB0 := Lib.hid (h.blk.below hb0 hp)
  have hN0 := Lib.hid (Blk.new w 34 (0, 0) #[.int .u32 xa, .int .i64 xt, .int .i64 xf, .int .i64 xg])
  have hv1 : w.cell? ⟨p, 1, none⟩ = some v := h.blk.cell 1
  have hvn : v.ownBlock ≠ some w.heap.size := own_at h.own (Nat.le_refl _)
  have hvp := Lib.hid h.ne
  have hl' := Lib.hid hl
  have hH0 : Hid (Hd w (w.alloc (.cells #[.int .u32 xa, .int .i64 xt, .int .i64 xf, .int .i64 xg] 34)) p v v) := Lib.hid (Hd.ext hb0)
  have hsz : Hid ((w.alloc (.cells #[.int .u32 xa, .int .i64 xt, .int .i64 xf, .int .i64 xg] 34)).heap.size = w.heap.size + 1) := Lib.hid (size_al _ _)
  obtain ⟨av, cv, rfl⟩ := h.own.shape
  clear h hl hb0
  unfold knV
  dsimp only
  go_enter Try.func35, Try.ntmps35
  go_wp2_with fail
  refine (del_any hO0.out (hN0.out.cell 0) hvn (by have := hl'.out; omega)).mono ?_
  rintro e w2 ⟨⟨v1, rfl, hO1, ho1⟩, hg1⟩
  have hB2 := blk_grown hg1 hB0.out hvp.out
  have hN2 := blk_grown hg1 hN0.out hvn
  have hp2 : v1.ownBlock ≠ some p := by rw [ho1]; exact hvp.out
  have hP3 := Lib.hid (Pk.put hB2 hO1 hp2)
  have hN3 : Hid (Blk (w2.setCell ⟨p, 1, none⟩ v1) w.heap.size 34 (0, 0) [.int .u32 xa, .int .i64 xt, .int .i64 xf, .int .i64 xg]) := Lib.hid (hN2.setOther (by show p ≠ _; omega) _)
  have hH3 : Hid (Hd w (w2.setCell ⟨p, 1, none⟩ v1) p (.slice av L.length cv) v1) := Lib.hid ((hH0.out.trans (Hd.of_grown hg1 (.inl ho1))).trans (Hd.set _ _ _ _ _))
  have q2 : w2.cell? ⟨p, 1, none⟩ = some (.slice av L.length cv) := hB2.cell 1
  have f2 : w2.frozen? ⟨p, 1, none⟩ = false := hB2.frozen 1
  have hwl : Hid ((wo L xa).length ≤ 100000) := Lib.hid (by have := wo_len L xa; have := hl'.out; omega)
  clear hB2 hN2 hO0 hB0 hN0 hH0 hg1 hsz
  obtain ⟨a1, c1, rfl⟩ := hO1.shape
  clear hO1 ho1 hp2
  go_wp2_with fail
  generalize w2.setCell ⟨p, 1, none⟩ (.slice a1 (wo L xa).length c1) = w3 at *
  obtain ⟨i0, hi, hz0, hz1, hz2⟩ := info_parts Try.info34x
  obtain ⟨W1, hW1⟩ : ∃ W1, w3.drew.alloc (.cells #[.int .u32 xa, .int .i64 xt, .int .i64 xf, .int .i64 xg] 34) = W1 := ⟨_, rfl⟩
  have hbW : Below w3.heap.size w3 W1 := by rw [← hW1]; exact ((Below.refl _ _).drew).alloc (Nat.le_refl _) _
  have hPW := hP3.out.ext hbW
  have hS : Hid (Src Try.prog knE.k 31 (.slice (some ⟨w3.heap.size, 0, none⟩) 1 1) [(⟨xa, xt, xf, xg⟩ : Kn)].length (rowOf knE [⟨xa, xt, xf, xg⟩]) W1) := by
    rw [← hW1]; exact Lib.hid (src_lit (E := knE) (w := w3.drew) (e' := 34) Try.underlying31 _ [⟨xa, xt, xf, xg⟩] 1 rfl rfl)
  have hO1 := Lib.hid hPW.own
  have hB1 := Lib.hid hPW.blk
  have hl1 := hPW.blk.lt
  have hne1 := hPW.ne
  have q3 : w3.cell? ⟨p, 1, none⟩ = some (.slice a1 (wo L xa).length c1) := hP3.out.blk.cell 1
  have f3 : w3.frozen? ⟨p, 1, none⟩ = false := hP3.out.blk.frozen 1
  have q4 : w3.cell? ⟨w.heap.size, 0, none⟩ = some (.int .u32 xa) := hN3.out.cell 0
  have q5 : w3.cell? ⟨w.heap.size, 1, none⟩ = some (.int .i64 xt) := hN3.out.cell 1
  have q6 : w3.cell? ⟨w.heap.size, 2, none⟩ = some (.int .i64 xf) := hN3.out.cell 2
  have q7 : w3.cell? ⟨w.heap.size, 3, none⟩ = some (.int .i64 xg) := hN3.out.cell 3
  have hHW := Lib.hid (hH3.out.trans (Hd.ext (p := p) (x := .slice a1 (wo L xa).length c1) hbW))
  have hc1 : W1.cell? ⟨p, 1, none⟩ = some (.slice a1 (wo L xa).length c1) := hB1.out.cell 1
  have hf1 : W1.frozen? ⟨p, 1, none⟩ = false := hB1.out.frozen 1
  clear hPW hbW hP3 hH3 hN3 q2 f2
  go_region_law (first | (refine step_own (E := knE) (by rfl) (.tmp 17) (.tmp 19) 31 31 (by rfl) Try.underlying31 hi hz0 hz1 hz2 rfl (by rfl) hO1.out (by rfl) hS.out (by have := hwl.out; simp [maxLen]; omega) (by have := hwl.out; simp; omega) (Nat.zero_le _) ?_; intro v2 w4 ho2 hg2 hv2; have hc2 := cell_grown hg2 hc1 hne1; have hf2 := frozen_grown hg2 hl1 hf1 hne1; obtain ⟨a2, c2, rfl⟩ := ho2.shape; have ho3 := Lib.hid ho2))
  all_goals
    have el : (wo L xa ++ [(⟨xa, xt, xf, xg⟩ : Kn)]).length = (wo L xa).length + 1 := by simp
    have hrE : hrd room L ⟨xa, xt, xf, xg⟩ = if room < ((wo L xa ++ [(⟨xa, xt, xf, xg⟩ : Kn)]).length : Int) then (wo L xa ++ [(⟨xa, xt, xf, xg⟩ : Kn)]).drop 1 else wo L xa ++ [(⟨xa, xt, xf, xg⟩ : Kn)] := rfl
    have hrE' := Lib.hid hrE
    clear hrE ho3
    rw [el] at ho2 hv2
    have hne2 : (Value.slice a2 ((wo L xa).length + 1) c2).ownBlock ≠ some p := by
      rcases hv2 with e | e
      · rw [e]; exact hne1
      · rw [e]; intro h; cases h; exact Nat.lt_irrefl _ hl1
    have hP5 := Lib.hid (Pk.put (blk_grown hg2 hB1.out hne1) ho2 hne2)
    have hH5 := Lib.hid ((hHW.out.trans (Hd.of_grown (p := p) hg2 (hv2.imp id (fun e => ⟨_, Nat.le_refl _, e⟩)))).trans (Hd.set w4 p _ (.slice a2 ((wo L xa).length + 1) c2) 1))
    generalize hNN : wo L xa ++ [(⟨xa, xt, xf, xg⟩ : Kn)] = N at *
    have hNl := Lib.hid el
    have hwl2 : Hid (N.length ≤ 1000000) := Lib.hid (by have := hwl.out; omega)
    clear hc2 hf2 hg2 hv2 hne2 ho2 hNN el hwl hHW hS hc1 hf1 hO1 hB1 hl1 hne1 q3 f3 q4 q5 q6 q7 hW1 hv1
    generalize (wo L xa).length + 1 = m at *
    generalize w4.setCell ⟨p, 1, none⟩ (.slice a2 m c2) = w5 at *
    have z1 : w5.cell? ⟨p, 1, none⟩ = some (.slice a2 m c2) := hP5.out.blk.cell 1
    have z0 : w5.cell? ⟨p, 0, none⟩ = some (.int .i64 room) := hP5.out.blk.cell 0
    have g1 : w5.frozen? ⟨p, 1, none⟩ = false := hP5.out.blk.frozen 1
    by_cases hgt : room < (m : Int)
    · go_wp2_with fail
      go_region
      go_wp2_with fail
      have hP6 : Pk w5.drew p room (.slice a2 m c2) N := hP5.out.ext ((Below.refl _ _).drew)
      have hrE : hrd room L ⟨xa, xt, xf, xg⟩ = N.drop 1 := by rw [hrE'.out, if_pos (by rw [hNl.out]; exact hgt)]
      refine (del01 hP6.own (by have := hNl.out; omega) hwl2.out).mono ?_
      rintro e w6 ⟨⟨v6, rfl, hO6, ho6⟩, hg6⟩
      obtain ⟨a6, c6, rfl⟩ := hO6.shape
      have hB6 := blk_grown hg6 hP6.blk hP6.ne
      have y1 : w6.cell? ⟨p, 1, none⟩ = some (.slice a2 m c2) := hB6.cell 1
      have y2 : w6.frozen? ⟨p, 1, none⟩ = false := hB6.frozen 1
      have hP7 : Hid (Pk (w6.setCell ⟨p, 1, none⟩ (.slice a6 (N.drop 1).length c6)) p room (.slice a6 (N.drop 1).length c6) (hrd room L ⟨xa, xt, xf, xg⟩)) := Lib.hid (by rw [hrE]; exact Pk.put hB6 hO6 (by rw [ho6]; exact hP6.ne))
      have hH7 := Lib.hid (((hH5.out.trans (Hd.ext ((Below.refl _ _).drew))).trans (Hd.of_grown (p := p) hg6 (.inl ho6))).trans (Hd.set w6 p _ (.slice a6 (N.drop 1).length c6) 1))
      clear hB6 hO6 hg6 hP6 hrE ho6
      generalize (N.drop 1).length = m6 at *
      go_wp2_with fail
      first
        | go_end0
        | go_ret
      exact ⟨rfl, _, hP7.out, hH7.out⟩
    · go_wp2_with fail
      go_region
      go_wp2_with fail
      have hP6 : Pk w5.drew p room (.slice a2 m c2) N := hP5.out.ext ((Below.refl _ _).drew)
      have hrE : hrd room L ⟨xa, xt, xf, xg⟩ = N := by rw [hrE'.out, if_neg (by rw [hNl.out]; exact Int.not_lt.2 hgt)]
      first
        | go_end0
        | go_ret
      exact ⟨rfl, _, by rw [hrE]; exact hP6, hH5.out.trans (Hd.ext ((Below.refl _ _).drew))⟩
end Go.Proofs.Ytjkeijjfjbcaiaa
