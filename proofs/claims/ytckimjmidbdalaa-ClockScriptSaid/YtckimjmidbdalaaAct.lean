/- Layer 22: a call of the clock, beside the document's. -/
import Derived.Test.YtckimjmidbdalaaRck3
import Derived.Test.YtckimjmidbdalaaClockDropW
namespace Go.Proofs.Ytckimjmidbdalaa
open Go.RowKit
theorem clk_same {w w' : World} {c : Nat} {o : Option Nat} {now : Int} {L : List Tk} {m : Nat} (h : Clk w c o now L m) (hh : w'.heap = w.heap) : Clk w' c o now L m := h.keep (congrArg (·[c]?) hh) fun k _ => congrArg (·[k]?) hh
theorem rck_same {w w' : World} {c : Nat} {o : Option Nat} {now : Int} {L : List Tk} (h : Rck w c o now L) (hh : w'.heap = w.heap) : Rck w' c o now L := h.keep (congrArg (·[c]?) hh) fun k _ => congrArg (·[k]?) hh
theorem Rck.other {w w' : World} {c c' : Nat} {o o' : Option Nat} {now : Int} {L : List Tk} (h : Rck w c' o' now L) (t : Two2 w c c' o o') (hT : Tn w w' c o) : Rck w' c' o' now L :=
  h.keep (hT.block c' h.lt t.ne.symm t.b) fun k hk => hT.block k (h.own k hk).2 (fun e => t.a (by rw [hk, e])) (fun e => t.d k e hk)
/-- the clock at cc and the document's at rc say the same -/
structure Pair (w : World) (cc rc : Nat) (now : Int) (L : List Tk) (m : Nat) : Prop where
  ex : ∃ o ro, Clk w cc o now L m ∧ Rck w rc ro now L ∧ Two2 w cc rc o ro
theorem Pair.mono {w : World} {cc rc : Nat} {now : Int} {L : List Tk} {m m' : Nat} (h : Pair w cc rc now L m) (hm : m ≤ m') : Pair w cc rc now L m' := by
  obtain ⟨o, ro, h1, h2, h3⟩ := h; exact ⟨o, ro, h1.mono hm, h2, h3⟩
/-- what may have been turned: nothing that lay ahead of both clocks -/
def Bel (w w' : World) (cc rc : Nat) : Prop := ∀ B, B ≤ cc → B ≤ rc → Below B w w'
theorem Bel.refl (w : World) (cc rc : Nat) : Bel w w cc rc := fun B _ _ => Below.refl B w
theorem Bel.tnc {w w1 w2 : World} {cc rc : Nat} {o : Option Nat} {now : Int} {L : List Tk} {m : Nat} (h : Bel w w1 cc rc) (hC : Clk w1 cc o now L m) (hT : Tn w1 w2 cc o) : Bel w w2 cc rc := fun B h1 h2 => hC.below hT (h B h1 h2) h1
theorem Rck.below {w0 w w' : World} {B c : Nat} {o : Option Nat} {now : Int} {L : List Tk} (h : Rck w c o now L) (hT : Tn w w' c o) (hb : Below B w0 w) (hB : B ≤ c) : Below B w0 w' :=
  hT.below hb (by have := h.lt; omega) hB fun j hj => by have := h.own j hj; omega
theorem Bel.tnr {w w1 w2 : World} {cc rc : Nat} {o : Option Nat} {now : Int} {L : List Tk} (h : Bel w w1 cc rc) (hC : Rck w1 rc o now L) (hT : Tn w1 w2 rc o) : Bel w w2 cc rc := fun B h1 h2 => hC.below hT (h B h1 h2) h2
theorem Bel.same {w w1 w2 : World} {cc rc : Nat} (h : Bel w w1 cc rc) (hh : w2.heap = w1.heap) (ho : w2.os = w1.os) (ht : w2.tape = w1.tape) (hu : w2.output = w1.output) : Bel w w2 cc rc := fun B h1 h2 => by
  have k := h B h1 h2
  exact ⟨ho.trans k.os, ht.trans k.tape, hu.trans k.output, by rw [hh]; exact k.size, fun i hi => (congrArg (·[i]?) hh).trans (k.block i hi)⟩
def actV (k a y : Int) : Value := .agg #[.int .i64 k, .int .i64 a, .int .i64 y]
/-- the box of the call's argument -/
structure Box (w : World) (bx : Nat) (a y : Int) : Prop where
  c1 : w.cell? ⟨bx, 1, none⟩ = some (.int .i64 a)
  c2 : w.cell? ⟨bx, 2, none⟩ = some (.int .i64 y)
theorem tn_cell {w w' : World} {c : Nat} {o : Option Nat} {p : Addr} {v : Value} (hT : Tn w w' c o) (h : w.cell? p = some v) (h1 : p.block ≠ c) (h2 : o ≠ some p.block) : w'.cell? p = some v :=
  (World.cell?_of_block (hT.block _ (World.block_lt_of_cell? w _ h) h1 h2)).trans h
theorem rck_o {w0 w w' : World} {c c' : Nat} {o o' : Option Nat} {now : Int} {L : List Tk} (hT : Tn w w' c o) (h : Rck w0 c' o' now L) (hh : w.heap = w0.heap) (t : Two2 w0 c c' o o') : Rck w' c' o' now L := (rck_same h hh).other t.any hT
theorem clk_o {w0 w w' : World} {c c' : Nat} {o o' : Option Nat} {now : Int} {L : List Tk} {m : Nat} (hT : Tn w w' c o) (h : Clk w0 c' o' now L m) (hh : w.heap = w0.heap) (t : Two2 w0 c c' o o') : Clk w' c' o' now L m := (clk_same h hh).other t.any hT
theorem two_l {w0 w w' : World} {c c' : Nat} {o o' o1 : Option Nat} (hN : Newer w o o1) (t : Two2 w0 c c' o o') (h1 : c' < w.heap.size) (h2 : ∀ k, o' = some k → k < w.heap.size) : Two2 w' c c' o1 o' := Two2.left (w := w) t.any hN h1 h2
theorem bel_c {u w0 w w' : World} {cc rc : Nat} {o : Option Nat} {now : Int} {L : List Tk} {m : Nat} (hT : Tn w w' cc o) (h : Bel u w0 cc rc) (hC : Clk w0 cc o now L m) (hh : w.heap = w0.heap) (ho : w.os = w0.os) (ht : w.tape = w0.tape) (hu : w.output = w0.output) : Bel u w' cc rc := (h.same hh ho ht hu).tnc (clk_same hC hh) hT
theorem bel_r {u w0 w w' : World} {cc rc : Nat} {o : Option Nat} {now : Int} {L : List Tk} (hT : Tn w w' rc o) (h : Bel u w0 cc rc) (hC : Rck w0 rc o now L) (hh : w.heap = w0.heap) (ho : w.os = w0.os) (ht : w.tape = w0.tape) (hu : w.output = w0.output) : Bel u w' cc rc := (h.same hh ho ht hu).tnr (rck_same hC hh) hT
theorem tn_c {w0 w w' : World} {c : Nat} {o : Option Nat} {p : Addr} {v : Value} (hT : Tn w w' c o) (h : w0.cell? p = some v) (hh : w.cell? p = w0.cell? p) (h1 : p.block ≠ c) (h2 : o ≠ some p.block) : w'.cell? p = some v := tn_cell hT (hh.trans h) h1 h2
set_option maxHeartbeats 4000000 in
set_option maxRecDepth 100000 in
theorem act_add_yes {w : World} {cc rc : Nat} {now : Int} {L : List Tk} {m : Nat} (h : Pair w cc rc now L m) (hm : m ≤ 999) (a y : Int) (h1 : 0 ≤ a) (h2 : a ≤ mx) :
    Calls Try.prog 24 #[.pointer (some ⟨cc, 0, none⟩), .pointer (some ⟨rc, 0, none⟩), actV 0 a y] w fun e w' => e = .returned (.bool true) ∧ (∃ now' L', Pair w' cc rc now' L' (m + 1)) ∧ Bel w w' cc rc := by
  unfold actV
  obtain ⟨o, ro, hC, hR, hT⟩ := h
  have hlen := hC.len
  have hc1 := hC.lt
  have hc2 := hR.lt
  have hoc := hC.own
  have hor := hR.own
  generalize hW1 : w.alloc (.cells #[.int .i64 0, .int .i64 a, .int .i64 y] 51) = w1
  have hB : Blk w1 w.heap.size 51 (0, 0) [.int .i64 0, .int .i64 a, .int .i64 y] := by rw [← hW1]; exact Blk.new w 51 (0, 0) #[.int .i64 0, .int .i64 a, .int .i64 y]
  have d0 : w1.cell? ⟨w.heap.size, 0, none⟩ = some (.int .i64 0) := by rw [hB.cell]; rfl
  have d1 : w1.cell? ⟨w.heap.size, 1, none⟩ = some (.int .i64 a) := by rw [hB.cell]; rfl
  have d2 : w1.cell? ⟨w.heap.size, 2, none⟩ = some (.int .i64 y) := by rw [hB.cell]; rfl
  have hbx : Below w.heap.size w w1 := by rw [← hW1]; exact (Below.refl _ w).alloc (Nat.le_refl _) _
  have hC1 : Hid (Clk w1 cc o now L m) := Lib.hid (hC.ext hbx hc1 fun j hj => (hoc j hj).2)
  have hR1 : Hid (Rck w1 rc ro now L) := Lib.hid (hR.keep (hbx.block rc hc2) fun k hk => hbx.block k (hor k hk).2)
  have hT1 : Hid (Two2 w1 cc rc o ro) := Lib.hid hT.any
  have hBel : Hid (Bel w w1 cc rc) := Lib.hid fun B h1 h2 => hbx.mono (by omega)
  have nc : w.heap.size ≠ cc := by omega
  have nr : w.heap.size ≠ rc := by omega
  have no : Hid (o ≠ some w.heap.size) := Lib.hid fun e => by have := (hoc _ e).2; omega
  have nro : Hid (ro ≠ some w.heap.size) := Lib.hid fun e => by have := (hor _ e).2; omega
  have hWW := Lib.hid hW1
  have hL2 : Hid (L.length ≤ 1000) := Lib.hid (by omega)
  clear hC hR hT hoc hor hB hbx hW1 hlen
  go_enter Try.func24, Try.ntmps24
  go_wp2_with fail
  rw [hWW.out]
  go_region_held3 (fun w' => w'.cell? ⟨w.heap.size, 1, none⟩ = some (.int .i64 a) ∧ w'.cell? ⟨w.heap.size, 2, none⟩ = some (.int .i64 y))
    (first | assumption | exact ⟨d1, d2⟩ | exact (fun h => ⟨h.1, h.2⟩) hs3 | exact (fun h => ⟨h.1, h.2⟩) hs4)
    (first | (go_at_call 18; refine (clk_add_yes (clk_same hC1.out (by rfl)) a y h1 h2 (by omega)).mono ?_; rintro e w3 ⟨rfl, o1, hCn, hTn, hNn⟩; have hs3 := And.intro (tn_c hTn d1 (by rfl) nc no.out) (tn_c hTn d2 (by rfl) nc no.out); have hC3 := Lib.hid hCn; have hR3 := Lib.hid (rck_o hTn hR1.out (by rfl) hT1.out); have hT3 : Hid (Two2 w3 cc rc o1 ro) := Lib.hid (two_l hNn hT1.out (by exact hR1.out.lt) (by exact fun j hj => (hR1.out.own j hj).2)); have hE3 := Lib.hid (bel_c hTn hBel.out hC1.out (by rfl) (by rfl) (by rfl) (by rfl))) | (go_at_call 30; refine (rck_add_yes (rck_same hR3.out (by rfl)) a y h1 h2 hL2.out).mono ?_; rintro e w4 ⟨rfl, ro1, hRn, hTn2, hNn2⟩; have hs4 := And.intro (tn_c hTn2 hs3.1 (by rfl) nr nro.out) (tn_c hTn2 hs3.2 (by rfl) nr nro.out); have hR4 := Lib.hid hRn; have hC4 := Lib.hid (clk_o hTn2 hC3.out (by rfl) hT3.out.swap); have hT4 : Hid (Two2 w4 cc rc o1 ro1) := Lib.hid ((two_l (w' := w4) hNn2 hT3.out.swap (by exact hC3.out.lt) (by exact fun j hj => (hC3.out.own j hj).2)).swap); have hE4 := Lib.hid (bel_r hTn2 hE3.out hR3.out (by rfl) (by rfl) (by rfl) (by rfl))))
  go_wp2_with fail
  go_ret
  exact ⟨by apply ret_bool; simp, ⟨_, _, _, _, hC4.out.mono (by omega), hR4.out, hT4.out⟩, hE4.out⟩
set_option maxHeartbeats 4000000 in
set_option maxRecDepth 100000 in
theorem act_add_no {w : World} {cc rc : Nat} {now : Int} {L : List Tk} {m : Nat} (h : Pair w cc rc now L m) (hm : m ≤ 999) (a y : Int) (hn : a < 0 ∨ mx < a) :
    Calls Try.prog 24 #[.pointer (some ⟨cc, 0, none⟩), .pointer (some ⟨rc, 0, none⟩), actV 0 a y] w fun e w' => e = .returned (.bool true) ∧ (∃ now' L', Pair w' cc rc now' L' (m + 1)) ∧ Bel w w' cc rc := by
  unfold actV
  obtain ⟨o, ro, hC, hR, hT⟩ := h
  have hlen := hC.len
  have hc1 := hC.lt
  have hc2 := hR.lt
  have hoc := hC.own
  have hor := hR.own
  generalize hW1 : w.alloc (.cells #[.int .i64 0, .int .i64 a, .int .i64 y] 51) = w1
  have hB : Blk w1 w.heap.size 51 (0, 0) [.int .i64 0, .int .i64 a, .int .i64 y] := by rw [← hW1]; exact Blk.new w 51 (0, 0) #[.int .i64 0, .int .i64 a, .int .i64 y]
  have d0 : w1.cell? ⟨w.heap.size, 0, none⟩ = some (.int .i64 0) := by rw [hB.cell]; rfl
  have d1 : w1.cell? ⟨w.heap.size, 1, none⟩ = some (.int .i64 a) := by rw [hB.cell]; rfl
  have d2 : w1.cell? ⟨w.heap.size, 2, none⟩ = some (.int .i64 y) := by rw [hB.cell]; rfl
  have hbx : Below w.heap.size w w1 := by rw [← hW1]; exact (Below.refl _ w).alloc (Nat.le_refl _) _
  have hC1 : Hid (Clk w1 cc o now L m) := Lib.hid (hC.ext hbx hc1 fun j hj => (hoc j hj).2)
  have hR1 : Hid (Rck w1 rc ro now L) := Lib.hid (hR.keep (hbx.block rc hc2) fun k hk => hbx.block k (hor k hk).2)
  have hT1 : Hid (Two2 w1 cc rc o ro) := Lib.hid hT.any
  have hBel : Hid (Bel w w1 cc rc) := Lib.hid fun B h1 h2 => hbx.mono (by omega)
  have nc : w.heap.size ≠ cc := by omega
  have nr : w.heap.size ≠ rc := by omega
  have no : Hid (o ≠ some w.heap.size) := Lib.hid fun e => by have := (hoc _ e).2; omega
  have nro : Hid (ro ≠ some w.heap.size) := Lib.hid fun e => by have := (hor _ e).2; omega
  have hWW := Lib.hid hW1
  have hL2 : Hid (L.length ≤ 1000) := Lib.hid (by omega)
  clear hC hR hT hoc hor hB hbx hW1 hlen
  go_enter Try.func24, Try.ntmps24
  go_wp2_with fail
  rw [hWW.out]
  go_quiet (first | (go_at_call 18; exact Calls.quiet_of_same ((clk_add_no (clk_same hC1.out (by rfl)) a y hn).mono fun _ _ h => ⟨h.1, h.2.symm⟩)) | (go_at_call 30; exact Calls.quiet_of_same ((rck_add_no a y hn).mono fun _ _ h => ⟨h.1, h.2.symm⟩)))
  go_wp2_with fail
  go_ret
  exact ⟨by apply ret_bool; simp, ⟨_, _, _, _, (clk_same hC1.out (by rfl)).mono (by omega), rck_same hR1.out (by rfl), hT1.out.any⟩, hBel.out.same (by rfl) (by rfl) (by rfl) (by rfl)⟩
set_option maxHeartbeats 4000000 in
set_option maxRecDepth 100000 in
theorem act_go_yes {w : World} {cc rc : Nat} {now : Int} {L : List Tk} {m : Nat} (h : Pair w cc rc now L m) (hm : m ≤ 999) (a y : Int) (h1 : now ≤ a) (h2 : a ≤ mx) :
    Calls Try.prog 24 #[.pointer (some ⟨cc, 0, none⟩), .pointer (some ⟨rc, 0, none⟩), actV 2 a y] w fun e w' => e = .returned (.bool true) ∧ (∃ now' L', Pair w' cc rc now' L' (m + 1)) ∧ Bel w w' cc rc := by
  unfold actV
  obtain ⟨o, ro, hC, hR, hT⟩ := h
  have hlen := hC.len
  have hc1 := hC.lt
  have hc2 := hR.lt
  have hoc := hC.own
  have hor := hR.own
  generalize hW1 : w.alloc (.cells #[.int .i64 2, .int .i64 a, .int .i64 y] 51) = w1
  have hB : Blk w1 w.heap.size 51 (0, 0) [.int .i64 2, .int .i64 a, .int .i64 y] := by rw [← hW1]; exact Blk.new w 51 (0, 0) #[.int .i64 2, .int .i64 a, .int .i64 y]
  have d0 : w1.cell? ⟨w.heap.size, 0, none⟩ = some (.int .i64 2) := by rw [hB.cell]; rfl
  have d1 : w1.cell? ⟨w.heap.size, 1, none⟩ = some (.int .i64 a) := by rw [hB.cell]; rfl
  have d2 : w1.cell? ⟨w.heap.size, 2, none⟩ = some (.int .i64 y) := by rw [hB.cell]; rfl
  have hbx : Below w.heap.size w w1 := by rw [← hW1]; exact (Below.refl _ w).alloc (Nat.le_refl _) _
  have hC1 : Hid (Clk w1 cc o now L m) := Lib.hid (hC.ext hbx hc1 fun j hj => (hoc j hj).2)
  have hR1 : Hid (Rck w1 rc ro now L) := Lib.hid (hR.keep (hbx.block rc hc2) fun k hk => hbx.block k (hor k hk).2)
  have hT1 : Hid (Two2 w1 cc rc o ro) := Lib.hid hT.any
  have hBel : Hid (Bel w w1 cc rc) := Lib.hid fun B h1 h2 => hbx.mono (by omega)
  have nc : w.heap.size ≠ cc := by omega
  have nr : w.heap.size ≠ rc := by omega
  have no : Hid (o ≠ some w.heap.size) := Lib.hid fun e => by have := (hoc _ e).2; omega
  have nro : Hid (ro ≠ some w.heap.size) := Lib.hid fun e => by have := (hor _ e).2; omega
  have hWW := Lib.hid hW1
  have hL2 : Hid (L.length ≤ 1000) := Lib.hid (by omega)
  clear hC hR hT hoc hor hB hbx hW1 hlen
  go_enter Try.func24, Try.ntmps24
  go_wp2_with fail
  rw [hWW.out]
  go_region_held3 (fun w' => w'.cell? ⟨w.heap.size, 1, none⟩ = some (.int .i64 a) ∧ w'.cell? ⟨w.heap.size, 2, none⟩ = some (.int .i64 y))
    (first | assumption | exact ⟨d1, d2⟩ | exact (fun h => ⟨h.1, h.2⟩) hs3 | exact (fun h => ⟨h.1, h.2⟩) hs4)
    (first | (go_at_call 23; refine (clk_go_yes (clk_same hC1.out (by rfl)) a h1 h2).mono ?_; rintro e w3 ⟨rfl, hCn, hTn⟩; have hs3 := And.intro (tn_c hTn d1 (by rfl) nc no.out) (tn_c hTn d2 (by rfl) nc no.out); have hC3 := Lib.hid hCn; have hR3 := Lib.hid (rck_o hTn hR1.out (by rfl) hT1.out); have hT3 : Hid (Two2 w3 cc rc o ro) := Lib.hid hT1.out.any; have hE3 := Lib.hid (bel_c hTn hBel.out hC1.out (by rfl) (by rfl) (by rfl) (by rfl))) | (go_at_call 32; refine (rck_go_yes (rck_same hR3.out (by rfl)) a h1 h2).mono ?_; rintro e w4 ⟨rfl, hRn, hTn2⟩; have hs4 := And.intro (tn_c hTn2 hs3.1 (by rfl) nr nro.out) (tn_c hTn2 hs3.2 (by rfl) nr nro.out); have hR4 := Lib.hid hRn; have hC4 := Lib.hid (clk_o hTn2 hC3.out (by rfl) hT3.out.swap); have hT4 : Hid (Two2 w4 cc rc o ro) := Lib.hid hT3.out.any; have hE4 := Lib.hid (bel_r hTn2 hE3.out hR3.out (by rfl) (by rfl) (by rfl) (by rfl))))
  go_wp2_with fail
  go_ret
  exact ⟨by apply ret_bool; simp, ⟨_, _, _, _, hC4.out.mono (by omega), hR4.out, hT4.out⟩, hE4.out⟩
set_option maxHeartbeats 4000000 in
set_option maxRecDepth 100000 in
theorem act_go_no {w : World} {cc rc : Nat} {now : Int} {L : List Tk} {m : Nat} (h : Pair w cc rc now L m) (hm : m ≤ 999) (a y : Int) (hn : a < now ∨ mx < a) :
    Calls Try.prog 24 #[.pointer (some ⟨cc, 0, none⟩), .pointer (some ⟨rc, 0, none⟩), actV 2 a y] w fun e w' => e = .returned (.bool true) ∧ (∃ now' L', Pair w' cc rc now' L' (m + 1)) ∧ Bel w w' cc rc := by
  unfold actV
  obtain ⟨o, ro, hC, hR, hT⟩ := h
  have hlen := hC.len
  have hc1 := hC.lt
  have hc2 := hR.lt
  have hoc := hC.own
  have hor := hR.own
  generalize hW1 : w.alloc (.cells #[.int .i64 2, .int .i64 a, .int .i64 y] 51) = w1
  have hB : Blk w1 w.heap.size 51 (0, 0) [.int .i64 2, .int .i64 a, .int .i64 y] := by rw [← hW1]; exact Blk.new w 51 (0, 0) #[.int .i64 2, .int .i64 a, .int .i64 y]
  have d0 : w1.cell? ⟨w.heap.size, 0, none⟩ = some (.int .i64 2) := by rw [hB.cell]; rfl
  have d1 : w1.cell? ⟨w.heap.size, 1, none⟩ = some (.int .i64 a) := by rw [hB.cell]; rfl
  have d2 : w1.cell? ⟨w.heap.size, 2, none⟩ = some (.int .i64 y) := by rw [hB.cell]; rfl
  have hbx : Below w.heap.size w w1 := by rw [← hW1]; exact (Below.refl _ w).alloc (Nat.le_refl _) _
  have hC1 : Hid (Clk w1 cc o now L m) := Lib.hid (hC.ext hbx hc1 fun j hj => (hoc j hj).2)
  have hR1 : Hid (Rck w1 rc ro now L) := Lib.hid (hR.keep (hbx.block rc hc2) fun k hk => hbx.block k (hor k hk).2)
  have hT1 : Hid (Two2 w1 cc rc o ro) := Lib.hid hT.any
  have hBel : Hid (Bel w w1 cc rc) := Lib.hid fun B h1 h2 => hbx.mono (by omega)
  have nc : w.heap.size ≠ cc := by omega
  have nr : w.heap.size ≠ rc := by omega
  have no : Hid (o ≠ some w.heap.size) := Lib.hid fun e => by have := (hoc _ e).2; omega
  have nro : Hid (ro ≠ some w.heap.size) := Lib.hid fun e => by have := (hor _ e).2; omega
  have hWW := Lib.hid hW1
  have hL2 : Hid (L.length ≤ 1000) := Lib.hid (by omega)
  clear hC hR hT hoc hor hB hbx hW1 hlen
  go_enter Try.func24, Try.ntmps24
  go_wp2_with fail
  rw [hWW.out]
  go_quiet (first | (go_at_call 23; exact Calls.quiet_of_same ((clk_go_no (clk_same hC1.out (by rfl)) a hn).mono fun _ _ h => ⟨h.1, h.2.symm⟩)) | (go_at_call 32; exact Calls.quiet_of_same ((rck_go_no (rck_same hR1.out (by rfl)) a hn).mono fun _ _ h => ⟨h.1, h.2.symm⟩)))
  go_wp2_with fail
  go_ret
  exact ⟨by apply ret_bool; simp, ⟨_, _, _, _, (clk_same hC1.out (by rfl)).mono (by omega), rck_same hR1.out (by rfl), hT1.out.any⟩, hBel.out.same (by rfl) (by rfl) (by rfl) (by rfl)⟩
set_option maxHeartbeats 4000000 in
set_option maxRecDepth 100000 in
theorem act_drop {w : World} {cc rc : Nat} {now : Int} {L : List Tk} {m : Nat} (h : Pair w cc rc now L m) (hm : m ≤ 999) (a y : Int) :
    Calls Try.prog 24 #[.pointer (some ⟨cc, 0, none⟩), .pointer (some ⟨rc, 0, none⟩), actV 3 a y] w fun e w' => e = .returned (.bool true) ∧ (∃ now' L', Pair w' cc rc now' L' (m + 1)) ∧ Bel w w' cc rc := by
  unfold actV
  obtain ⟨o, ro, hC, hR, hT⟩ := h
  have hlen := hC.len
  have hc1 := hC.lt
  have hc2 := hR.lt
  have hoc := hC.own
  have hor := hR.own
  generalize hW1 : w.alloc (.cells #[.int .i64 3, .int .i64 a, .int .i64 y] 51) = w1
  have hB : Blk w1 w.heap.size 51 (0, 0) [.int .i64 3, .int .i64 a, .int .i64 y] := by rw [← hW1]; exact Blk.new w 51 (0, 0) #[.int .i64 3, .int .i64 a, .int .i64 y]
  have d0 : w1.cell? ⟨w.heap.size, 0, none⟩ = some (.int .i64 3) := by rw [hB.cell]; rfl
  have d1 : w1.cell? ⟨w.heap.size, 1, none⟩ = some (.int .i64 a) := by rw [hB.cell]; rfl
  have d2 : w1.cell? ⟨w.heap.size, 2, none⟩ = some (.int .i64 y) := by rw [hB.cell]; rfl
  have hbx : Below w.heap.size w w1 := by rw [← hW1]; exact (Below.refl _ w).alloc (Nat.le_refl _) _
  have hC1 : Hid (Clk w1 cc o now L m) := Lib.hid (hC.ext hbx hc1 fun j hj => (hoc j hj).2)
  have hR1 : Hid (Rck w1 rc ro now L) := Lib.hid (hR.keep (hbx.block rc hc2) fun k hk => hbx.block k (hor k hk).2)
  have hT1 : Hid (Two2 w1 cc rc o ro) := Lib.hid hT.any
  have hBel : Hid (Bel w w1 cc rc) := Lib.hid fun B h1 h2 => hbx.mono (by omega)
  have nc : w.heap.size ≠ cc := by omega
  have nr : w.heap.size ≠ rc := by omega
  have no : Hid (o ≠ some w.heap.size) := Lib.hid fun e => by have := (hoc _ e).2; omega
  have nro : Hid (ro ≠ some w.heap.size) := Lib.hid fun e => by have := (hor _ e).2; omega
  have hWW := Lib.hid hW1
  have hL2 : Hid (L.length ≤ 1000) := Lib.hid (by omega)
  clear hC hR hT hoc hor hB hbx hW1 hlen
  go_enter Try.func24, Try.ntmps24
  go_wp2_with fail
  rw [hWW.out]
  go_region_held3 (fun w' => w'.cell? ⟨w.heap.size, 1, none⟩ = some (.int .i64 a) ∧ w'.cell? ⟨w.heap.size, 2, none⟩ = some (.int .i64 y))
    (first | assumption | exact ⟨d1, d2⟩ | exact (fun h => ⟨h.1, h.2⟩) hs3 | exact (fun h => ⟨h.1, h.2⟩) hs4)
    (first | (go_at_call 25; refine (clk_drop (clk_same hC1.out (by rfl)) y (by omega)).mono ?_; rintro e w3 ⟨rfl, o1, hCn, hTn, hNn⟩; have hs3 := And.intro (tn_c hTn d1 (by rfl) nc no.out) (tn_c hTn d2 (by rfl) nc no.out); have hC3 := Lib.hid hCn; have hR3 := Lib.hid (rck_o hTn hR1.out (by rfl) hT1.out); have hT3 : Hid (Two2 w3 cc rc o1 ro) := Lib.hid (two_l hNn hT1.out (by exact hR1.out.lt) (by exact fun j hj => (hR1.out.own j hj).2)); have hE3 := Lib.hid (bel_c hTn hBel.out hC1.out (by rfl) (by rfl) (by rfl) (by rfl))) | (go_at_call 33; refine (rck_drop (rck_same hR3.out (by rfl)) y hL2.out).mono ?_; rintro e w4 ⟨rfl, ro1, hRn, hTn2, hNn2⟩; have hs4 := And.intro (tn_c hTn2 hs3.1 (by rfl) nr nro.out) (tn_c hTn2 hs3.2 (by rfl) nr nro.out); have hR4 := Lib.hid hRn; have hC4 := Lib.hid (clk_o hTn2 hC3.out (by rfl) hT3.out.swap); have hT4 : Hid (Two2 w4 cc rc o1 ro1) := Lib.hid ((two_l (w' := w4) hNn2 hT3.out.swap (by exact hC3.out.lt) (by exact fun j hj => (hC3.out.own j hj).2)).swap); have hE4 := Lib.hid (bel_r hTn2 hE3.out hR3.out (by rfl) (by rfl) (by rfl) (by rfl))))
  go_wp2_with fail
  go_ret
  exact ⟨by apply ret_bool; simp, ⟨_, _, _, _, hC4.out.mono (by omega), hR4.out, hT4.out⟩, hE4.out⟩
set_option maxHeartbeats 4000000 in
set_option maxRecDepth 100000 in
theorem act_pop {w : World} {cc rc : Nat} {now : Int} {L : List Tk} {m : Nat} (h : Pair w cc rc now L m) (hm : m ≤ 999) (a y : Int) :
    Calls Try.prog 24 #[.pointer (some ⟨cc, 0, none⟩), .pointer (some ⟨rc, 0, none⟩), actV 1 a y] w fun e w' => e = .returned (.bool true) ∧ (∃ now' L', Pair w' cc rc now' L' (m + 1)) ∧ Bel w w' cc rc := by
  unfold actV
  obtain ⟨o, ro, hC, hR, hT⟩ := h
  have hlen := hC.len
  have hc1 := hC.lt
  have hc2 := hR.lt
  have hoc := hC.own
  have hor := hR.own
  generalize hW1 : w.alloc (.cells #[.int .i64 1, .int .i64 a, .int .i64 y] 51) = w1
  have hB : Blk w1 w.heap.size 51 (0, 0) [.int .i64 1, .int .i64 a, .int .i64 y] := by rw [← hW1]; exact Blk.new w 51 (0, 0) #[.int .i64 1, .int .i64 a, .int .i64 y]
  have d0 : w1.cell? ⟨w.heap.size, 0, none⟩ = some (.int .i64 1) := by rw [hB.cell]; rfl
  have d1 : w1.cell? ⟨w.heap.size, 1, none⟩ = some (.int .i64 a) := by rw [hB.cell]; rfl
  have d2 : w1.cell? ⟨w.heap.size, 2, none⟩ = some (.int .i64 y) := by rw [hB.cell]; rfl
  have hbx : Below w.heap.size w w1 := by rw [← hW1]; exact (Below.refl _ w).alloc (Nat.le_refl _) _
  have hC1 : Hid (Clk w1 cc o now L m) := Lib.hid (hC.ext hbx hc1 fun j hj => (hoc j hj).2)
  have hR1 : Hid (Rck w1 rc ro now L) := Lib.hid (hR.keep (hbx.block rc hc2) fun k hk => hbx.block k (hor k hk).2)
  have hT1 : Hid (Two2 w1 cc rc o ro) := Lib.hid hT.any
  have hBel : Hid (Bel w w1 cc rc) := Lib.hid fun B h1 h2 => hbx.mono (by omega)
  have nc : w.heap.size ≠ cc := by omega
  have nr : w.heap.size ≠ rc := by omega
  have no : Hid (o ≠ some w.heap.size) := Lib.hid fun e => by have := (hoc _ e).2; omega
  have nro : Hid (ro ≠ some w.heap.size) := Lib.hid fun e => by have := (hor _ e).2; omega
  have hWW := Lib.hid hW1
  have hL2 : Hid (L.length ≤ 1000) := Lib.hid (by omega)
  clear hC hR hT hoc hor hB hbx hW1 hlen
  go_enter Try.func24, Try.ntmps24
  go_wp2_with fail
  rw [hWW.out]
  refine (clk_pop hC1.out (by omega)).mono ?_
  rintro e w3 ⟨rfl, hCn, hTn⟩
  have hC3 := Lib.hid hCn
  have hR3 := Lib.hid (hR1.out.other hT1.out hTn)
  have hE3 := Lib.hid (hBel.out.tnc hC1.out hTn)
  clear hCn hTn
  generalize hp : popR now L = pr
  have hpp := Lib.hid hp
  clear hp
  obtain ⟨pa, pb⟩ := pr
  go_wp2_with fail
  refine (rck_pop hR3.out hL2.out).mono ?_
  rintro e w4 ⟨rfl, ro1, hRn, hTn2, hNn2⟩
  rw [hpp.out]
  have hC4 := Lib.hid (hC3.out.other hT1.out.any.swap hTn2)
  have hT4 : Hid (Two2 w4 cc rc o ro1) := Lib.hid (((hT1.out.any (w' := w3)).swap.left (w' := w4) hNn2 hC3.out.lt (fun j hj => (hC3.out.own j hj).2)).swap)
  have hE4 := Lib.hid (hE3.out.tnr hR3.out hTn2)
  have hR4 := Lib.hid hRn
  clear hRn hTn2 hNn2
  go_wp2_with fail
  go_ret
  exact ⟨by apply ret_bool; simp, ⟨_, _, _, _, hC4.out.mono (by omega), hR4.out, hT4.out⟩, hE4.out⟩
set_option maxHeartbeats 4000000 in
set_option maxRecDepth 100000 in
theorem act_next {w : World} {cc rc : Nat} {now : Int} {L : List Tk} {m : Nat} (h : Pair w cc rc now L m) (hm : m ≤ 999) (a y : Int) :
    Calls Try.prog 24 #[.pointer (some ⟨cc, 0, none⟩), .pointer (some ⟨rc, 0, none⟩), actV 4 a y] w fun e w' => e = .returned (.bool true) ∧ (∃ now' L', Pair w' cc rc now' L' (m + 1)) ∧ Bel w w' cc rc := by
  unfold actV
  obtain ⟨o, ro, hC, hR, hT⟩ := h
  have hlen := hC.len
  have hc1 := hC.lt
  have hc2 := hR.lt
  have hoc := hC.own
  have hor := hR.own
  generalize hW1 : w.alloc (.cells #[.int .i64 4, .int .i64 a, .int .i64 y] 51) = w1
  have hB : Blk w1 w.heap.size 51 (0, 0) [.int .i64 4, .int .i64 a, .int .i64 y] := by rw [← hW1]; exact Blk.new w 51 (0, 0) #[.int .i64 4, .int .i64 a, .int .i64 y]
  have d0 : w1.cell? ⟨w.heap.size, 0, none⟩ = some (.int .i64 4) := by rw [hB.cell]; rfl
  have d1 : w1.cell? ⟨w.heap.size, 1, none⟩ = some (.int .i64 a) := by rw [hB.cell]; rfl
  have d2 : w1.cell? ⟨w.heap.size, 2, none⟩ = some (.int .i64 y) := by rw [hB.cell]; rfl
  have hbx : Below w.heap.size w w1 := by rw [← hW1]; exact (Below.refl _ w).alloc (Nat.le_refl _) _
  have hC1 : Hid (Clk w1 cc o now L m) := Lib.hid (hC.ext hbx hc1 fun j hj => (hoc j hj).2)
  have hR1 : Hid (Rck w1 rc ro now L) := Lib.hid (hR.keep (hbx.block rc hc2) fun k hk => hbx.block k (hor k hk).2)
  have hT1 : Hid (Two2 w1 cc rc o ro) := Lib.hid hT.any
  have hBel : Hid (Bel w w1 cc rc) := Lib.hid fun B h1 h2 => hbx.mono (by omega)
  have nc : w.heap.size ≠ cc := by omega
  have nr : w.heap.size ≠ rc := by omega
  have no : Hid (o ≠ some w.heap.size) := Lib.hid fun e => by have := (hoc _ e).2; omega
  have nro : Hid (ro ≠ some w.heap.size) := Lib.hid fun e => by have := (hor _ e).2; omega
  have hWW := Lib.hid hW1
  have hL2 : Hid (L.length ≤ 1000) := Lib.hid (by omega)
  clear hC hR hT hoc hor hB hbx hW1 hlen
  go_enter Try.func24, Try.ntmps24
  go_wp2_with fail
  rw [hWW.out]
  refine (clk_next hC1.out).mono ?_
  rintro e w3 ⟨rfl, rfl⟩
  generalize hp : nxt L = pr
  have hpp := Lib.hid hp
  clear hp
  obtain ⟨pa, pb⟩ := pr
  go_wp2_with fail
  refine (rck_next hR1.out hL2.out).mono ?_
  rintro e w4 ⟨rfl, nd, rfl⟩
  rw [hpp.out]
  go_wp2_with fail
  go_ret
  exact ⟨by apply ret_bool; simp, ⟨_, _, _, _, (clk_same hC1.out (by rfl)).mono (by omega), hR1.out.drewN _, hT1.out.any⟩, hBel.out.same (by rfl) (by rfl) (by rfl) (by rfl)⟩
set_option maxHeartbeats 4000000 in
set_option maxRecDepth 100000 in
theorem act_other {w : World} {cc rc : Nat} {now : Int} {L : List Tk} {m : Nat} (h : Pair w cc rc now L m) (hm : m ≤ 999) (a y : Int) (k : Int) (h0 : k ≠ 0) (h1 : k ≠ 1) (h2 : k ≠ 2) (h3 : k ≠ 3) (h4 : k ≠ 4) :
    Calls Try.prog 24 #[.pointer (some ⟨cc, 0, none⟩), .pointer (some ⟨rc, 0, none⟩), actV k a y] w fun e w' => e = .returned (.bool true) ∧ (∃ now' L', Pair w' cc rc now' L' (m + 1)) ∧ Bel w w' cc rc := by
  unfold actV
  obtain ⟨o, ro, hC, hR, hT⟩ := h
  have hlen := hC.len
  have hc1 := hC.lt
  have hc2 := hR.lt
  have hoc := hC.own
  have hor := hR.own
  generalize hW1 : w.alloc (.cells #[.int .i64 k, .int .i64 a, .int .i64 y] 51) = w1
  have hB : Blk w1 w.heap.size 51 (0, 0) [.int .i64 k, .int .i64 a, .int .i64 y] := by rw [← hW1]; exact Blk.new w 51 (0, 0) #[.int .i64 k, .int .i64 a, .int .i64 y]
  have d0 : w1.cell? ⟨w.heap.size, 0, none⟩ = some (.int .i64 k) := by rw [hB.cell]; rfl
  have d1 : w1.cell? ⟨w.heap.size, 1, none⟩ = some (.int .i64 a) := by rw [hB.cell]; rfl
  have d2 : w1.cell? ⟨w.heap.size, 2, none⟩ = some (.int .i64 y) := by rw [hB.cell]; rfl
  have hbx : Below w.heap.size w w1 := by rw [← hW1]; exact (Below.refl _ w).alloc (Nat.le_refl _) _
  have hC1 : Hid (Clk w1 cc o now L m) := Lib.hid (hC.ext hbx hc1 fun j hj => (hoc j hj).2)
  have hR1 : Hid (Rck w1 rc ro now L) := Lib.hid (hR.keep (hbx.block rc hc2) fun k hk => hbx.block k (hor k hk).2)
  have hT1 : Hid (Two2 w1 cc rc o ro) := Lib.hid hT.any
  have hBel : Hid (Bel w w1 cc rc) := Lib.hid fun B h1 h2 => hbx.mono (by omega)
  have nc : w.heap.size ≠ cc := by omega
  have nr : w.heap.size ≠ rc := by omega
  have no : Hid (o ≠ some w.heap.size) := Lib.hid fun e => by have := (hoc _ e).2; omega
  have nro : Hid (ro ≠ some w.heap.size) := Lib.hid fun e => by have := (hor _ e).2; omega
  have hWW := Lib.hid hW1
  have hL2 : Hid (L.length ≤ 1000) := Lib.hid (by omega)
  clear hC hR hT hoc hor hB hbx hW1 hlen
  have e0 := beq_eq_false_iff_ne.2 h0
  have e1 := beq_eq_false_iff_ne.2 h1
  have e2 := beq_eq_false_iff_ne.2 h2
  have e3 := beq_eq_false_iff_ne.2 h3
  have e4 := beq_eq_false_iff_ne.2 h4
  go_enter Try.func24, Try.ntmps24
  go_wp2_with fail
  rw [hWW.out]
  go_ret
  exact ⟨rfl, ⟨_, _, _, _, hC1.out.mono (by omega), hR1.out, hT1.out⟩, hBel.out⟩
end Go.Proofs.Ytckimjmidbdalaa
