/- Known servers in memory; the closures 37 and 45; slices.IndexFunc 36. -/
import Derived.Test.YtjkeijjfjbcaiaaProg
import Derived.Test.YtjkeijjfjbcaiaaStH
import Derived.Test.YtjkeijjfjbcaiaaPkLaw
import Derived.Test.YtjkeijjfjbcaiaaCut
import Derived.Deep.RegionWith
import Derived.Deep.RegionHeld3
import Derived.Laws.MakeOwn
import Derived.Lib.SliceRun
namespace Go.Proofs.Ytjkeijjfjbcaiaa
open Go.RowKit
def knE : Enc Kn := ⟨34, 4, fun k => [.int .u32 k.a, .int .i64 k.t, .int .i64 k.f, .int .i64 k.g], ⟨0, 0, 0, 0⟩, fun _ => rfl, fun x v hv => by simp at hv; rcases hv with rfl | rfl | rfl | rfl <;> rfl, by decide⟩
def knV (k : Kn) : Value := .agg #[.int .u32 k.a, .int .i64 k.t, .int .i64 k.f, .int .i64 k.g]
theorem rd_kn {w : World} {a : Option Addr} {n c : Nat} {l : List Kn} (h : Rd knE w a n c l) (h0 : 0 < n) : ∃ b o, a = some ⟨b, o, none⟩ ∧ b < w.heap.size ∧ ∀ j (hj : j < l.length), w.cell? ⟨b, o + j * 4, none⟩ = some (.int .u32 l[j].a) ∧ w.cell? ⟨b, o + j * 4 + 1, none⟩ = some (.int .i64 l[j].t) ∧ w.cell? ⟨b, o + j * 4 + 2, none⟩ = some (.int .i64 l[j].f) ∧ w.cell? ⟨b, o + j * 4 + 3, none⟩ = some (.int .i64 l[j].g) := by
  obtain ⟨b, o, h1, h3, h2⟩ := h.addr h0
  refine ⟨b, o, h1, h3, fun j hj => ⟨?_, ?_, ?_, ?_⟩⟩
  · simpa [knE] using h2 j hj 0 (by decide)
  · simpa [knE, Nat.add_assoc] using h2 j hj 1 (by decide)
  · simpa [knE, Nat.add_assoc] using h2 j hj 2 (by decide)
  · simpa [knE, Nat.add_assoc] using h2 j hj 3 (by decide)
theorem blk_kn {w : World} {g : Nat} {fz : Nat × Nat} {C : List Kn} (h : Blk w g 34 fz (rowOf knE C)) (j : Nat) (hj : j < C.length) : w.cell? ⟨g, j * 4, none⟩ = some (.int .u32 C[j].a) ∧ w.cell? ⟨g, j * 4 + 1, none⟩ = some (.int .i64 C[j].t) ∧ w.cell? ⟨g, j * 4 + 2, none⟩ = some (.int .i64 C[j].f) ∧ w.cell? ⟨g, j * 4 + 3, none⟩ = some (.int .i64 C[j].g) := by
  refine ⟨?_, ?_, ?_, ?_⟩ <;> rw [h.cell]
  · exact rowOf_get knE C j 0 hj (by decide)
  · exact rowOf_get knE C j 1 hj (by decide)
  · exact rowOf_get knE C j 2 hj (by decide)
  · exact rowOf_get knE C j 3 hj (by decide)
theorem set4 (x : Kn) : ∀ (C : List Kn) (j : Nat), j < C.length → ((((rowOf knE C).set (j * 4) (.int .u32 x.a)).set (j * 4 + 1) (.int .i64 x.t)).set (j * 4 + 2) (.int .i64 x.f)).set (j * 4 + 3) (.int .i64 x.g) = rowOf knE (C.set j x)
  | [], j, h => by simp at h
  | y :: r, 0, _ => rfl
  | y :: r, j + 1, h => by
    have ih := set4 x r j (by simpa using h)
    have e : rowOf knE (y :: r) = .int .u32 y.a :: .int .i64 y.t :: .int .i64 y.f :: .int .i64 y.g :: rowOf knE r := rfl
    have e2 : rowOf knE ((y :: r).set (j + 1) x) = .int .u32 y.a :: .int .i64 y.t :: .int .i64 y.f :: .int .i64 y.g :: rowOf knE (r.set j x) := rfl
    rw [e, e2, ← ih, show (j + 1) * 4 = j * 4 + 4 by omega]
    simp only [List.set_cons_succ, show j * 4 + 4 + 1 = j * 4 + 1 + 4 by omega, show j * 4 + 4 + 2 = j * 4 + 2 + 4 by omega, show j * 4 + 4 + 3 = j * 4 + 3 + 4 by omega]
theorem blk_set4 {w : World} {g : Nat} {fz : Nat × Nat} {C : List Kn} (h : Blk w g 34 fz (rowOf knE C)) (j : Nat) (hj : j < C.length) (x : Kn) :
    Blk ((((w.setCell ⟨g, j * 4, none⟩ (.int .u32 x.a)).setCell ⟨g, j * 4 + 1, none⟩ (.int .i64 x.t)).setCell ⟨g, j * 4 + 2, none⟩ (.int .i64 x.f)).setCell ⟨g, j * 4 + 3, none⟩ (.int .i64 x.g)) g 34 fz (rowOf knE (C.set j x)) := by
  have := (((h.set (j * 4) (.int .u32 x.a)).set (j * 4 + 1) (.int .i64 x.t)).set (j * 4 + 2) (.int .i64 x.f)).set (j * 4 + 3) (.int .i64 x.g)
  rwa [set4 x C j hj] at this
theorem grown_set1 (w : World) (g : Nat) (j : Nat) (v : Value) : w.grownBy (w.setCell ⟨g, j, none⟩ v) (some g) :=
  ⟨rfl, rfl, rfl, by simp [World.setCell], fun k _ hk => Below.heap_setCell _ _ _ _ (fun e => hk (by rw [e]))⟩
theorem grown_tr {u v w : World} {row : Option Nat} (h : u.grownBy v row) (k : v.grownBy w row) : u.grownBy w row :=
  ⟨k.os.trans h.os, k.tape.trans h.tape, k.output.trans h.output, Nat.le_trans h.size k.size, fun b hb hn => (k.block b (Nat.lt_of_lt_of_le hb h.size) hn).trans (h.block b hb hn)⟩
theorem grown_below {u v : World} {row : Option Nat} (h : Below u.heap.size u v) : u.grownBy v row := ⟨h.os, h.tape, h.output, h.size, fun b hb _ => h.block b hb⟩
theorem grown_refl (u : World) (row : Option Nat) : u.grownBy u row := ⟨rfl, rfl, rfl, Nat.le_refl _, fun _ _ _ => rfl⟩
theorem grown_set4 (w : World) (g j : Nat) (x y z u : Value) : w.grownBy ((((w.setCell ⟨g, j, none⟩ x).setCell ⟨g, j + 1, none⟩ y).setCell ⟨g, j + 2, none⟩ z).setCell ⟨g, j + 3, none⟩ u) (some g) :=
  grown_tr (grown_tr (grown_tr (grown_set1 _ _ _ _) (grown_set1 _ _ _ _)) (grown_set1 _ _ _ _)) (grown_set1 _ _ _ _)
/-- place i is the first one of the server, -1 if there is none -/
def Idx (L : List Kn) (y i : Int) : Prop := (i = -1 ∧ ofK L y = none) ∨ ∃ (k : Nat) (h : k < L.length), i = k ∧ L[k].a = y ∧ ofK L y = some L[k] ∧ ∀ j, (hj : j < k) → L[j].a ≠ y
theorem idx_none {L : List Kn} {y : Int} (h : ∀ j, (hj : j < L.length) → L[j].a ≠ y) : Idx L y (-1) := by
  refine .inl ⟨rfl, ?_⟩
  unfold ofK
  rw [List.find?_eq_none]
  intro x hx
  obtain ⟨j, hj, rfl⟩ := List.getElem_of_mem hx
  simpa using h j hj
theorem idx_some {L : List Kn} {y : Int} (k : Nat) (hk : k < L.length) (hy : L[k].a = y) (h : ∀ j, (hj : j < k) → L[j].a ≠ y) : Idx L y k := by
  refine .inr ⟨k, hk, rfl, hy, ?_, h⟩
  unfold ofK
  rw [List.find?_eq_some_iff_append]
  refine ⟨by simpa using hy, L.take k, L.drop (k + 1), ?_, ?_⟩
  · rw [← List.drop_eq_getElem_cons hk, List.take_append_drop]
  · intro x hx
    obtain ⟨j, hj, rfl⟩ := List.getElem_of_mem hx
    rw [List.getElem_take]
    simpa using h j (by simp at hj; omega)
theorem same_37 {w : World} {q : Nat} {y : Int} (x : Kn) (hq : w.cell? ⟨q, 0, none⟩ = some (.int .u32 y)) : Calls Try.prog 37 #[knV x, .pointer (some ⟨q, 0, none⟩)] w fun e w' => e = .returned (.bool (decide (x.a = y))) ∧ Below w.heap.size w w' := by
  rw [show decide (x.a = y) = (x.a == y) from by by_cases h : x.a = y <;> simp [h]]
  unfold knV
  obtain ⟨xa, xt, xf, xg⟩ := x
  dsimp only
  have hlt := World.block_lt_of_cell? w _ hq
  go_enter Try.func37, Try.ntmps37
  go_wp2_with fail
  go_ret
  exact ⟨rfl, (Below.refl _ _).alloc (Nat.le_refl _) _⟩
set_option maxHeartbeats 4000000 in
set_option maxRecDepth 100000 in
theorem idx_37 {w : World} {a : Option Addr} {n c : Nat} {L : List Kn} (h : Rd knE w a n c L) (hn : n ≤ 1000000) {q : Nat} {y : Int} (hq : w.cell? ⟨q, 0, none⟩ = some (.int .u32 y)) :
    Calls Try.prog 36 #[.slice a n c, .func (.func 37) #[] #[.pointer (some ⟨q, 0, none⟩)]] w fun e w' => (∃ i, e = .returned (.int .i64 i) ∧ Idx L y i) ∧ Below w.heap.size w w' := by
  have hl := h.len
  have hH := Lib.hid h
  have hq' := Lib.hid hq
  clear h hq
  go_enter Try.func36, Try.ntmps36
  go_wp2_with fail
  go_loopw [8] (fun i wr => ∃ k : Nat, k ≤ n ∧ i = .int .i64 k ∧ Below w.heap.size w wr ∧ Hid (∀ j, (hj : j < L.length) → j < k → L[j].a ≠ y)) (fun i _ => n - (intOf i).toNat)
  case atStart => exact ⟨0, Nat.zero_le _, rfl, Below.refl _ _, Lib.hid (fun j _ hj => absurd hj (Nat.not_lt_zero _))⟩
  case round =>
    obtain ⟨k, hk, rfl, hb, hno⟩ := hrel
    by_cases hlt : k < n
    · have hkI : (k : Int) < n := by omega
      obtain ⟨b, o, rfl, hbs, hc⟩ := rd_kn (hH.out.ext hb) (by omega)
      obtain ⟨hc0, hc1, hc2, hc3⟩ := hc k (by omega)
      clear hc
      have hqr : wr.cell? ⟨q, 0, none⟩ = some (.int .u32 y) := (World.cell?_of_block (w := w) (hb.block q (World.block_lt_of_cell? w _ hq'.out))).trans hq'.out
      have hqr' := Lib.hid hqr
      have hb' := Lib.hid hb
      clear hqr
      have hks : k < L.length := by omega
      obtain ⟨x, hx⟩ : ∃ x, Hid (L[k] = x) := ⟨_, Lib.hid rfl⟩
      rw [hx.out] at hc0 hc1 hc2 hc3
      go_wp2_with fail
      refine (same_37 x hqr'.out).mono ?_
      rintro e w1 ⟨rfl, hb1⟩
      by_cases hxy : x.a = y
      · rw [decide_eq_true hxy]
        have hxy' := Lib.hid hxy
        clear hxy
        go_wp2_with fail
        go_ret
        refine ⟨⟨_, rfl, idx_some k hks (by rw [hx.out]; exact hxy'.out) (fun j hj => hno.out j (by omega) hj)⟩, hb'.out.trans (hb1.mono hb'.out.size)⟩
      · rw [decide_eq_false hxy]
        have hxy' := Lib.hid hxy
        clear hxy
        go_wp2_with fail
        go_roundw
        case rel =>
          refine ⟨k + 1, by omega, by go_num, hb'.out.trans (hb1.mono hb'.out.size), Lib.hid (fun j hj hjk => ?_)⟩
          by_cases hjk' : j < k
          · exact hno.out j hj hjk'
          · have : j = k := by omega
            subst this
            rw [hx.out]; exact hxy'.out
        case measure => simp [intOf]; omega
    · have hk' : k = n := by omega
      subst hk'
      go_wp2_with fail
      go_ret
      exact ⟨⟨_, rfl, idx_none fun j hj => hno.out j hj (by omega)⟩, hb⟩
theorem same_45 {w : World} {q : Nat} {y : Int} (x : Kn) (hq : w.cell? ⟨q, 0, none⟩ = some (.int .u32 y)) : Calls Try.prog 45 #[knV x, .pointer (some ⟨q, 0, none⟩)] w fun e w' => e = .returned (.bool (decide (x.a = y))) ∧ Below w.heap.size w w' := by
  rw [show decide (x.a = y) = (x.a == y) from by by_cases h : x.a = y <;> simp [h]]
  unfold knV
  obtain ⟨xa, xt, xf, xg⟩ := x
  dsimp only
  have hlt := World.block_lt_of_cell? w _ hq
  go_enter Try.func45, Try.ntmps45
  go_wp2_with fail
  go_ret
  exact ⟨rfl, (Below.refl _ _).alloc (Nat.le_refl _) _⟩
set_option maxHeartbeats 4000000 in
set_option maxRecDepth 100000 in
theorem idx_45 {w : World} {a : Option Addr} {n c : Nat} {L : List Kn} (h : Rd knE w a n c L) (hn : n ≤ 1000000) {q : Nat} {y : Int} (hq : w.cell? ⟨q, 0, none⟩ = some (.int .u32 y)) :
    Calls Try.prog 36 #[.slice a n c, .func (.func 45) #[] #[.pointer (some ⟨q, 0, none⟩)]] w fun e w' => (∃ i, e = .returned (.int .i64 i) ∧ Idx L y i) ∧ Below w.heap.size w w' := by
  have hl := h.len
  have hH := Lib.hid h
  have hq' := Lib.hid hq
  clear h hq
  go_enter Try.func36, Try.ntmps36
  go_wp2_with fail
  go_loopw [8] (fun i wr => ∃ k : Nat, k ≤ n ∧ i = .int .i64 k ∧ Below w.heap.size w wr ∧ Hid (∀ j, (hj : j < L.length) → j < k → L[j].a ≠ y)) (fun i _ => n - (intOf i).toNat)
  case atStart => exact ⟨0, Nat.zero_le _, rfl, Below.refl _ _, Lib.hid (fun j _ hj => absurd hj (Nat.not_lt_zero _))⟩
  case round =>
    obtain ⟨k, hk, rfl, hb, hno⟩ := hrel
    by_cases hlt : k < n
    · have hkI : (k : Int) < n := by omega
      obtain ⟨b, o, rfl, hbs, hc⟩ := rd_kn (hH.out.ext hb) (by omega)
      obtain ⟨hc0, hc1, hc2, hc3⟩ := hc k (by omega)
      clear hc
      have hqr : wr.cell? ⟨q, 0, none⟩ = some (.int .u32 y) := (World.cell?_of_block (w := w) (hb.block q (World.block_lt_of_cell? w _ hq'.out))).trans hq'.out
      have hqr' := Lib.hid hqr
      have hb' := Lib.hid hb
      clear hqr
      have hks : k < L.length := by omega
      obtain ⟨x, hx⟩ : ∃ x, Hid (L[k] = x) := ⟨_, Lib.hid rfl⟩
      rw [hx.out] at hc0 hc1 hc2 hc3
      go_wp2_with fail
      refine (same_45 x hqr'.out).mono ?_
      rintro e w1 ⟨rfl, hb1⟩
      by_cases hxy : x.a = y
      · rw [decide_eq_true hxy]
        have hxy' := Lib.hid hxy
        clear hxy
        go_wp2_with fail
        go_ret
        refine ⟨⟨_, rfl, idx_some k hks (by rw [hx.out]; exact hxy'.out) (fun j hj => hno.out j (by omega) hj)⟩, hb'.out.trans (hb1.mono hb'.out.size)⟩
      · rw [decide_eq_false hxy]
        have hxy' := Lib.hid hxy
        clear hxy
        go_wp2_with fail
        go_roundw
        case rel =>
          refine ⟨k + 1, by omega, by go_num, hb'.out.trans (hb1.mono hb'.out.size), Lib.hid (fun j hj hjk => ?_)⟩
          by_cases hjk' : j < k
          · exact hno.out j hj hjk'
          · have : j = k := by omega
            subst this
            rw [hx.out]; exact hxy'.out
        case measure => simp [intOf]; omega
    · have hk' : k = n := by omega
      subst hk'
      go_wp2_with fail
      go_ret
      exact ⟨⟨_, rfl, idx_none fun j hj => hno.out j hj (by omega)⟩, hb⟩
end Go.Proofs.Ytjkeijjfjbcaiaa
