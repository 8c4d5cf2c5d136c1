/- Entries as they read; shown 17, literal 23, alone 31. -/
import Derived.Test.YtojdjhicjhhblaaDoorScL
import Derived.Test.YtojdjhicjhhblaaDoorScV
namespace Go.Proofs.YtojdjhicjhhblaaDoor
open Go Go.RowKit
theorem bel_drewN {B : Nat} {a w : World} (h : Below B a w) (n : Nat) : Below B a (w.drewN n) := ⟨h.os, h.tape, h.output, h.size, h.block⟩
structure RV where
  wa : Option Addr
  wn : Nat
  wc : Nat
  oa : Option Addr
  on : Nat
  oc : Nat
  eds : List ED
  m : Nat
/-- the slice (a, n, c) reads as these entries -/
def RdEn (w : World) (a : Option Addr) (n c : Nat) (L : List Ent) : Prop :=
  ∃ eds : List ED, Rd enE w a n c eds ∧ eds.length = L.length ∧ ∀ (j : Nat) (d : ED) (e : Ent), eds[j]? = some d → L[j]? = some e → d.line = e.line ∧ d.blank = e.blank ∧ Rd trE w d.wa d.wn d.wc e.words
theorem RdEn.ext {w w' : World} {a : Option Addr} {n c : Nat} {L : List Ent} (h : RdEn w a n c L) (hb : Below w.heap.size w w') : RdEn w' a n c L := by
  obtain ⟨eds, h1, h2, h3⟩ := h
  exact ⟨eds, h1.ext hb, h2, fun j d e hd he => ⟨(h3 j d e hd he).1, (h3 j d e hd he).2.1, (h3 j d e hd he).2.2.ext hb⟩⟩
theorem RdEn.len {w : World} {a : Option Addr} {n c : Nat} {L : List Ent} (h : RdEn w a n c L) : L.length = n := by
  obtain ⟨eds, h1, h2, h3⟩ := h
  have := h1.len
  omega
theorem RdEn.cap {w : World} {a : Option Addr} {n c : Nat} {L : List Ent} (h : RdEn w a n c L) : n ≤ c ∧ c ≤ maxLen := by
  obtain ⟨eds, h1, h2, h3⟩ := h
  exact ⟨h1.cap, h1.most⟩
theorem RdEn.at_ {w : World} {a : Option Addr} {n c : Nat} {L : List Ent} (h : RdEn w a n c L) {k : Nat} (hk : k < n) (e : Ent) (he : L[k]? = some e) :
    ∃ (b o : Nat) (wa : Option Addr) (wn wc : Nat), a = some ⟨b, o, none⟩ ∧ b < w.heap.size ∧ w.cell? ⟨b, o + k * 3, none⟩ = some (.int .i64 e.line) ∧ w.cell? ⟨b, o + k * 3 + 1, none⟩ = some (.bool e.blank) ∧ w.cell? ⟨b, o + k * 3 + 2, none⟩ = some (.slice wa wn wc) ∧ Rd trE w wa wn wc e.words := by
  obtain ⟨eds, h1, h2, h3⟩ := h
  have hl := h1.len
  obtain ⟨b, o, e1, hlt, hc⟩ := h1.addr (by omega)
  have hkl : k < eds.length := by omega
  obtain ⟨e2, e3, e4⟩ := h3 k eds[k] e (List.getElem?_eq_getElem hkl) he
  exact ⟨b, o, eds[k].wa, eds[k].wn, eds[k].wc, e1, hlt, by rw [← e2]; exact hc k hkl 0 (by decide), by rw [← e3]; exact hc k hkl 1 (by decide), hc k hkl 2 (by decide), e4⟩
/-- a word -/
theorem rd_tr {w : World} {a : Option Addr} {n c : Nat} {l : List Trm} (h : Rd trE w a n c l) {k : Nat} (hk : k < n) (x : Trm) (hx : l[k]? = some x) :
    ∃ b o : Nat, a = some ⟨b, o, none⟩ ∧ b < w.heap.size ∧ w.cell? ⟨b, o + k * 2, none⟩ = some (.string (mk x.1)) ∧ w.cell? ⟨b, o + k * 2 + 1, none⟩ = some (.bool x.2) := by
  have hl := h.len
  obtain ⟨b, o, e1, hlt, hc⟩ := h.addr (by omega)
  have hkl : k < l.length := by omega
  rw [List.getElem?_eq_getElem hkl] at hx
  have hx2 := Option.some.inj hx
  exact ⟨b, o, e1, hlt, by rw [← hx2]; exact hc k hkl 0 (by decide), by rw [← hx2]; exact hc k hkl 1 (by decide)⟩
/-- what Entries told, as it reads -/
theorem ents_rd {w : World} {b m : Nat} {oa : Option Addr} {on oc : Nat} {eds : List ED} {L : List Ent} (ho : Own enE w b (.slice oa on oc) eds) (he : Ents w b m eds L) : RdEn w oa on oc L := by
  refine ⟨eds, (own_rd_at ho).1, he.1, fun j d e hd hl => ?_⟩
  obtain ⟨h1, h2, h3, _⟩ := he.2 j d e hd hl
  exact ⟨h1, h2, (own_rd_at h3).1⟩
set_option maxHeartbeats 8000000 in
set_option maxRecDepth 100000 in
theorem shown_any (w : World) (t : List UInt8) (qd : Bool) (ht : t.length ≤ 70000) : Calls Tryd.prog 15 #[.agg #[.string (mk t), .bool qd]] w fun e w' => e = .returned (.string (mk (shownL (t, qd)))) ∧ Below w.heap.size w w' := by
  have htI : (t.length : Int) ≤ 70000 := by omega
  cases qd with
  | true =>
    have hE : Hid (mk (shownL (t, true)) = mk ([34] ++ t ++ [34])) := Lib.hid (by show mk (34 :: (t ++ [34])) = _; simp)
    go_enter Tryd.func15, Tryd.ntmps15
    go_wp2_with fail
    go_ret
    exact ⟨by rw [hE.out]; rfl, alloc_bel _ _⟩
  | false =>
    have hE : Hid (mk (shownL (t, false)) = mk t) := Lib.hid rfl
    go_enter Tryd.func15, Tryd.ntmps15
    go_wp2_with fail
    go_ret
    exact ⟨by rw [hE.out]; rfl, alloc_bel _ _⟩
end Go.Proofs.YtojdjhicjhhblaaDoor
