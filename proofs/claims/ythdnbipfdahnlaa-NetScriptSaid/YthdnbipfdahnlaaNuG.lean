/- The law's act, any kind; openers: acts; a fate of an own list is written over. -/
import Derived.Test.YthdnbipfdahnlaaNuF
import Derived.Test.YthdnbipfdahnlaaOpenK
namespace Go.Proofs.Ythdnbipfdahnlaa
open Go Go.RowKit
/-- an act as it lies -/
structure AD where
  k : Int
  p : PD
  y : Int
def acC (k : Int) (h : Hd) (d : Value) (y : Int) : List Value := .int .i64 k :: (pkC h d ++ [.int .i64 y])
def acE : Enc AD := ⟨54, 8, fun q => acC q.k q.p.h (.slice q.p.da q.p.dn q.p.dc) q.y, ⟨0, ⟨⟨0, 0, 0, 0, false⟩, none, 0, 0⟩, 0⟩, fun _ => rfl, fun x v hv => by simp [acC, pkC] at hv; rcases hv with rfl | rfl | rfl | rfl | rfl | rfl | rfl | rfl <;> rfl, by decide⟩
/-- acts as they read -/
def RdA (w : World) (a : Option Addr) (n c : Nat) (R : List AD) : Prop := Rd acE w a n c R ∧ ∀ q ∈ R, ∃ l, Rd byteE w q.p.da q.p.dn q.p.dc l ∧ q.p.dn ≤ 140737488351232
theorem RdA.ext {w w' : World} {a : Option Addr} {n c : Nat} {R : List AD} (h : RdA w a n c R) (hb : Below w.heap.size w w') : RdA w' a n c R := ⟨h.1.ext hb, fun q hq => by
  obtain ⟨l, h1, h2⟩ := h.2 q hq
  exact ⟨l, h1.ext hb, h2⟩⟩
theorem act_any {w : World} {n B : Nat} {S : Nat → Prop} {s : NS} {r : Nat} {L : List Fl} {N : Nat} (hB : Bth w n B S s r L N) (hN : N ≤ 900) (kd y : Int) (h : Hd) {da : Option Addr} {dn dc : Nat} {d : List UInt8} (hp : Rd byteE w da dn dc d) (hn : dn ≤ 140737488351232) (hap : ∀ b o s, 0 < dn → da = some ⟨b, o, s⟩ → ¬ S b ∧ b ≠ r) :
    Calls Try.prog 19 #[.pointer (some ⟨n, 0, none⟩), .pointer (some ⟨r, 0, none⟩), .agg (acC kd h (.slice da dn dc) y).toArray] w fun e w' => e = .returned (.bool true) ∧ ActB w n B r N w' := by
  by_cases h0 : kd = 0
  · subst h0; exact act_any0 hB hN y h hp hn hap
  by_cases h1 : kd = 1
  · subst h1; exact act_any1 hB hN y h hp hn hap
  by_cases h2 : kd = 2
  · subst h2; exact act_any2 hB hN y h hp hn hap
  by_cases h3 : kd = 3
  · subst h3; exact act_any3 hB hN y h hp hn hap
  exact act_any4 hB hN kd y h hp hn hap h0 h1 h2 h3
theorem row_set3 (X : List Fate) (q : Nat) (x : Fate) (hq : q < X.length) : rowOf fateE (X.set q x) = (((rowOf fateE X).set (q * 3) (.int .i64 x.1)).set (q * 3 + 1) (.int .i64 x.2.1)).set (q * 3 + 2) (.int .i64 x.2.2) := by
  induction X generalizing q with
  | nil => simp at hq
  | cons a r ih =>
    cases q with
    | zero => rfl
    | succ q =>
      have hq' : q < r.length := by simpa using hq
      have e := ih q hq'
      rw [List.set_cons_succ]
      have e1 : ∀ (z : Fate) (l : List Fate), rowOf fateE (z :: l) = .int .i64 z.1 :: .int .i64 z.2.1 :: .int .i64 z.2.2 :: rowOf fateE l := fun z l => rfl
      rw [e1, e1, e, show (q + 1) * 3 = q * 3 + 1 + 1 + 1 by omega, show q * 3 + 1 + 1 + 1 + 1 = (q * 3 + 1) + 1 + 1 + 1 by omega, show q * 3 + 1 + 1 + 1 + 2 = (q * 3 + 2) + 1 + 1 + 1 by omega]
      simp only [List.set_cons_succ]
/-- one fate of an own list is written over -/
theorem own_fate {w : World} {base : Nat} {a : Option Addr} {n c : Nat} {l : List Fate} (ho : Own fateE w base (.slice a n c) l) {q : Nat} (hq : q < n) (x : Fate) : ∃ g, a = some ⟨g, 0, none⟩ ∧ base ≤ g ∧ g < w.heap.size ∧ (∀ j, j < 3 → (∃ v, w.cell? ⟨g, q * 3 + j, none⟩ = some v) ∧ w.frozen? ⟨g, q * 3 + j, none⟩ = false) ∧
    Own fateE (((w.setCell ⟨g, q * 3, none⟩ (.int .i64 x.1)).setCell ⟨g, q * 3 + 1, none⟩ (.int .i64 x.2.1)).setCell ⟨g, q * 3 + 2, none⟩ (.int .i64 x.2.2)) base (.slice a n c) (l.set q x) := by
  have hln := (own_rd_at ho).2
  rcases ho with ⟨e, _⟩ | ⟨g, cap, X, e, h1, h2, h3, h4, h5, h6⟩
  · cases e; omega
  · injection e with e1 e2 e3
    subst e1 e3
    have hX : q < X.length := by omega
    have hrl : (rowOf fateE X).length = X.length * 3 := rowOf_length fateE X
    refine ⟨g, rfl, h1, h2.lt, fun j hj => ⟨⟨_, (h2.cell (q * 3 + j)).trans (List.getElem?_eq_getElem (by rw [hrl]; omega))⟩, by rw [h2.frozen]; simp⟩, .inr ⟨g, c, X.set q x, by rw [List.length_set, hln], h1, ?_, by rw [List.length_set]; exact h3, by rw [List.length_set]; exact h4, h5, ?_⟩⟩
    · rw [row_set3 X q x hX]
      exact ((h2.set (q * 3) _).set (q * 3 + 1) _).set (q * 3 + 2) _
    · rw [List.length_set, List.take_set, h6]
open Go.ChangeShapes Go.WideShapes Go.Deep
variable {H : Type} {enc : TypeId × Value → H} {w : World}
set_option maxRecDepth 100000 in
theorem pk_cs2 {fuel : Nat} {cs : List Value} {x : DataW H × List MemPlace} (hf : DataW.trod enc Try.prog w 0 (fun _ => true) true fuel 32 cs = some x) (hz : Sz Try.prog 32 x.1) (hl : cs.length = 6) : ∃ (h : Hd) (a : Option Addr) (n c : Nat) (l : List UInt8), cs = pkC h (.slice a n c) ∧ Rd byteE w a n c l ∧ n ≤ 140737488351232 := by
  obtain ⟨m, _, hg⟩ := open_parts (L := [(28, 0, 1), (29, 1, 1), (28, 2, 1), (29, 3, 1), (4, 4, 1), (30, 5, 1)]) (by kernel_rfl) hf hz
  match cs, hl with
  | [c0, c1, c2, c3, c4, c5], _ =>
    obtain ⟨y0, g0, _⟩ := hg 0 _ rfl
    obtain ⟨y1, g1, _⟩ := hg 1 _ rfl
    obtain ⟨y2, g2, _⟩ := hg 2 _ rfl
    obtain ⟨y3, g3, _⟩ := hg 3 _ rfl
    obtain ⟨y4, g4, _⟩ := hg 4 _ rfl
    obtain ⟨y5, g5, z5⟩ := hg 5 _ rfl
    obtain ⟨u0, e0, _⟩ := DataW.trod_int (by kernel_rfl : Try.prog.underlying 28 = some (.int .u32)) g0
    obtain ⟨u1, e1, _⟩ := DataW.trod_int (by kernel_rfl : Try.prog.underlying 29 = some (.int .u16)) g1
    obtain ⟨u2, e2, _⟩ := DataW.trod_int (by kernel_rfl : Try.prog.underlying 28 = some (.int .u32)) g2
    obtain ⟨u3, e3, _⟩ := DataW.trod_int (by kernel_rfl : Try.prog.underlying 29 = some (.int .u16)) g3
    obtain ⟨u4, e4, _⟩ := DataW.trod_bool Try.underlying4 g4
    obtain ⟨a, n, c, l, e5, h5, hc⟩ := in_bytes (t := 30) (by kernel_rfl) Try.underlying5 (by kernel_rfl) (by kernel_rfl) (v := c5) (by simpa using g5) z5
    simp at e0 e1 e2 e3 e4
    subst e0 e1 e2 e3 e4 e5
    have h6 := h5.cap
    exact ⟨⟨u0, u1, u2, u3, u4⟩, a, n, c, l, rfl, h5, by unfold reachBytes at hc; omega⟩
set_option maxRecDepth 100000 in
theorem in_acts {fuel : Nat} {v : Value} {y : DataW H × List MemPlace} (hf : DataW.trod enc Try.prog w 0 (fun _ => true) true fuel 52 [v] = some y) (hz : Sz Try.prog 52 y.1) : ∃ a n c R, v = .slice a n c ∧ RdA w a n c R ∧ n ≤ 100000000000000 := by
  obtain ⟨a, n, c, R, h1, h2, h3, h4⟩ := open_elems (E := acE) (G := fun q => ∃ l, Rd byteE w q.p.da q.p.dn q.p.dc l ∧ q.p.dn ≤ 140737488351232) (t := 52) (by kernel_rfl) (by kernel_rfl) (fun n cs x hx hz hl => by
    obtain ⟨m, _, hg⟩ := open_parts (L := [(3, 0, 1), (32, 1, 6), (3, 7, 1)]) (by kernel_rfl) hx hz
    match cs, hl with
    | [c0, c1, c2, c3, c4, c5, c6, c7], _ =>
      obtain ⟨y0, g0, _⟩ := hg 0 _ rfl
      obtain ⟨y1, g1, z1⟩ := hg 1 _ rfl
      obtain ⟨y2, g2, _⟩ := hg 2 _ rfl
      obtain ⟨u0, e0, _⟩ := DataW.trod_int Try.underlying3 g0
      obtain ⟨u2, e2, _⟩ := DataW.trod_int Try.underlying3 g2
      obtain ⟨h, a, n, c, l, e1, h5, h6⟩ := pk_cs2 (by simpa using g1) z1 rfl
      simp at e0 e2
      unfold pkC at e1
      simp only [List.cons.injEq, and_true] at e1
      obtain ⟨rfl, rfl, rfl, rfl, rfl, rfl⟩ := e1
      subst e0 e2
      exact ⟨⟨u0, ⟨h, a, n, c⟩, u2⟩, rfl, l, h5, h6⟩) hf hz
  have e : Try.prog.bytesOf acE.e = 56 := by kernel_rfl
  rw [e] at h4
  have h5 := h2.cap
  exact ⟨a, n, c, R, h1, ⟨h2, h3⟩, by unfold reachBytes at h4; omega⟩
end Go.Proofs.Ythdnbipfdahnlaa
