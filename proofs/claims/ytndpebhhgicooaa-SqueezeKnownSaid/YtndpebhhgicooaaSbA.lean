/- Lists of names that came in, lists of the call's own; a name that is refused; the chain of what was written. -/
import Derived.Test.YtndpebhhgicooaaAwkE
import Derived.Test.YtndpebhhgicooaaOpenB
import Derived.Deep.Slices
import Derived.Deep.Matrix
import Derived.ChangeSame
namespace Go.Proofs.Ytndpebhhgicooaa
open Go Go.RowKit Go.Maps Go.ChangeShapes Go.WideShapes
/-- names as elements -/
def slN : Enc (Option Addr × Nat × Nat) := ⟨25, 1, fun p => [.slice p.1 p.2.1 p.2.2], (none, 0, 0), fun _ => rfl, fun x v hv => by simp at hv; subst hv; rfl, by decide⟩
/-- a slice of names reads as these -/
def RdN (w : World) (a : Option Addr) (n c : Nat) (XS : List Nm) : Prop :=
  ∃ ps : List (Option Addr × Nat × Nat), Rd slN w a n c ps ∧ ps.length = XS.length ∧ ∀ (j : Nat) (p : Option Addr × Nat × Nat) (X : Nm), ps[j]? = some p → XS[j]? = some X → Rd strE w p.1 p.2.1 p.2.2 X
theorem RdN.ext {w w' : World} {a : Option Addr} {n c : Nat} {XS : List Nm} (h : RdN w a n c XS) (hb : Below w.heap.size w w') : RdN w' a n c XS := by
  obtain ⟨ps, h1, h2, h3⟩ := h
  exact ⟨ps, h1.ext hb, h2, fun j p X hp hX => (h3 j p X hp hX).ext hb⟩
theorem RdN.len {w : World} {a : Option Addr} {n c : Nat} {XS : List Nm} (h : RdN w a n c XS) : XS.length = n := by
  obtain ⟨ps, h1, h2, _⟩ := h
  rw [← h2, h1.len]
theorem RdN.at_ {w : World} {a : Option Addr} {n c : Nat} {XS : List Nm} (h : RdN w a n c XS) (h0 : 0 < n) : ∃ b o, a = some ⟨b, o, none⟩ ∧ b < w.heap.size ∧ ∀ j (hj : j < XS.length), ∃ a' n' c', w.cell? ⟨b, o + j, none⟩ = some (.slice a' n' c') ∧ Rd strE w a' n' c' XS[j] := by
  obtain ⟨ps, h1, h2, h3⟩ := h
  obtain ⟨b, o, hab, hlt, hc⟩ := h1.addr h0
  refine ⟨b, o, hab, hlt, fun j hj => ?_⟩
  have hj' : j < ps.length := by omega
  have h := hc j hj' 0 (by decide)
  have e : o + (j * slN.k + 0) = o + j := by show o + (j * 1 + 0) = o + j; omega
  rw [e] at h
  exact ⟨_, _, _, h, h3 j ps[j] XS[j] (List.getElem?_eq_getElem hj') (List.getElem?_eq_getElem hj)⟩
section
variable {H : Type} {enc : TypeId × Value → H} {w : World}
theorem name_of {v : Value} {fuel : Nat} {y : DataW H × List MemPlace} (hf : DataW.trod enc Try.prog w 0 (fun _ => true) true fuel 25 [v] = some y) : ∃ a n c l, v = .slice a n c ∧ Rd strE w a n c l := by
  rcases open_strings (t := 25) (by kernel_rfl) Try.underlying9 (by kernel_rfl) hf with ⟨hcs, _⟩ | ⟨x, len, cap, ss, hcs, _, hl, hm, hzs, hx, hcell, hwz⟩
  · simp at hcs
    exact ⟨none, 0, 0, [], hcs, Rd.nil _ _⟩
  · simp at hcs
    have hz' : ss.length = cap := by simpa using hzs
    refine ⟨_, len, cap, _, hcs, rd_of (E := strE) rfl (g := fun i => bs (ss.getD i ByteArray.empty)) (f := fun l => .string (mk l)) (fun _ => rfl) (m := cap) hl hl hm (fun i hi => ?_)⟩
    rw [hcell i (by omega), mk_bs]
theorem names_of {v : Value} {fuel : Nat} {y : DataW H × List MemPlace} (hf : DataW.trod enc Try.prog w 0 (fun _ => true) true fuel 52 [v] = some y) :
    ∃ a n c XS, v = .slice a n c ∧ RdN w a n c XS := by
  rcases Go.Deep.open_slice (t := 52) (e := 25) (by kernel_rfl) hf with ⟨hcs, _⟩ | ⟨x, len, cap, m, n, D, Pl, hcs, _, hl, hm, hmm, hx, hi⟩
  · simp at hcs
    exact ⟨none, 0, 0, [], hcs, [], Rd.nil _ _, rfl, fun j p X hp => by simp at hp⟩
  · simp at hcs
    have hm' : m = cap := by simpa using hmm
    have h3 : Try.prog.cellsOf 25 = 1 := by kernel_rfl
    have each : ∀ i, i < cap → ∃ q : (Option Addr × Nat × Nat) × Nm, w.cell? (x.add i) = some (.slice q.1.1 q.1.2.1 q.1.2.2) ∧ Rd strE w q.1.1 q.1.2.1 q.1.2.2 q.2 := by
      intro i hic
      obtain ⟨cs', hc, ht'⟩ := hi i (by omega)
      rw [h3, Nat.mul_one] at hc
      obtain ⟨_, hcl, hat⟩ := World.cells?_some hc
      match cs', hcl with
      | [u], _ =>
        obtain ⟨a', n', c', l', rfl, hR⟩ := name_of ht'
        have h4 := hat 0 (by decide)
        rw [Go.Deep.add_add] at h4
        exact ⟨((a', n', c'), l'), by simpa using h4, hR⟩
    obtain ⟨q, hq⟩ := Go.Deep.choose_lt each
    refine ⟨_, len, cap, (List.range len).map fun i => (q i).2, hcs, (List.range len).map fun i => (q i).1, ?_, by simp, fun j p X hp hX => ?_⟩
    · exact rd_of (E := slN) rfl (g := fun i => (q i).1) (f := fun p => .slice p.1 p.2.1 p.2.2) (fun _ => rfl) (m := len) (Nat.le_refl _) hl hm (fun i hi => (hq i (by omega)).1)
    · simp only [List.getElem?_map, Option.map_eq_some_iff] at hp hX
      obtain ⟨j1, h1, rfl⟩ := hp
      obtain ⟨j2, h2, rfl⟩ := hX
      rw [h1] at h2
      cases h2
      have hj : j1 = j ∧ j < len := by
        by_cases hlt : j < len
        · simp [hlt] at h1; exact ⟨h1.symm, hlt⟩
        · rw [List.getElem?_eq_none (by simp; omega)] at h1; cases h1
      exact (hq j1 (by omega)).2
theorem open_names {v : Value} {d : DataW H} {p : List MemPlace} {r : Reach} {b0 : Nat} (hv : Value.okWide Try.prog w r b0 52 v) (h : DataW.Trod enc Try.prog w 0 (fun _ => true) true 52 v d p) : ∃ a n c XS, v = .slice a n c ∧ RdN w a n c XS := by
  obtain ⟨a0, n0, c0, rfl⟩ := okWide_slice Try.underlying52 hv
  obtain ⟨fuel, hf⟩ := h
  obtain ⟨a, n, c, XS, e, hR⟩ := names_of (v := .slice a0 n0 c0) hf
  exact ⟨a, n, c, XS, e, hR⟩
theorem open_bools {v : Value} {d : DataW H} {p : List MemPlace} {r : Reach} {b0 : Nat} (hv : Value.okWide Try.prog w r b0 53 v) (h : DataW.Trod enc Try.prog w 0 (fun _ => true) true 53 v d p) : ∃ a n c, v = .slice a n c ∧ n ≤ maxLen ∧ (0 < n → ∃ b o, a = some ⟨b, o, none⟩ ∧ b < w.heap.size ∧ ∀ j, j < n → ∃ x : Bool, w.cell? ⟨b, o + j, none⟩ = some (.bool x)) := by
  obtain ⟨a0, n0, c0, rfl⟩ := okWide_slice Try.underlying53 hv
  obtain ⟨fuel, hf⟩ := h
  rcases Go.Deep.open_slice (t := 53) (e := 4) (by kernel_rfl) hf with ⟨hcs, _⟩ | ⟨x, len, cap, m, n, D, Pl, hcs, _, hl, hm, hmm, hx, hi⟩
  · simp [Value.cells] at hcs
    obtain ⟨rfl, rfl, rfl⟩ := hcs
    exact ⟨none, 0, 0, rfl, Nat.zero_le _, fun h => absurd h (Nat.lt_irrefl _)⟩
  · simp [Value.cells] at hcs
    obtain ⟨rfl, rfl, rfl⟩ := hcs
    have hm' : m = c0 := by simpa using hmm
    have h3 : Try.prog.cellsOf 4 = 1 := by kernel_rfl
    refine ⟨_, n0, c0, rfl, Nat.le_trans hl hm, fun h0 => ?_⟩
    have each : ∀ i, i < n0 → ∃ y : Bool, w.cell? (x.add i) = some (.bool y) := by
      intro i hic
      obtain ⟨cs', hc, ht'⟩ := hi i (by omega)
      rw [h3, Nat.mul_one] at hc
      obtain ⟨_, hcl, hat⟩ := World.cells?_some hc
      match cs', hcl with
      | [u], _ =>
        obtain ⟨y, e, _⟩ := DataW.trod_bool Try.underlying4 ht'
        simp at e
        subst e
        have h4 := hat 0 (by decide)
        rw [Go.Deep.add_add] at h4
        exact ⟨y, by simpa using h4⟩
    obtain ⟨y0, hy0⟩ := each 0 h0
    obtain ⟨b, o, rfl⟩ := spot_none (by simpa [Addr.add] using hy0)
    refine ⟨b, o, rfl, World.block_lt_of_cell? w _ hy0, fun j hj => ?_⟩
    obtain ⟨y, hy⟩ := each j hj
    rw [Addr.add_lit] at hy
    exact ⟨y, hy⟩
end
/-- the block of a slice of the call's own -/
theorem own_blk {α : Type} {E : Enc α} {w : World} {B : Nat} {v : Value} {l : List α} (h : Own E w B v l) : ∀ k, v.ownBlock = some k → ∃ C, Blk w k E.e (0, 0) C := by
  rintro k hk
  rcases h with ⟨rfl, _⟩ | ⟨g, cap, X, rfl, _, hB, _⟩
  · simp [Value.ownBlock] at hk
  · simp [Value.ownBlock] at hk
    subst hk
    exact ⟨_, hB⟩
theorem blk_type {w : World} {k : Nat} {e e' : TypeId} {fz fz' : Nat × Nat} {C C' : List Value} (h : Blk w k e fz C) (h' : Blk w k e' fz' C') : e = e' := by
  unfold Blk at h h'
  have h3 := h.symm.trans h'
  simp at h3
  exact h3.2.1
/-- a list of another type than the writer's parts is none of them -/
theorem Wr.apart {w : World} {lo g : Nat} {B : List UInt8} {nm : Nat} {f : List UInt8 → Option Int} {a : Option Addr} {c mb : Nat} (h : Wr w lo g B nm f a c mb) {α : Type} {E : Enc α} {base : Nat} {v : Value} {l : List α} (ho : Own E w base v l) (h5 : E.e ≠ 5) (h60 : E.e ≠ 60) :
    ∀ k, v.ownBlock = some k → ¬ (k = g ∨ k = mb ∨ (Value.slice a B.length c).ownBlock = some k) := by
  intro k hk
  obtain ⟨C, hC⟩ := own_blk ho k hk
  rintro (rfl | rfl | hk')
  · exact h60 (blk_type hC h.blk)
  · exact (h.map.notBlk hC) rfl
  · obtain ⟨C', hC'⟩ := own_blk h.own k hk'
    exact h5 (blk_type hC hC')
theorem own_apart {α β : Type} {E : Enc α} {F : Enc β} {w : World} {base base' : Nat} {v v' : Value} {l : List α} {l' : List β} (h : Own E w base v l) (h' : Own F w base' v' l') (hE : E.e ≠ F.e) : ∀ k, v.ownBlock = some k → v'.ownBlock ≠ some k := by
  intro k hk hk'
  obtain ⟨C, hC⟩ := own_blk h k hk
  obtain ⟨C', hC'⟩ := own_blk h' k hk'
  exact hE (blk_type hC hC')
/-- another list grows: the writer is as it was -/
theorem Wr.grown {w w' : World} {lo g : Nat} {B : List UInt8} {nm : Nat} {f : List UInt8 → Option Int} {a : Option Addr} {c mb : Nat} (h : Wr w lo g B nm f a c mb) {α : Type} {E : Enc α} {base : Nat} {v : Value} {l : List α} (ho : Own E w base v l) (h5 : E.e ≠ 5) (h60 : E.e ≠ 60) (hg : w.grownBy w' v.ownBlock) : Wr w' lo g B nm f a c mb :=
  h.keep fun k hk hkk => hg.block k hk fun e => h.apart ho h5 h60 k e.symm hkk
set_option maxHeartbeats 1000000 in
/-- a name that may not be -/
theorem wr_bad {w : World} {lo g : Nat} {B : List UInt8} {nm : Nat} {f : List UInt8 → Option Int} {a : Option Addr} {c mb : Nat} (h : Wr w lo g B nm f a c mb) {an : Option Addr} {n cn : Nat} {L : Nm} (hN : Rd strE w an n cn L) (hn : n ≤ 8796093022208) (hc : checkL L ≠ 0) (back : Bool) :
    Calls Try.prog 27 #[.pointer (some ⟨g, 0, none⟩), .slice an n cn, .bool back] w fun e w' => e = .returned (.int .i64 (checkL L)) ∧ w = w' := by
  have hbl := Lib.hid h.blk
  have hN' := Lib.hid hN
  have hcI : ¬ ((checkL L : Nat) : Int) = 0 := by omega
  clear h hN
  go_enter Try.func27, Try.ntmps27
  go_wp2_with fail
  refine (wr_none hbl.out).mono ?_
  rintro e w1 ⟨rfl, rfl⟩
  go_wp2_with fail
  refine (check_any hN'.out hn).mono ?_
  rintro e w1 ⟨rfl, rfl⟩
  go_wp2_with fail
  go_ret
  exact ⟨rfl, rfl⟩
/-- what was written: each name is read at its place, up to the next one's -/
def Chn (B : List UInt8) (RS : List (Nat × Nm)) : Prop := ∀ (j : Nat) (r : Nat × Nm), RS[j]? = some r → r.1 ≤ B.length ∧ checkL r.2 = 0 ∧ rdF B true r.1 r.1 (-1) [] = some (r.2, (((RS.map (·.1))[j + 1]?.getD B.length : Nat) : Int))
theorem Chn.nil : Chn [] [] := fun j r h => by simp at h
theorem Chn.snoc {B t : List UInt8} {RS : List (Nat × Nm)} {L : Nm} (h : Chn B RS) (hc : checkL L = 0) (hr : rdF (B ++ t) true B.length B.length (-1) [] = some (L, ((B.length + t.length : Nat) : Int))) : Chn (B ++ t) (RS ++ [(B.length, L)]) := by
  intro j r hj
  rw [List.getElem?_append] at hj
  by_cases hlt : j < RS.length
  · rw [if_pos hlt] at hj
    obtain ⟨h1, h2, h3⟩ := h j r hj
    refine ⟨by simp; omega, h2, ?_⟩
    rw [rd_more h3]
    congr 2
    rw [List.map_append, List.getElem?_append]
    by_cases h4 : j + 1 < RS.length
    · rw [if_pos (by simpa using h4)]
      rw [List.getElem?_eq_getElem (by simpa using h4)]; rfl
    · have e : j + 1 = RS.length := by omega
      rw [if_neg (by simp; omega)]
      rw [List.getElem?_eq_none (by simp; omega)]
      simp [e]
  · rw [if_neg hlt] at hj
    obtain ⟨m, hm⟩ : ∃ m, j - RS.length = m := ⟨_, rfl⟩
    rw [hm] at hj
    cases m with
    | succ m => simp at hj
    | zero =>
      simp only [List.getElem?_cons_zero, Option.some.injEq] at hj
      subst hj
      refine ⟨by simp, hc, ?_⟩
      rw [hr]
      have e : j = RS.length := by omega
      subst e
      congr 2
      rw [List.getElem?_eq_none (by simp)]
      simp
end Go.Proofs.Ytndpebhhgicooaa
