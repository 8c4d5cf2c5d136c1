/- The program's network as it lies; none 26, check 24, fly 25. Printed by gen_ntc.py. -/
import Derived.Test.YthdnbipfdahnlaaNtB
namespace Go.Proofs.Ythdnbipfdahnlaa
open Go Go.RowKit
def Apt (v v' : Value) : Prop := ∀ k, v.ownBlock = some k → v'.ownBlock ≠ some k
theorem Apt.sym {v v' : Value} (h : Apt v v') : Apt v' v := fun k h1 h2 => h k h2 h1
/-- a flight -/
structure Fl where
  at_ : Int
  h : Hd
  d : List UInt8
def insU (x : Fl) : List Fl → List Fl
  | [] => [x]
  | y :: r => if y.at_ ≤ x.at_ then y :: insU x r else x :: y :: r
theorem insU_eq (x : Fl) : ∀ (A : List Fl) (i : Nat), i ≤ A.length → (∀ (k : Nat) (y : Fl), k < i → A[k]? = some y → y.at_ ≤ x.at_) → (∀ (k : Nat) (y : Fl), i ≤ k → A[k]? = some y → x.at_ < y.at_) → A.take i ++ [x] ++ A.drop i = insU x A
  | [], i, hi, _, _ => by
    have : i = 0 := Nat.le_zero.1 hi
    subst this
    rfl
  | y :: r, 0, _, _, h2 => by
    have := h2 0 y (Nat.le_refl _) rfl
    rw [insU, if_neg (by omega)]
    rfl
  | y :: r, i + 1, hi, h1, h2 => by
    have := h1 0 y (Nat.succ_pos _) rfl
    rw [insU, if_pos this, ← insU_eq x r i (by simpa using hi) (fun k z hk hz => h1 (k + 1) z (by omega) (by simpa using hz)) (fun k z hk hz => h2 (k + 1) z (by omega) (by simpa using hz))]
    rfl
theorem insU_len (x : Fl) : ∀ A : List Fl, (insU x A).length = A.length + 1
  | [] => rfl
  | y :: r => by
    rw [insU]
    split
    · simp [insU_len x r]
    · simp
def SrtA (A : List Fl) : Prop := ∀ (i j : Nat), i < j → ∀ (x y : Fl), A[i]? = some x → A[j]? = some y → x.at_ ≤ y.at_
theorem SrtA.tail {y : Fl} {r : List Fl} (h : SrtA (y :: r)) : SrtA r := fun i j hij a b ha hb => h (i + 1) (j + 1) (by omega) a b (by simpa using ha) (by simpa using hb)
theorem SrtA.head {y : Fl} {r : List Fl} (h : SrtA (y :: r)) : ∀ x ∈ r, y.at_ ≤ x.at_ := fun x hx => by
  obtain ⟨j, hj⟩ := List.getElem?_of_mem hx
  exact h 0 (j + 1) (by omega) y x rfl (by simpa using hj)
theorem SrtA.cons {y : Fl} {r : List Fl} (h : SrtA r) (hy : ∀ x ∈ r, y.at_ ≤ x.at_) : SrtA (y :: r) := fun i j hij a b ha hb => by
  cases j with
  | zero => omega
  | succ j =>
    rw [List.getElem?_cons_succ] at hb
    cases i with
    | zero =>
      simp at ha
      subst ha
      exact hy b (List.mem_of_getElem? hb)
    | succ i =>
      rw [List.getElem?_cons_succ] at ha
      exact h i j (by omega) a b ha hb
theorem insU_mem (x : Fl) : ∀ (A : List Fl) (z : Fl), z ∈ insU x A ↔ z = x ∨ z ∈ A
  | [], z => by simp [insU]
  | y :: r, z => by
    rw [insU]
    split
    · rw [List.mem_cons, insU_mem x r z, List.mem_cons]
      constructor <;> (intro h; rcases h with h | h | h <;> simp [h])
    · simp
theorem insU_srt (x : Fl) : ∀ (A : List Fl), SrtA A → SrtA (insU x A)
  | [], _ => fun i j hij a b ha hb => by
    have := (List.getElem?_eq_some_iff.1 hb).1
    simp [insU] at this
    omega
  | y :: r, h => by
    rw [insU]
    split
    · rename_i hy
      refine (insU_srt x r h.tail).cons fun z hz => ?_
      rcases (insU_mem x r z).1 hz with rfl | hz
      · exact hy
      · exact h.head z hz
    · rename_i hy
      refine h.cons fun z hz => ?_
      rcases List.mem_cons.1 hz with rfl | hz
      · omega
      · have := h.head z hz
        omega
/-- counts -/
structure Cn where
  sent : Int
  lost : Int
  forged : Int
  taken : Int
def dV (q : FD) : Value := .slice q.p.da q.p.dn q.p.dc
/-- flights as they lie and are -/
structure Rep (w : World) (FL : List FD) (A : List Fl) : Prop where
  len : FL.length = A.length
  rep : ∀ (j : Nat) (q : FD) (f : Fl), FL[j]? = some q → A[j]? = some f → q.at_ = f.at_ ∧ q.p.h = f.h ∧ Own byteE w 0 (dV q) f.d
  ap : ∀ (i j : Nat), i ≠ j → ∀ (p q : FD), FL[i]? = some p → FL[j]? = some q → Apt (dV p) (dV q)
theorem Rep.keep {w w' : World} {FL : List FD} {A : List Fl} (h : Rep w FL A) (hk : ∀ q ∈ FL, ∀ g, (dV q).ownBlock = some g → w'.heap[g]? = w.heap[g]?) : Rep w' FL A :=
  ⟨h.len, fun j q f hq hf => ⟨(h.rep j q f hq hf).1, (h.rep j q f hq hf).2.1, (h.rep j q f hq hf).2.2.keep fun g hg => hk q (List.mem_of_getElem? hq) g hg⟩, h.ap⟩
theorem Rep.lt {w : World} {FL : List FD} {A : List Fl} (h : Rep w FL A) : ∀ q ∈ FL, ∀ g, (dV q).ownBlock = some g → g < w.heap.size := fun q hq g hg => by
  obtain ⟨j, hj⟩ := List.getElem?_of_mem hq
  have hj' : j < A.length := by rw [← h.len]; exact (List.getElem?_eq_some_iff.1 hj).1
  exact ((h.rep j q A[j] hj (List.getElem?_eq_getElem hj')).2.2.lt g hg).2
theorem Rep.blk {w : World} {FL : List FD} {A : List Fl} (h : Rep w FL A) : ∀ q ∈ FL, ∀ g, (dV q).ownBlock = some g → ∃ C, Blk w g 5 (0, 0) C := fun q hq g hg => by
  obtain ⟨j, hj⟩ := List.getElem?_of_mem hq
  have hj' : j < A.length := by rw [← h.len]; exact (List.getElem?_eq_some_iff.1 hj).1
  exact own_blkE (h.rep j q A[j] hj (List.getElem?_eq_getElem hj')).2.2 g hg
/-- one flight more, at place i -/
theorem Rep.ins {w : World} {FL : List FD} {A : List Fl} (h : Rep w FL A) {i : Nat} (hi : i ≤ FL.length) {q : FD} {f : Fl} (hq : q.at_ = f.at_ ∧ q.p.h = f.h ∧ Own byteE w 0 (dV q) f.d) (hap : ∀ p ∈ FL, Apt (dV p) (dV q)) : Rep w (FL.take i ++ [q] ++ FL.drop i) (A.take i ++ [f] ++ A.drop i) := by
  have e1 : (FL.take i ++ [q]).length = i + 1 := by simp; omega
  have hi' : i ≤ A.length := by rw [← h.len]; exact hi
  have e2 : (A.take i ++ [f]).length = i + 1 := by simp; omega
  have key : ∀ {α : Type} (L : List α) (x : α) (j : Nat) (y : α), i ≤ L.length → (L.take i ++ [x] ++ L.drop i)[j]? = some y → (j < i ∧ L[j]? = some y) ∨ (j = i ∧ y = x) ∨ (i < j ∧ L[j - 1]? = some y) := by
    intro α L x j y hL hy
    rw [List.append_assoc, List.getElem?_append] at hy
    have e : (L.take i).length = i := by rw [List.length_take]; omega
    rw [e] at hy
    split at hy
    · rename_i hj
      rw [List.getElem?_take, if_pos hj] at hy
      exact .inl ⟨hj, hy⟩
    · rename_i hj
      by_cases hj2 : j = i
      · subst hj2
        simp at hy
        exact .inr (.inl ⟨rfl, hy.symm⟩)
      · obtain ⟨m, hm⟩ : ∃ m, j = i + 1 + m := ⟨j - i - 1, by omega⟩
        subst hm
        rw [show i + 1 + m - i = m + 1 by omega] at hy
        simp at hy
        exact .inr (.inr ⟨by omega, by rw [show i + 1 + m - 1 = i + m by omega]; exact hy⟩)
  refine ⟨by have := h.len; simp; omega, fun j p g hp hg => ?_, fun a b hab p r hp hr => ?_⟩
  · rcases key FL q j p hi hp with ⟨h1, h2⟩ | ⟨h1, rfl⟩ | ⟨h1, h2⟩
    · rcases key A f j g hi' hg with ⟨_, g2⟩ | ⟨g1, _⟩ | ⟨g1, _⟩
      · exact h.rep j p g h2 g2
      · omega
      · omega
    · rcases key A f j g hi' hg with ⟨g1, _⟩ | ⟨_, rfl⟩ | ⟨g1, _⟩
      · omega
      · exact hq
      · omega
    · rcases key A f j g hi' hg with ⟨g1, _⟩ | ⟨g1, _⟩ | ⟨_, g2⟩
      · omega
      · omega
      · exact h.rep (j - 1) p g h2 g2
  · rcases key FL q a p hi hp with ⟨h1, h2⟩ | ⟨h1, rfl⟩ | ⟨h1, h2⟩
    · rcases key FL q b r hi hr with ⟨g1, g2⟩ | ⟨g1, rfl⟩ | ⟨g1, g2⟩
      · exact h.ap a b hab p r h2 g2
      · exact hap p (List.mem_of_getElem? h2)
      · exact h.ap a (b - 1) (by omega) p r h2 g2
    · rcases key FL p b r hi hr with ⟨g1, g2⟩ | ⟨g1, rfl⟩ | ⟨g1, g2⟩
      · exact (hap r (List.mem_of_getElem? g2)).sym
      · omega
      · exact (hap r (List.mem_of_getElem? g2)).sym
    · rcases key FL q b r hi hr with ⟨g1, g2⟩ | ⟨g1, rfl⟩ | ⟨g1, g2⟩
      · exact h.ap (a - 1) b (by omega) p r h2 g2
      · exact hap p (List.mem_of_getElem? h2)
      · exact h.ap (a - 1) (b - 1) (by omega) p r h2 g2
/-- the program's network: block n; all its blocks are of S -/
structure NetQ (w : World) (n : Nat) (S : Nat → Prop) (fa : Option Addr) (fn fc : Nat) (F : List Fate) (at_ : Int) (v : Value) (ob : Option Nat) (FL : List FD) (A : List Fl) (c : Cn) : Prop where
  blk : Blk w n 63 (0, 0) [.slice fa fn fc, .int .i64 at_, v, .int .i64 c.sent, .int .i64 c.lost, .int .i64 c.forged, .int .i64 c.taken, .bool true]
  fates : Own fateE w 0 (.slice fa fn fc) F
  own : OwnS flE w v FL ob
  rep : Rep w FL A
  sn : S n
  sf : ∀ g, (Value.slice fa fn fc).ownBlock = some g → S g
  so : ∀ g, ob = some g → S g
  sd : ∀ q ∈ FL, ∀ g, (dV q).ownBlock = some g → S g
theorem NetQ.tch {w : World} {n : Nat} {S : Nat → Prop} {fa : Option Addr} {fn fc : Nat} {F : List Fate} {at_ : Int} {v : Value} {ob : Option Nat} {FL : List FD} {A : List Fl} {c : Cn} {w' : World} {T : Nat → Prop} (h : NetQ w n S fa fn fc F at_ v ob FL A c) (t : Tch T w w') (hT : ∀ g, S g → ¬ T g) : NetQ w' n S fa fn fc F at_ v ob FL A c :=
  ⟨t.blk h.blk (hT n h.sn), t.own h.fates (fun g hg => hT g (h.sf g hg)), h.own.tch t (fun g hg => hT g (h.so g hg)), h.rep.keep (fun q hq g hg => t.block g (h.rep.lt q hq g hg) (hT g (h.sd q hq g hg))), h.sn, h.sf, h.so, h.sd⟩
theorem NetQ.ext {w : World} {n : Nat} {S : Nat → Prop} {fa : Option Addr} {fn fc : Nat} {F : List Fate} {at_ : Int} {v : Value} {ob : Option Nat} {FL : List FD} {A : List Fl} {c : Cn} {w' : World} (h : NetQ w n S fa fn fc F at_ v ob FL A c) (hb : Below w.heap.size w w') : NetQ w' n S fa fn fc F at_ v ob FL A c := h.tch (Tch.of_below (S := fun _ => False) hb) (fun _ _ h => h)
theorem NetQ.mono {w : World} {n : Nat} {S : Nat → Prop} {fa : Option Addr} {fn fc : Nat} {F : List Fate} {at_ : Int} {v : Value} {ob : Option Nat} {FL : List FD} {A : List Fl} {c : Cn} {S' : Nat → Prop} (h : NetQ w n S fa fn fc F at_ v ob FL A c) (hS : ∀ g, S g → S' g) : NetQ w n S' fa fn fc F at_ v ob FL A c :=
  ⟨h.blk, h.fates, h.own, h.rep, hS n h.sn, fun g hg => hS g (h.sf g hg), fun g hg => hS g (h.so g hg), fun q hq g hg => hS g (h.sd q hq g hg)⟩
theorem OwnS.blkE {α : Type} {E : Enc α} {w : World} {v : Value} {l : List α} {ob : Option Nat} (h : OwnS E w v l ob) {g : Nat} (hg : ob = some g) : ∃ C, Blk w g E.e (0, 0) C := by
  obtain ⟨a, cap, h1, h2, ⟨h3, _⟩ | ⟨g', o, X, h3, h4, h5, h6, r⟩⟩ := h
  · rw [h3] at hg; cases hg
  · rw [h3] at hg
    cases hg
    exact ⟨_, h6⟩
/-- a block of another type is not the slice's -/
theorem OwnS.ne {α : Type} {E : Enc α} {w : World} {v : Value} {l : List α} {ob : Option Nat} (h : OwnS E w v l ob) {k : Nat} {e : TypeId} {fz : Nat × Nat} {C : List Value} (hB : Blk w k e fz C) (he : E.e ≠ e) : ob ≠ some k := fun e2 => by
  obtain ⟨C', hC'⟩ := h.blkE e2
  exact he (blk_type hC' hB)
theorem OwnS.apart {α β : Type} {E : Enc α} {G : Enc β} {w : World} {v v' : Value} {l : List α} {l' : List β} {ob : Option Nat} {b : Nat} (h : OwnS E w v l ob) (ho : Own G w b v' l') (he : E.e ≠ G.e) : ∀ g, v'.ownBlock = some g → ob ≠ some g := fun g hg e2 => by
  obtain ⟨C, hC⟩ := own_blkE ho g hg
  exact h.ne hC he e2
theorem Rep.srt {w : World} {FL : List FD} {A : List Fl} (h : Rep w FL A) (hA : SrtA A) : Srt FL := fun i j hij x y hx hy => by
  have hi : i < A.length := by rw [← h.len]; exact (List.getElem?_eq_some_iff.1 hx).1
  have hj : j < A.length := by rw [← h.len]; exact (List.getElem?_eq_some_iff.1 hy).1
  rw [(h.rep i x A[i] hx (List.getElem?_eq_getElem hi)).1, (h.rep j y A[j] hy (List.getElem?_eq_getElem hj)).1]
  exact hA i j hij _ _ (List.getElem?_eq_getElem hi) (List.getElem?_eq_getElem hj)
theorem none_ok {w : World} {n : Nat} {S : Nat → Prop} {fa : Option Addr} {fn fc : Nat} {F : List Fate} {at_ : Int} {v : Value} {ob : Option Nat} {FL : List FD} {A : List Fl} {c : Cn} (h : NetQ w n S fa fn fc F at_ v ob FL A c) : Calls Try.prog 26 #[.pointer (some ⟨n, 0, none⟩)] w fun e w' => e = .returned (.bool false) ∧ w = w' := by
  have c7 : w.cell? ⟨n, 7, none⟩ = some (.bool true) := (h.blk.cell 7).trans rfl
  clear h
  go_enter Try.func26, Try.ntmps26
  go_wp2_with fail
  go_ret
  exact ⟨rfl, rfl⟩
theorem step_call3 {P : Program} {ops : Array Oper} {o : Oper} {a : Act} {w : World} {K : Act → World → Prop} {Q : Exit → Act → World → Prop} {Ep : Prop} (hw : Region.wanted o (yielded ops a.tmps) = true) {f : FuncId} (x y z : Operand) (t t2 t3 : TypeId)
    (ho : o.op = .call { callee := .value (.func f), args := #[x, y, z], argTypes := #[t, t2, t3] }) {v v2 v3 : Value} (hx : a.eval x = v) (hy : a.eval y = v2) (hz : a.eval z = v3) (hcf : ∀ (args : Array Value) (w : World), (callFunc f args).run P w = .ok (.enter f args) w)
    (h : Calls P f #[v, v2, v3] w fun e w' => ∃ r, e = .returned r ∧ K (a.put o.dst r) w') : if Region.wanted o (yielded ops a.tmps) = true then Oper.wp P o a w K Q else Ep := by
  rw [if_pos hw]
  unfold Oper.wp execOp
  have hv : a.eval (.func f) = .func (.func f) #[] #[] := rfl
  have e : (Deferred.ofValue (Value.func (Fn.func f) #[] #[]) #[v, v2, v3]).run P w = .ok { target := .fn (.func f) #[], args := #[v, v2, v3] } w := by simp [Deferred.ofValue]
  simp only [ho, resolve, invoke, Sem.run_bind, List.map_toArray, List.map_cons, List.map_nil, hx, hy, hz, hv, e, Result.andThen_ok, Array.append_empty, hcf, Oper.upon_enter]
  refine h.mono ?_
  rintro e w' ⟨r, rfl, hk⟩
  exact hk
theorem enter28 (args : Array Value) (w : World) : (callFunc 28 args).run Try.prog w = .ok (.enter 28 args) w := Go.MuLone.run_callFunc_enter Try.func28 (by kernel_rfl) (by rfl) args w
theorem enter40 (args : Array Value) (w : World) : (callFunc 40 args).run Try.prog w = .ok (.enter 40 args) w := Go.MuLone.run_callFunc_enter Try.func40 (by kernel_rfl) (by rfl) args w
theorem pk_cells {w wx : World} {h : Hd} {da : Option Addr} {dn dc : Nat} (hB : Blk wx w.heap.size 32 (0, 0) [.int .u32 h.from_, .int .u16 h.fport, .int .u32 h.to_, .int .u16 h.tport, .bool h.stream, .slice da dn dc]) : wx.cell? ⟨w.heap.size, 0, none⟩ = some (.int .u32 h.from_) ∧ wx.cell? ⟨w.heap.size, 1, none⟩ = some (.int .u16 h.fport) ∧ wx.cell? ⟨w.heap.size, 2, none⟩ = some (.int .u32 h.to_) ∧ wx.cell? ⟨w.heap.size, 3, none⟩ = some (.int .u16 h.tport) ∧ wx.cell? ⟨w.heap.size, 4, none⟩ = some (.bool h.stream) ∧ wx.cell? ⟨w.heap.size, 5, none⟩ = some (.slice da dn dc) := ⟨(hB.cell 0).trans rfl, (hB.cell 1).trans rfl, (hB.cell 2).trans rfl, (hB.cell 3).trans rfl, (hB.cell 4).trans rfl, (hB.cell 5).trans rfl⟩
/-- what is so behind fly, put together -/
theorem fly_fin {w : World} {n : Nat} {S : Nat → Prop} {fa : Option Addr} {fn fc : Nat} {F : List Fate} {at_ : Int} {va : Option Addr} {fl vc : Nat} {ob : Option Nat} {FL : List FD} {A : List Fl} {c : Cn} {U U2 V : World} {y : Int} {h : Hd} {a2 : Option Addr} {dn c2 : Nat} {d : List UInt8} {v3 : Option Addr} {l3 v4 : Nat} {ob2 : Option Nat} {i : Nat}
    (hQ : NetQ U n S fa fn fc F at_ (.slice va fl vc) ob FL A c) (hk : Below w.heap.size w U) (hn : n < w.heap.size) (hO : Own byteE U w.heap.size (.slice a2 dn c2) d) (hS : OwnS flE U2 (.slice v3 l3 v4) (FL.take i ++ [⟨y, h, a2, dn, c2⟩] ++ FL.drop i) ob2)
    (hN : Blk V n 63 (0, 0) [.slice fa fn fc, .int .i64 at_, .slice v3 l3 v4, .int .i64 c.sent, .int .i64 c.lost, .int .i64 c.forged, .int .i64 c.taken, .bool true]) (hV : Tch (fun k => k = n) U2 V) (hT : Tch (fun k => ob = some k) U U2) (hob : ob2 = ob ∨ ob2 = some U.heap.size) (hfl : FL.length = fl) (hi : i ≤ fl)
    (h1 : ∀ (k : Nat) (x : FD), k < i → FL[k]? = some x → x.at_ ≤ y) (h2 : ∀ (k : Nat) (x : FD), i ≤ k → FL[k]? = some x → y < x.at_) (hw : NetQ w n S fa fn fc F at_ (.slice va FL.length vc) ob FL A c) :
    NetQ V n (fun g => S g ∨ w.heap.size ≤ g) fa fn fc F at_ (.slice v3 l3 v4) ob2 (FL.take i ++ [⟨y, h, a2, dn, c2⟩] ++ FL.drop i) (insU ⟨y, h, d⟩ A) c ∧ Tch (fun k => k = n ∨ ob = some k) w V := by
  have hle : i ≤ A.length := by rw [← hQ.rep.len, hfl]; exact hi
  have e : A.take i ++ [⟨y, h, d⟩] ++ A.drop i = insU ⟨y, h, d⟩ A := by
    refine insU_eq ⟨y, h, d⟩ A i hle (fun k z hk hz => ?_) (fun k z hk hz => ?_)
    · have hk2 : k < FL.length := by rw [hQ.rep.len]; exact (List.getElem?_eq_some_iff.1 hz).1
      rw [← (hQ.rep.rep k FL[k] z (List.getElem?_eq_getElem hk2) hz).1]
      exact h1 k _ hk (List.getElem?_eq_getElem hk2)
    · have hk2 : k < FL.length := by rw [hQ.rep.len]; exact (List.getElem?_eq_some_iff.1 hz).1
      rw [← (hQ.rep.rep k FL[k] z (List.getElem?_eq_getElem hk2) hz).1]
      exact h2 k _ hk (List.getElem?_eq_getElem hk2)
  have hkU := hk.size
  have wn : ∀ q ∈ FL, ∀ g, (dV q).ownBlock = some g → g < w.heap.size := hw.rep.lt
  have hT' : ∀ g, ob = some g → g < w.heap.size := fun g hg => hw.own.lt g hg
  have own5 : ∀ {b : Nat} {x : Value} {l : List UInt8}, Own byteE U b x l → Own byteE V b x l := fun {b x l} ho => by
    have o1 := hT.own ho (fun g hg e2 => hQ.own.apart ho (by decide) g hg e2)
    refine hV.own o1 (fun g hg e2 => ?_)
    subst e2
    obtain ⟨C, hC⟩ := own_blkE ho g hg
    exact absurd (blk_type hC hQ.blk) (by decide)
  have hrep := hQ.rep.ins (i := i) (q := ⟨y, h, a2, dn, c2⟩) (f := ⟨y, h, d⟩) (by rw [hfl]; exact hi) ⟨rfl, rfl, hO.mono (Nat.zero_le _)⟩ (fun p hp g hg hg2 => by
    have := wn p hp g hg
    have := (hO.lt g hg2).1
    omega)
  rw [e] at hrep
  refine ⟨⟨hN, ?_, ?_, ?_, .inl hQ.sn, fun g hg => .inl (hQ.sf g hg), fun g hg => ?_, fun q hq g hg => ?_⟩, ?_⟩
  · have o1 := hT.own hQ.fates (fun g hg e2 => hQ.own.apart hQ.fates (by decide) g hg e2)
    refine hV.own o1 (fun g hg e2 => ?_)
    subst e2
    obtain ⟨C, hC⟩ := own_blkE hQ.fates g hg
    exact absurd (blk_type hC hQ.blk) (by decide)
  · refine hS.tch hV (fun g hg e2 => ?_)
    subst e2
    have hB2 : Blk U2 g 63 (0, 0) _ := hT.blk hQ.blk (hQ.own.ne hQ.blk (by decide))
    exact hS.ne hB2 (by decide) hg
  · exact ⟨hrep.len, fun j q f hq hf => ⟨(hrep.rep j q f hq hf).1, (hrep.rep j q f hq hf).2.1, own5 (hrep.rep j q f hq hf).2.2⟩, hrep.ap⟩
  · rcases hob with hb | hb
    · exact .inl (hQ.so g (hb.symm.trans hg))
    · right
      have := Option.some.inj (hb.symm.trans hg)
      omega
  · rcases List.mem_append.1 hq with hq | hq
    · rcases List.mem_append.1 hq with hq | hq
      · exact .inl (hQ.sd q (List.mem_of_mem_take hq) g hg)
      · have : q = ⟨y, h, a2, dn, c2⟩ := by simpa using hq
        subst this
        exact .inr (hO.lt g hg).1
    · exact .inl (hQ.sd q (List.mem_of_mem_drop hq) g hg)
  · refine ⟨hV.os.trans (hT.os.trans hk.os), hV.tape.trans (hT.tape.trans hk.tape), hV.output.trans (hT.output.trans hk.output), Nat.le_trans hkU (Nat.le_trans hT.size hV.size), fun k hkw hn2 => ?_⟩
    have hkU2 : k < U2.heap.size := by have := hT.size; omega
    rw [hV.block k hkU2 (fun e2 => hn2 (.inl e2)), hT.block k (by omega) (fun e2 => hn2 (.inr e2)), hk.block k hkw]
set_option maxHeartbeats 16000000 in
set_option maxRecDepth 100000 in
theorem fly_any {w : World} {n : Nat} {S : Nat → Prop} {fa : Option Addr} {fn fc : Nat} {F : List Fate} {at_ : Int} {v : Value} {ob : Option Nat} {FL : List FD} {A : List Fl} {c : Cn} (hQ : NetQ w n S fa fn fc F at_ v ob FL A c) (hs : SrtA A) (hl : A.length ≤ 99999) (h : Hd) {da : Option Addr} {dn dc : Nat} {d : List UInt8} (hp : Rd byteE w da dn dc d) (hdn : dn ≤ 140737488355328) (y : Int) :
    Calls Try.prog 25 #[.pointer (some ⟨n, 0, none⟩), pkV h (.slice da dn dc), .int .i64 y] w fun e w' => e = .returned (.tuple #[]) ∧ (∃ v' ob' FL', NetQ w' n (fun g => S g ∨ w.heap.size ≤ g) fa fn fc F at_ v' ob' FL' (insU ⟨y, h, d⟩ A) c) ∧ Tch (fun k => k = n ∨ ob = some k) w w' := by
  unfold pkV
  have hnl := hQ.blk.lt
  obtain ⟨W1, hW1⟩ : ∃ W, w.alloc (.cells #[.int .u32 h.from_, .int .u16 h.fport, .int .u32 h.to_, .int .u16 h.tport, .bool h.stream, .slice da dn dc] 32) = W := ⟨_, rfl⟩
  have B1 : Hid (Blk W1 w.heap.size 32 (0, 0) [.int .u32 h.from_, .int .u16 h.fport, .int .u32 h.to_, .int .u16 h.tport, .bool h.stream, .slice da dn dc]) := Lib.hid (by rw [← hW1]; exact Blk.new w 32 (0, 0) #[.int .u32 h.from_, .int .u16 h.fport, .int .u32 h.to_, .int .u16 h.tport, .bool h.stream, .slice da dn dc])
  have k1 : Hid (Below w.heap.size w W1) := Lib.hid (by rw [← hW1]; exact alloc_bel _ _)
  have Q1 := Lib.hid (hQ.ext k1.out)
  have hp1 := Lib.hid (hp.ext k1.out)
  have hn0 : Hid (n < w.heap.size) := Lib.hid hnl
  have hq0 := Lib.hid hQ
  have hs' := Lib.hid hs
  clear hQ hp hnl hs
  obtain ⟨va, vc, rfl, hR⟩ := Q1.out.own.rd
  have hFl : FL.length ≤ 99999 := by rw [Q1.out.rep.len]; exact hl
  have hse := Lib.hid (search_any hR (Q1.out.rep.srt hs'.out) (by omega) y)
  have n2 : W1.cell? ⟨n, 2, none⟩ = some (.slice va FL.length vc) := (Q1.out.blk.cell 2).trans rfl
  clear hR
  obtain ⟨fl, hfl⟩ : ∃ m, FL.length = m := ⟨_, rfl⟩
  rw [hfl] at n2 hse
  go_enter Try.func25, Try.ntmps25
  go_wp2_with fail
  try rw [hW1]
  clear hW1
  refine hse.out.mono ?_
  rintro e w2 ⟨⟨i, rfl, hi, hi1, hi2⟩, hb⟩
  have kb := Lib.hid (k1.out.trans (hb.mono k1.out.size))
  have Q2 := Lib.hid (Q1.out.ext hb)
  have hp2 := Lib.hid (hp1.out.ext hb)
  have B2 := Lib.hid (B1.out.below hb B1.out.lt)
  have hi1' := Lib.hid hi1
  have hi2' := Lib.hid hi2
  have hiI : (i : Int) ≤ fl := by omega
  clear hb hi1 hi2 n2 B1 Q1 hp1 hse
  go_upto_region 2 with (fail)
  rw [hfl] at Q2
  refine wp_region_noPanic ?_
  refine wp_region_held_drew (S := fun w' => w'.cell? ⟨w.heap.size, 0, none⟩ = some (.int .u32 h.from_) ∧ w'.cell? ⟨w.heap.size, 1, none⟩ = some (.int .u16 h.fport) ∧ w'.cell? ⟨w.heap.size, 2, none⟩ = some (.int .u32 h.to_) ∧ w'.cell? ⟨w.heap.size, 3, none⟩ = some (.int .u16 h.tport) ∧ w'.cell? ⟨w.heap.size, 4, none⟩ = some (.bool h.stream) ∧ w'.cell? ⟨w.heap.size, 5, none⟩ = some (.slice da dn dc)) (by kernel_rfl) (pk_cells B2.out.drew) (fun hHeld => ?_)
  have k0 : Hid (Below w.heap.size w w2.drew) := Lib.hid (kb.out.drew)
  have Q0 : Hid (NetQ w2.drew n S fa fn fc F at_ (.slice va fl vc) ob FL A c) := Lib.hid (Q2.out.ext (Below.refl _ _).drew)
  have B0 := Lib.hid B2.out.drew
  have hp0 : Hid (Rd byteE w2.drew da dn dc d) := Lib.hid (hp2.out.ext (Below.refl _ _).drew)
  generalize w2.drew = U0 at *
  clear Q2 B2 hp2 kb
  refine wpAnyH_take (i := 0) (oi := { dst := some 17, op := Op.move (Operand.tmp 0), type := 24, pos := _, after := #[], guard := none }) (v := ?_) rfl (by kernel_rfl) (by kernel_rfl) (by kernel_rfl) (fun _ _ _ h => h) (Or.inl ⟨by rfl, ?_⟩) (pk_cells (by first | exact B0.out | assumption)) ?_
  rotate_left
  · intro w hSw
    go_simp
    first | done | with_reducible rfl
  try simp only [Act.put, List.setIfInBounds_toArray, List.set_cons_zero, List.set_cons_succ]
  refine wpAnyH_take (i := 1) (oi := { dst := some 18, op := Op.move (Operand.tmp 0), type := 24, pos := _, after := #[], guard := none }) (v := ?_) rfl (by kernel_rfl) (by kernel_rfl) (by kernel_rfl) (fun _ _ _ h => h) (Or.inl ⟨by rfl, ?_⟩) (pk_cells (by first | exact B0.out | assumption)) ?_
  rotate_left
  · intro w hSw
    go_simp
    first | done | with_reducible rfl
  try simp only [Act.put, List.setIfInBounds_toArray, List.set_cons_zero, List.set_cons_succ]
  refine wpAnyH_take (i := 2) (oi := { dst := some 19, op := Op.nilCheck (Operand.tmp 18), type := 0, pos := _, after := #[{ on := 1, ground := Ground.data }], guard := none }) (v := ?_) rfl (by kernel_rfl) (by kernel_rfl) (by kernel_rfl) (fun _ _ _ h => h) (Or.inl ⟨by rfl, ?_⟩) (pk_cells (by first | exact B0.out | assumption)) ?_
  rotate_left
  · intro w hSw
    go_simp
    first | done | with_reducible rfl
  try simp only [Act.put, List.setIfInBounds_toArray, List.set_cons_zero, List.set_cons_succ]
  refine wpAnyH_take (i := 3) (oi := { dst := some 20, op := Op.fieldAddr 63 (Operand.tmp 19) 2, type := 0, pos := _, after := #[{ on := 2, ground := Ground.data }], guard := none }) (v := ?_) rfl (by kernel_rfl) (by kernel_rfl) (by kernel_rfl) (fun _ _ _ h => h) (Or.inl ⟨by rfl, ?_⟩) (pk_cells (by first | exact B0.out | assumption)) ?_
  rotate_left
  · intro w hSw
    go_simp
    first | done | with_reducible rfl
  try simp only [Act.put, List.setIfInBounds_toArray, List.set_cons_zero, List.set_cons_succ]
  refine wpAnyH_take (i := 5) (oi := { dst := some 22, op := Op.move (Operand.tmp 6), type := 3, pos := _, after := #[], guard := none }) (v := ?_) rfl (by kernel_rfl) (by kernel_rfl) (by kernel_rfl) (fun _ _ _ h => h) (Or.inl ⟨by rfl, ?_⟩) (pk_cells (by first | exact B0.out | assumption)) ?_
  rotate_left
  · intro w hSw
    go_simp
    first | done | with_reducible rfl
  try simp only [Act.put, List.setIfInBounds_toArray, List.set_cons_zero, List.set_cons_succ]
  refine wpAnyH_take (i := 6) (oi := { dst := some 23, op := Op.move (Operand.tmp 2), type := 3, pos := _, after := #[], guard := none }) (v := ?_) rfl (by kernel_rfl) (by kernel_rfl) (by kernel_rfl) (fun _ _ _ h => h) (Or.inl ⟨by rfl, ?_⟩) (pk_cells (by first | exact B0.out | assumption)) ?_
  rotate_left
  · intro w hSw
    go_simp
    first | done | with_reducible rfl
  try simp only [Act.put, List.setIfInBounds_toArray, List.set_cons_zero, List.set_cons_succ]
  refine wpAnyH_take (i := 7) (oi := { dst := some 24, op := Op.load 32 (Operand.tmp 4), type := 32, pos := _, after := #[], guard := none }) (v := ?_) rfl (by kernel_rfl) (by kernel_rfl) (by kernel_rfl) (fun _ _ _ h => h) (Or.inl ⟨by rfl, ?_⟩) (pk_cells (by first | exact B0.out | assumption)) ?_
  rotate_left
  · intro w hSw
    go_simp
    first | done | with_reducible rfl
  try simp only [Act.put, List.setIfInBounds_toArray, List.set_cons_zero, List.set_cons_succ]
  refine wpAnyH_ready (rs := [4, 8]) (by kernel_rfl) (by simp) ?_
  refine AllReadyH.cons (o := { dst := some 21, op := Op.load 61 (Operand.tmp 20), type := 61, pos := _, after := #[{ on := 3, ground := Ground.data }], guard := none }) rfl (fun K hK => ?_) ?_
  · have z : U0.cell? ⟨n, 2, none⟩ = some (.slice va fl vc) := (Q0.out.blk.cell 2).trans rfl
    go_simp
    clear z
    refine hK.out _ _ (pk_cells B0.out) (fun hHeld => ?_)
    clear hK K
    try simp only [Act.put, List.setIfInBounds_toArray, List.set_cons_zero, List.set_cons_succ]
    refine wpAnyH_ready (rs := [8]) (by kernel_rfl) (by simp) ?_
    refine AllReadyH.cons (o := { dst := some 25, op := Op.call { callee := Callee.value (Operand.func 28), args := #[Operand.tmp 24], argTypes := #[32] }, type := 32, pos := _, after := #[{ on := 7, ground := Ground.data }], guard := none }) rfl (fun K hK => ?_) ?_
    · refine step_call (by rfl) (.tmp 24) 32 (by rfl) (by rfl) enter28 ?_
      refine (own_any h (hp0.out) hdn).mono ?_
      rintro e U2 ⟨⟨a2, c2, rfl, hO⟩, m⟩
      have O2 := Lib.hid (hO.mono k0.out.size)
      have k2 := Lib.hid (k0.out.trans (m.mono k0.out.size))
      have Q2 := Lib.hid (Q0.out.ext m)
      have B2 := Lib.hid (B0.out.below m B0.out.lt)
      clear hO m
      refine ⟨_, rfl, ?_⟩
      unfold pkV
      refine hK.out _ _ (pk_cells B2.out) (fun hHeld => ?_)
      clear hK K
      try simp only [Act.put, List.setIfInBounds_toArray, List.set_cons_zero, List.set_cons_succ]
      refine wpAnyH_take (i := 9) (oi := { dst := some 26, op := Op.build 71 #[(0, Operand.tmp 23), (1, Operand.tmp 25)], type := 71, pos := _, after := #[{ on := 6, ground := Ground.data }, { on := 8, ground := Ground.data }], guard := none }) (v := ?_) rfl (by kernel_rfl) (by kernel_rfl) (by kernel_rfl) (fun _ _ _ h => h) (Or.inl ⟨by rfl, ?_⟩) (pk_cells (by first | exact B0.out | assumption)) ?_
      rotate_left
      · intro w hSw
        go_simp
        first | done | with_reducible rfl
      try simp only [Act.put, List.setIfInBounds_toArray, List.set_cons_zero, List.set_cons_succ]
      refine wpAnyH_ready (rs := [10]) (by kernel_rfl) (by simp) ?_
      refine AllReadyH.cons (o := { dst := some 27, op := Op.buildSlice 61 1 #[(0, Operand.tmp 26)], type := 61, pos := _, after := #[{ on := 9, ground := Ground.data }], guard := none }) rfl (fun K hK => ?_) ?_
      · go_simp
        obtain ⟨U3, e3⟩ : ∃ U, U2.alloc (.cells #[.int .i64 y, .int .u32 h.from_, .int .u16 h.fport, .int .u32 h.to_, .int .u16 h.tport, .bool h.stream, .slice a2 dn c2] 71) = U := ⟨_, rfl⟩
        have m : Below U2.heap.size U2 U3 := by rw [← e3]; exact alloc_bel _ _
        have k3 := Lib.hid (k2.out.trans (m.mono k2.out.size))
        have Q3 := Lib.hid (Q2.out.ext m)
        have B3 := Lib.hid (B2.out.below m B2.out.lt)
        have O3 := Lib.hid (O2.out.ext m)
        have X3 : Hid (Blk U3 U2.heap.size 71 (0, 0) [.int .i64 y, .int .u32 h.from_, .int .u16 h.fport, .int .u32 h.to_, .int .u16 h.tport, .bool h.stream, .slice a2 dn c2]) := Lib.hid (by rw [← e3]; exact Blk.new U2 71 (0, 0) #[.int .i64 y, .int .u32 h.from_, .int .u16 h.fport, .int .u32 h.to_, .int .u16 h.tport, .bool h.stream, .slice a2 dn c2])
        have nx3 : Hid (ob ≠ some U2.heap.size) := Lib.hid (fun e2 => by have := Q2.out.own.lt _ e2; omega)
        rw [e3]
        clear e3 m
        refine hK.out _ _ (pk_cells B3.out) (fun hHeld => ?_)
        clear hK K
        try simp only [Act.put, List.setIfInBounds_toArray, List.set_cons_zero, List.set_cons_succ]
        refine wpAnyH_ready (rs := [11]) (by kernel_rfl) (by simp) ?_
        refine AllReadyH.cons (o := { dst := some 28, op := Op.call { callee := Callee.value (Operand.func 40), args := #[Operand.tmp 21, Operand.tmp 22, Operand.tmp 27], argTypes := #[61, 3, 61] }, type := 61, pos := _, after := #[{ on := 4, ground := Ground.data }, { on := 5, ground := Ground.data }, { on := 10, ground := Ground.data }, { on := 8, ground := Ground.chain }], guard := none }) rfl (fun K hK => ?_) ?_
        · refine step_call3 (by rfl) (.tmp 21) (.tmp 22) (.tmp 27) 61 3 61 (by rfl) (by rfl) (by rfl) (by rfl) enter40 ?_
          refine (ins_any (x := ⟨y, h, a2, dn, c2⟩) Q3.out.own (i := i) (by omega) X3.out nx3.out (by omega)).mono ?_
          rintro e U4 ⟨v2, ob2, rfl, hO2, ht, hob⟩
          obtain ⟨v3, v4, rfl⟩ := hO2.shape
          have T4 := Lib.hid ht
          have hO3 := Lib.hid hO2
          have hob3 := Lib.hid hob
          have cs4 : Hid (U3.heap.size ≤ U4.heap.size) := Lib.hid ht.size
          have B4 := Lib.hid (T4.out.blk B3.out (Q3.out.own.ne B3.out (by decide)))
          have N4 := Lib.hid (T4.out.blk Q3.out.blk (Q3.out.own.ne Q3.out.blk (by decide)))
          clear hO2 ht hob
          generalize (FL.take i ++ [(⟨y, h, a2, dn, c2⟩ : FD)] ++ FL.drop i).length = l3 at *
          refine ⟨_, rfl, ?_⟩
          refine hK.out _ _ (pk_cells B4.out) (fun hHeld => ?_)
          clear hK K
          try simp only [Act.put, List.setIfInBounds_toArray, List.set_cons_zero, List.set_cons_succ]
          refine wpAnyH_take (i := 12) (oi := { dst := some 29, op := Op.nilCheck (Operand.tmp 17), type := 0, pos := _, after := #[{ on := 0, ground := Ground.data }, { on := 0, ground := Ground.phase }, { on := 1, ground := Ground.phase }, { on := 2, ground := Ground.phase }, { on := 3, ground := Ground.phase }, { on := 4, ground := Ground.phase }, { on := 5, ground := Ground.phase }, { on := 6, ground := Ground.phase }, { on := 7, ground := Ground.phase }, { on := 8, ground := Ground.phase }, { on := 9, ground := Ground.phase }, { on := 10, ground := Ground.phase }, { on := 11, ground := Ground.phase }], guard := none }) (v := ?_) rfl (by kernel_rfl) (by kernel_rfl) (by kernel_rfl) (fun _ _ _ h => h) (Or.inl ⟨by rfl, ?_⟩) (pk_cells (by first | exact B0.out | assumption)) ?_
          rotate_left
          · intro w hSw
            go_simp
            first | done | with_reducible rfl
          try simp only [Act.put, List.setIfInBounds_toArray, List.set_cons_zero, List.set_cons_succ]
          refine wpAnyH_take (i := 13) (oi := { dst := some 30, op := Op.fieldAddr 63 (Operand.tmp 29) 2, type := 0, pos := _, after := #[{ on := 12, ground := Ground.data }, { on := 0, ground := Ground.phase }, { on := 1, ground := Ground.phase }, { on := 2, ground := Ground.phase }, { on := 3, ground := Ground.phase }, { on := 4, ground := Ground.phase }, { on := 5, ground := Ground.phase }, { on := 6, ground := Ground.phase }, { on := 7, ground := Ground.phase }, { on := 8, ground := Ground.phase }, { on := 9, ground := Ground.phase }, { on := 10, ground := Ground.phase }, { on := 11, ground := Ground.phase }], guard := none }) (v := ?_) rfl (by kernel_rfl) (by kernel_rfl) (by kernel_rfl) (fun _ _ _ h => h) (Or.inl ⟨by rfl, ?_⟩) (pk_cells (by first | exact B0.out | assumption)) ?_
          rotate_left
          · intro w hSw
            go_simp
            first | done | with_reducible rfl
          try simp only [Act.put, List.setIfInBounds_toArray, List.set_cons_zero, List.set_cons_succ]
          refine wpAnyH_ready (rs := [14]) (by kernel_rfl) (by simp) ?_
          refine AllReadyH.cons (o := { dst := none, op := Op.store 61 (Operand.tmp 30) (Operand.tmp 28), type := 0, pos := _, after := #[{ on := 13, ground := Ground.data }, { on := 11, ground := Ground.data }, { on := 11, ground := Ground.chain }, { on := 0, ground := Ground.phase }, { on := 1, ground := Ground.phase }, { on := 2, ground := Ground.phase }, { on := 3, ground := Ground.phase }, { on := 4, ground := Ground.phase }, { on := 5, ground := Ground.phase }, { on := 6, ground := Ground.phase }, { on := 7, ground := Ground.phase }, { on := 8, ground := Ground.phase }, { on := 9, ground := Ground.phase }, { on := 10, ground := Ground.phase }, { on := 11, ground := Ground.phase }], guard := none }) rfl (fun K hK => ?_) ?_
          · have fz : U4.frozen? ⟨n, 2, none⟩ = false := by rw [N4.out.frozen]; try simp
            have zz : U4.cell? ⟨n, 2, none⟩ = some (.slice va fl vc) := (N4.out.cell 2).trans rfl
            go_simp
            obtain ⟨V9, hV⟩ : ∃ V, U4.setCell ⟨n, 2, none⟩ (.slice v3 l3 v4) = V := ⟨_, rfl⟩
            try rw [hV]
            have hgV : U4.grownBy V9 (some n) := by rw [← hV]; exact grown_set _ _ _ _
            have BV : Hid (Blk V9 w.heap.size 32 (0, 0) [.int .u32 h.from_, .int .u16 h.fport, .int .u32 h.to_, .int .u16 h.tport, .bool h.stream, .slice da dn dc]) := Lib.hid (B4.out.grownV2 hgV (fun e => by have e2 := Option.some.inj e; have := hn0.out; omega))
            have NV : Hid (Blk V9 n 63 (0, 0) [.slice fa fn fc, .int .i64 at_, .slice v3 l3 v4, .int .i64 c.sent, .int .i64 c.lost, .int .i64 c.forged, .int .i64 c.taken, .bool true]) := Lib.hid (by rw [← hV]; exact N4.out.set 2 _)
            have TV : Hid (Tch (fun k => k = n) U4 V9) := Lib.hid (Tch.of_grown hgV (fun k hk => (Option.some.inj hk).symm))
            clear hV hgV fz zz
            refine hK.out _ _ (pk_cells BV.out) (fun hHeld => ?_)
            clear hK K
            try simp only [Act.put, List.setIfInBounds_toArray, List.set_cons_zero, List.set_cons_succ]
            refine wpAnyH_done (by kernel_rfl) ?_ _
            refine NoPanic.normal ?_
            have hins : Hid (FL.take i ++ [(⟨y, h, a2, dn, c2⟩ : FD)] ++ FL.drop i = FL.take i ++ [(⟨y, h, a2, dn, c2⟩ : FD)] ++ FL.drop i) := Lib.hid rfl
            have hf := fly_fin (w := w) (d := d) Q3.out k3.out hn0.out O3.out hO3.out NV.out TV.out T4.out hob3.out hfl hi hi1'.out hi2'.out hq0.out
            have hf2 := Lib.hid hf
            clear hf hHeld
            go_wp2_with fail
            go_end0
            exact ⟨rfl, ⟨_, _, _, hf2.out.1⟩, hf2.out.2⟩
          exact AllReadyH.nil
        exact AllReadyH.nil
      exact AllReadyH.nil
    exact AllReadyH.nil
  refine AllReadyH.cons (o := { dst := some 25, op := Op.call { callee := Callee.value (Operand.func 28), args := #[Operand.tmp 24], argTypes := #[32] }, type := 32, pos := _, after := #[{ on := 7, ground := Ground.data }], guard := none }) rfl (fun K hK => ?_) ?_
  · refine step_call (by rfl) (.tmp 24) 32 (by rfl) (by rfl) enter28 ?_
    refine (own_any h (hp0.out) hdn).mono ?_
    rintro e U6 ⟨⟨a2, c2, rfl, hO⟩, m⟩
    have O6 := Lib.hid (hO.mono k0.out.size)
    have k6 := Lib.hid (k0.out.trans (m.mono k0.out.size))
    have Q6 := Lib.hid (Q0.out.ext m)
    have B6 := Lib.hid (B0.out.below m B0.out.lt)
    clear hO m
    refine ⟨_, rfl, ?_⟩
    unfold pkV
    refine hK.out _ _ (pk_cells B6.out) (fun hHeld => ?_)
    clear hK K
    try simp only [Act.put, List.setIfInBounds_toArray, List.set_cons_zero, List.set_cons_succ]
    refine wpAnyH_take (i := 9) (oi := { dst := some 26, op := Op.build 71 #[(0, Operand.tmp 23), (1, Operand.tmp 25)], type := 71, pos := _, after := #[{ on := 6, ground := Ground.data }, { on := 8, ground := Ground.data }], guard := none }) (v := ?_) rfl (by kernel_rfl) (by kernel_rfl) (by kernel_rfl) (fun _ _ _ h => h) (Or.inl ⟨by rfl, ?_⟩) (pk_cells (by first | exact B0.out | assumption)) ?_
    rotate_left
    · intro w hSw
      go_simp
      first | done | with_reducible rfl
    try simp only [Act.put, List.setIfInBounds_toArray, List.set_cons_zero, List.set_cons_succ]
    refine wpAnyH_ready (rs := [4, 10]) (by kernel_rfl) (by simp) ?_
    refine AllReadyH.cons (o := { dst := some 21, op := Op.load 61 (Operand.tmp 20), type := 61, pos := _, after := #[{ on := 3, ground := Ground.data }], guard := none }) rfl (fun K hK => ?_) ?_
    · have z : U6.cell? ⟨n, 2, none⟩ = some (.slice va fl vc) := (Q6.out.blk.cell 2).trans rfl
      go_simp
      clear z
      refine hK.out _ _ (pk_cells B6.out) (fun hHeld => ?_)
      clear hK K
      try simp only [Act.put, List.setIfInBounds_toArray, List.set_cons_zero, List.set_cons_succ]
      refine wpAnyH_ready (rs := [10]) (by kernel_rfl) (by simp) ?_
      refine AllReadyH.cons (o := { dst := some 27, op := Op.buildSlice 61 1 #[(0, Operand.tmp 26)], type := 61, pos := _, after := #[{ on := 9, ground := Ground.data }], guard := none }) rfl (fun K hK => ?_) ?_
      · go_simp
        obtain ⟨U8, e8⟩ : ∃ U, U6.alloc (.cells #[.int .i64 y, .int .u32 h.from_, .int .u16 h.fport, .int .u32 h.to_, .int .u16 h.tport, .bool h.stream, .slice a2 dn c2] 71) = U := ⟨_, rfl⟩
        have m : Below U6.heap.size U6 U8 := by rw [← e8]; exact alloc_bel _ _
        have k8 := Lib.hid (k6.out.trans (m.mono k6.out.size))
        have Q8 := Lib.hid (Q6.out.ext m)
        have B8 := Lib.hid (B6.out.below m B6.out.lt)
        have O8 := Lib.hid (O6.out.ext m)
        have X8 : Hid (Blk U8 U6.heap.size 71 (0, 0) [.int .i64 y, .int .u32 h.from_, .int .u16 h.fport, .int .u32 h.to_, .int .u16 h.tport, .bool h.stream, .slice a2 dn c2]) := Lib.hid (by rw [← e8]; exact Blk.new U6 71 (0, 0) #[.int .i64 y, .int .u32 h.from_, .int .u16 h.fport, .int .u32 h.to_, .int .u16 h.tport, .bool h.stream, .slice a2 dn c2])
        have nx8 : Hid (ob ≠ some U6.heap.size) := Lib.hid (fun e2 => by have := Q6.out.own.lt _ e2; omega)
        rw [e8]
        clear e8 m
        refine hK.out _ _ (pk_cells B8.out) (fun hHeld => ?_)
        clear hK K
        try simp only [Act.put, List.setIfInBounds_toArray, List.set_cons_zero, List.set_cons_succ]
        refine wpAnyH_ready (rs := [11]) (by kernel_rfl) (by simp) ?_
        refine AllReadyH.cons (o := { dst := some 28, op := Op.call { callee := Callee.value (Operand.func 40), args := #[Operand.tmp 21, Operand.tmp 22, Operand.tmp 27], argTypes := #[61, 3, 61] }, type := 61, pos := _, after := #[{ on := 4, ground := Ground.data }, { on := 5, ground := Ground.data }, { on := 10, ground := Ground.data }, { on := 8, ground := Ground.chain }], guard := none }) rfl (fun K hK => ?_) ?_
        · refine step_call3 (by rfl) (.tmp 21) (.tmp 22) (.tmp 27) 61 3 61 (by rfl) (by rfl) (by rfl) (by rfl) enter40 ?_
          refine (ins_any (x := ⟨y, h, a2, dn, c2⟩) Q8.out.own (i := i) (by omega) X8.out nx8.out (by omega)).mono ?_
          rintro e U9 ⟨v2, ob2, rfl, hO2, ht, hob⟩
          obtain ⟨v3, v4, rfl⟩ := hO2.shape
          have T9 := Lib.hid ht
          have hO3 := Lib.hid hO2
          have hob3 := Lib.hid hob
          have cs9 : Hid (U8.heap.size ≤ U9.heap.size) := Lib.hid ht.size
          have B9 := Lib.hid (T9.out.blk B8.out (Q8.out.own.ne B8.out (by decide)))
          have N9 := Lib.hid (T9.out.blk Q8.out.blk (Q8.out.own.ne Q8.out.blk (by decide)))
          clear hO2 ht hob
          generalize (FL.take i ++ [(⟨y, h, a2, dn, c2⟩ : FD)] ++ FL.drop i).length = l3 at *
          refine ⟨_, rfl, ?_⟩
          refine hK.out _ _ (pk_cells B9.out) (fun hHeld => ?_)
          clear hK K
          try simp only [Act.put, List.setIfInBounds_toArray, List.set_cons_zero, List.set_cons_succ]
          refine wpAnyH_take (i := 12) (oi := { dst := some 29, op := Op.nilCheck (Operand.tmp 17), type := 0, pos := _, after := #[{ on := 0, ground := Ground.data }, { on := 0, ground := Ground.phase }, { on := 1, ground := Ground.phase }, { on := 2, ground := Ground.phase }, { on := 3, ground := Ground.phase }, { on := 4, ground := Ground.phase }, { on := 5, ground := Ground.phase }, { on := 6, ground := Ground.phase }, { on := 7, ground := Ground.phase }, { on := 8, ground := Ground.phase }, { on := 9, ground := Ground.phase }, { on := 10, ground := Ground.phase }, { on := 11, ground := Ground.phase }], guard := none }) (v := ?_) rfl (by kernel_rfl) (by kernel_rfl) (by kernel_rfl) (fun _ _ _ h => h) (Or.inl ⟨by rfl, ?_⟩) (pk_cells (by first | exact B0.out | assumption)) ?_
          rotate_left
          · intro w hSw
            go_simp
            first | done | with_reducible rfl
          try simp only [Act.put, List.setIfInBounds_toArray, List.set_cons_zero, List.set_cons_succ]
          refine wpAnyH_take (i := 13) (oi := { dst := some 30, op := Op.fieldAddr 63 (Operand.tmp 29) 2, type := 0, pos := _, after := #[{ on := 12, ground := Ground.data }, { on := 0, ground := Ground.phase }, { on := 1, ground := Ground.phase }, { on := 2, ground := Ground.phase }, { on := 3, ground := Ground.phase }, { on := 4, ground := Ground.phase }, { on := 5, ground := Ground.phase }, { on := 6, ground := Ground.phase }, { on := 7, ground := Ground.phase }, { on := 8, ground := Ground.phase }, { on := 9, ground := Ground.phase }, { on := 10, ground := Ground.phase }, { on := 11, ground := Ground.phase }], guard := none }) (v := ?_) rfl (by kernel_rfl) (by kernel_rfl) (by kernel_rfl) (fun _ _ _ h => h) (Or.inl ⟨by rfl, ?_⟩) (pk_cells (by first | exact B0.out | assumption)) ?_
          rotate_left
          · intro w hSw
            go_simp
            first | done | with_reducible rfl
          try simp only [Act.put, List.setIfInBounds_toArray, List.set_cons_zero, List.set_cons_succ]
          refine wpAnyH_ready (rs := [14]) (by kernel_rfl) (by simp) ?_
          refine AllReadyH.cons (o := { dst := none, op := Op.store 61 (Operand.tmp 30) (Operand.tmp 28), type := 0, pos := _, after := #[{ on := 13, ground := Ground.data }, { on := 11, ground := Ground.data }, { on := 11, ground := Ground.chain }, { on := 0, ground := Ground.phase }, { on := 1, ground := Ground.phase }, { on := 2, ground := Ground.phase }, { on := 3, ground := Ground.phase }, { on := 4, ground := Ground.phase }, { on := 5, ground := Ground.phase }, { on := 6, ground := Ground.phase }, { on := 7, ground := Ground.phase }, { on := 8, ground := Ground.phase }, { on := 9, ground := Ground.phase }, { on := 10, ground := Ground.phase }, { on := 11, ground := Ground.phase }], guard := none }) rfl (fun K hK => ?_) ?_
          · have fz : U9.frozen? ⟨n, 2, none⟩ = false := by rw [N9.out.frozen]; try simp
            have zz : U9.cell? ⟨n, 2, none⟩ = some (.slice va fl vc) := (N9.out.cell 2).trans rfl
            go_simp
            obtain ⟨V9, hV⟩ : ∃ V, U9.setCell ⟨n, 2, none⟩ (.slice v3 l3 v4) = V := ⟨_, rfl⟩
            try rw [hV]
            have hgV : U9.grownBy V9 (some n) := by rw [← hV]; exact grown_set _ _ _ _
            have BV : Hid (Blk V9 w.heap.size 32 (0, 0) [.int .u32 h.from_, .int .u16 h.fport, .int .u32 h.to_, .int .u16 h.tport, .bool h.stream, .slice da dn dc]) := Lib.hid (B9.out.grownV2 hgV (fun e => by have e2 := Option.some.inj e; have := hn0.out; omega))
            have NV : Hid (Blk V9 n 63 (0, 0) [.slice fa fn fc, .int .i64 at_, .slice v3 l3 v4, .int .i64 c.sent, .int .i64 c.lost, .int .i64 c.forged, .int .i64 c.taken, .bool true]) := Lib.hid (by rw [← hV]; exact N9.out.set 2 _)
            have TV : Hid (Tch (fun k => k = n) U9 V9) := Lib.hid (Tch.of_grown hgV (fun k hk => (Option.some.inj hk).symm))
            clear hV hgV fz zz
            refine hK.out _ _ (pk_cells BV.out) (fun hHeld => ?_)
            clear hK K
            try simp only [Act.put, List.setIfInBounds_toArray, List.set_cons_zero, List.set_cons_succ]
            refine wpAnyH_done (by kernel_rfl) ?_ _
            refine NoPanic.normal ?_
            have hins : Hid (FL.take i ++ [(⟨y, h, a2, dn, c2⟩ : FD)] ++ FL.drop i = FL.take i ++ [(⟨y, h, a2, dn, c2⟩ : FD)] ++ FL.drop i) := Lib.hid rfl
            have hf := fly_fin (w := w) (d := d) Q8.out k8.out hn0.out O8.out hO3.out NV.out TV.out T9.out hob3.out hfl hi hi1'.out hi2'.out hq0.out
            have hf2 := Lib.hid hf
            clear hf hHeld
            go_wp2_with fail
            go_end0
            exact ⟨rfl, ⟨_, _, _, hf2.out.1⟩, hf2.out.2⟩
          exact AllReadyH.nil
        exact AllReadyH.nil
      exact AllReadyH.nil
    refine AllReadyH.cons (o := { dst := some 27, op := Op.buildSlice 61 1 #[(0, Operand.tmp 26)], type := 61, pos := _, after := #[{ on := 9, ground := Ground.data }], guard := none }) rfl (fun K hK => ?_) ?_
    · go_simp
      obtain ⟨U11, e11⟩ : ∃ U, U6.alloc (.cells #[.int .i64 y, .int .u32 h.from_, .int .u16 h.fport, .int .u32 h.to_, .int .u16 h.tport, .bool h.stream, .slice a2 dn c2] 71) = U := ⟨_, rfl⟩
      have m : Below U6.heap.size U6 U11 := by rw [← e11]; exact alloc_bel _ _
      have k11 := Lib.hid (k6.out.trans (m.mono k6.out.size))
      have Q11 := Lib.hid (Q6.out.ext m)
      have B11 := Lib.hid (B6.out.below m B6.out.lt)
      have O11 := Lib.hid (O6.out.ext m)
      have X11 : Hid (Blk U11 U6.heap.size 71 (0, 0) [.int .i64 y, .int .u32 h.from_, .int .u16 h.fport, .int .u32 h.to_, .int .u16 h.tport, .bool h.stream, .slice a2 dn c2]) := Lib.hid (by rw [← e11]; exact Blk.new U6 71 (0, 0) #[.int .i64 y, .int .u32 h.from_, .int .u16 h.fport, .int .u32 h.to_, .int .u16 h.tport, .bool h.stream, .slice a2 dn c2])
      have nx11 : Hid (ob ≠ some U6.heap.size) := Lib.hid (fun e2 => by have := Q6.out.own.lt _ e2; omega)
      rw [e11]
      clear e11 m
      refine hK.out _ _ (pk_cells B11.out) (fun hHeld => ?_)
      clear hK K
      try simp only [Act.put, List.setIfInBounds_toArray, List.set_cons_zero, List.set_cons_succ]
      refine wpAnyH_ready (rs := [4]) (by kernel_rfl) (by simp) ?_
      refine AllReadyH.cons (o := { dst := some 21, op := Op.load 61 (Operand.tmp 20), type := 61, pos := _, after := #[{ on := 3, ground := Ground.data }], guard := none }) rfl (fun K hK => ?_) ?_
      · have z : U11.cell? ⟨n, 2, none⟩ = some (.slice va fl vc) := (Q11.out.blk.cell 2).trans rfl
        go_simp
        clear z
        refine hK.out _ _ (pk_cells B11.out) (fun hHeld => ?_)
        clear hK K
        try simp only [Act.put, List.setIfInBounds_toArray, List.set_cons_zero, List.set_cons_succ]
        refine wpAnyH_ready (rs := [11]) (by kernel_rfl) (by simp) ?_
        refine AllReadyH.cons (o := { dst := some 28, op := Op.call { callee := Callee.value (Operand.func 40), args := #[Operand.tmp 21, Operand.tmp 22, Operand.tmp 27], argTypes := #[61, 3, 61] }, type := 61, pos := _, after := #[{ on := 4, ground := Ground.data }, { on := 5, ground := Ground.data }, { on := 10, ground := Ground.data }, { on := 8, ground := Ground.chain }], guard := none }) rfl (fun K hK => ?_) ?_
        · refine step_call3 (by rfl) (.tmp 21) (.tmp 22) (.tmp 27) 61 3 61 (by rfl) (by rfl) (by rfl) (by rfl) enter40 ?_
          refine (ins_any (x := ⟨y, h, a2, dn, c2⟩) Q11.out.own (i := i) (by omega) X11.out nx11.out (by omega)).mono ?_
          rintro e U13 ⟨v2, ob2, rfl, hO2, ht, hob⟩
          obtain ⟨v3, v4, rfl⟩ := hO2.shape
          have T13 := Lib.hid ht
          have hO3 := Lib.hid hO2
          have hob3 := Lib.hid hob
          have cs13 : Hid (U11.heap.size ≤ U13.heap.size) := Lib.hid ht.size
          have B13 := Lib.hid (T13.out.blk B11.out (Q11.out.own.ne B11.out (by decide)))
          have N13 := Lib.hid (T13.out.blk Q11.out.blk (Q11.out.own.ne Q11.out.blk (by decide)))
          clear hO2 ht hob
          generalize (FL.take i ++ [(⟨y, h, a2, dn, c2⟩ : FD)] ++ FL.drop i).length = l3 at *
          refine ⟨_, rfl, ?_⟩
          refine hK.out _ _ (pk_cells B13.out) (fun hHeld => ?_)
          clear hK K
          try simp only [Act.put, List.setIfInBounds_toArray, List.set_cons_zero, List.set_cons_succ]
          refine wpAnyH_take (i := 12) (oi := { dst := some 29, op := Op.nilCheck (Operand.tmp 17), type := 0, pos := _, after := #[{ on := 0, ground := Ground.data }, { on := 0, ground := Ground.phase }, { on := 1, ground := Ground.phase }, { on := 2, ground := Ground.phase }, { on := 3, ground := Ground.phase }, { on := 4, ground := Ground.phase }, { on := 5, ground := Ground.phase }, { on := 6, ground := Ground.phase }, { on := 7, ground := Ground.phase }, { on := 8, ground := Ground.phase }, { on := 9, ground := Ground.phase }, { on := 10, ground := Ground.phase }, { on := 11, ground := Ground.phase }], guard := none }) (v := ?_) rfl (by kernel_rfl) (by kernel_rfl) (by kernel_rfl) (fun _ _ _ h => h) (Or.inl ⟨by rfl, ?_⟩) (pk_cells (by first | exact B0.out | assumption)) ?_
          rotate_left
          · intro w hSw
            go_simp
            first | done | with_reducible rfl
          try simp only [Act.put, List.setIfInBounds_toArray, List.set_cons_zero, List.set_cons_succ]
          refine wpAnyH_take (i := 13) (oi := { dst := some 30, op := Op.fieldAddr 63 (Operand.tmp 29) 2, type := 0, pos := _, after := #[{ on := 12, ground := Ground.data }, { on := 0, ground := Ground.phase }, { on := 1, ground := Ground.phase }, { on := 2, ground := Ground.phase }, { on := 3, ground := Ground.phase }, { on := 4, ground := Ground.phase }, { on := 5, ground := Ground.phase }, { on := 6, ground := Ground.phase }, { on := 7, ground := Ground.phase }, { on := 8, ground := Ground.phase }, { on := 9, ground := Ground.phase }, { on := 10, ground := Ground.phase }, { on := 11, ground := Ground.phase }], guard := none }) (v := ?_) rfl (by kernel_rfl) (by kernel_rfl) (by kernel_rfl) (fun _ _ _ h => h) (Or.inl ⟨by rfl, ?_⟩) (pk_cells (by first | exact B0.out | assumption)) ?_
          rotate_left
          · intro w hSw
            go_simp
            first | done | with_reducible rfl
          try simp only [Act.put, List.setIfInBounds_toArray, List.set_cons_zero, List.set_cons_succ]
          refine wpAnyH_ready (rs := [14]) (by kernel_rfl) (by simp) ?_
          refine AllReadyH.cons (o := { dst := none, op := Op.store 61 (Operand.tmp 30) (Operand.tmp 28), type := 0, pos := _, after := #[{ on := 13, ground := Ground.data }, { on := 11, ground := Ground.data }, { on := 11, ground := Ground.chain }, { on := 0, ground := Ground.phase }, { on := 1, ground := Ground.phase }, { on := 2, ground := Ground.phase }, { on := 3, ground := Ground.phase }, { on := 4, ground := Ground.phase }, { on := 5, ground := Ground.phase }, { on := 6, ground := Ground.phase }, { on := 7, ground := Ground.phase }, { on := 8, ground := Ground.phase }, { on := 9, ground := Ground.phase }, { on := 10, ground := Ground.phase }, { on := 11, ground := Ground.phase }], guard := none }) rfl (fun K hK => ?_) ?_
          · have fz : U13.frozen? ⟨n, 2, none⟩ = false := by rw [N13.out.frozen]; try simp
            have zz : U13.cell? ⟨n, 2, none⟩ = some (.slice va fl vc) := (N13.out.cell 2).trans rfl
            go_simp
            obtain ⟨V9, hV⟩ : ∃ V, U13.setCell ⟨n, 2, none⟩ (.slice v3 l3 v4) = V := ⟨_, rfl⟩
            try rw [hV]
            have hgV : U13.grownBy V9 (some n) := by rw [← hV]; exact grown_set _ _ _ _
            have BV : Hid (Blk V9 w.heap.size 32 (0, 0) [.int .u32 h.from_, .int .u16 h.fport, .int .u32 h.to_, .int .u16 h.tport, .bool h.stream, .slice da dn dc]) := Lib.hid (B13.out.grownV2 hgV (fun e => by have e2 := Option.some.inj e; have := hn0.out; omega))
            have NV : Hid (Blk V9 n 63 (0, 0) [.slice fa fn fc, .int .i64 at_, .slice v3 l3 v4, .int .i64 c.sent, .int .i64 c.lost, .int .i64 c.forged, .int .i64 c.taken, .bool true]) := Lib.hid (by rw [← hV]; exact N13.out.set 2 _)
            have TV : Hid (Tch (fun k => k = n) U13 V9) := Lib.hid (Tch.of_grown hgV (fun k hk => (Option.some.inj hk).symm))
            clear hV hgV fz zz
            refine hK.out _ _ (pk_cells BV.out) (fun hHeld => ?_)
            clear hK K
            try simp only [Act.put, List.setIfInBounds_toArray, List.set_cons_zero, List.set_cons_succ]
            refine wpAnyH_done (by kernel_rfl) ?_ _
            refine NoPanic.normal ?_
            have hins : Hid (FL.take i ++ [(⟨y, h, a2, dn, c2⟩ : FD)] ++ FL.drop i = FL.take i ++ [(⟨y, h, a2, dn, c2⟩ : FD)] ++ FL.drop i) := Lib.hid rfl
            have hf := fly_fin (w := w) (d := d) Q11.out k11.out hn0.out O11.out hO3.out NV.out TV.out T13.out hob3.out hfl hi hi1'.out hi2'.out hq0.out
            have hf2 := Lib.hid hf
            clear hf hHeld
            go_wp2_with fail
            go_end0
            exact ⟨rfl, ⟨_, _, _, hf2.out.1⟩, hf2.out.2⟩
          exact AllReadyH.nil
        exact AllReadyH.nil
      exact AllReadyH.nil
    exact AllReadyH.nil
  exact AllReadyH.nil
end Go.Proofs.Ythdnbipfdahnlaa
