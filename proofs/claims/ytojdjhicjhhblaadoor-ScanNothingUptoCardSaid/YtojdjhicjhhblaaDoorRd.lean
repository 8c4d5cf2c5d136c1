/- Slices that are read: what lies in their elements. Nothing of the program. -/
import Derived.Test.YtojdjhicjhhblaaDoorOwn
namespace Go.Proofs.YtojdjhicjhhblaaDoor
open Go.RowKit

/-- the slice (a, n, c) reads as l -/
structure Rd {α : Type} (E : Enc α) (w : World) (a : Option Addr) (n c : Nat) (l : List α) : Prop where
  len : l.length = n
  cap : n ≤ c
  most : c ≤ maxLen
  at_ : ∀ j (hj : j < l.length) i, i < E.k → ∃ b o, a = some ⟨b, o, none⟩ ∧ w.cell? ⟨b, o + (j * E.k + i), none⟩ = (E.f l[j])[i]?

theorem Enc.get_some {α : Type} (E : Enc α) (x : α) (i : Nat) (hi : i < E.k) : ∃ v, (E.f x)[i]? = some v := ⟨_, List.getElem?_eq_getElem (by rw [E.len]; exact hi)⟩

theorem Rd.addr {α : Type} {E : Enc α} {w : World} {a : Option Addr} {n c : Nat} {l : List α} (h : Rd E w a n c l) (h0 : 0 < n) :
    ∃ b o, a = some ⟨b, o, none⟩ ∧ b < w.heap.size ∧ ∀ j (hj : j < l.length) i, i < E.k → w.cell? ⟨b, o + (j * E.k + i), none⟩ = (E.f l[j])[i]? := by
  have hl := h.len
  obtain ⟨b, o, hab, hc⟩ := h.at_ 0 (by omega) 0 E.pos
  obtain ⟨v, hv⟩ := E.get_some l[0] 0 E.pos
  refine ⟨b, o, hab, World.block_lt_of_cell? w _ (hc.trans hv), fun j hj i hi => ?_⟩
  obtain ⟨b', o', hab', hc'⟩ := h.at_ j hj i hi
  rw [hab] at hab'
  simp only [Option.some.injEq, Addr.mk.injEq] at hab'
  obtain ⟨rfl, rfl, _⟩ := hab'
  exact hc'
theorem Rd.keep {α : Type} {E : Enc α} {w w' : World} {a : Option Addr} {n c : Nat} {l : List α} (h : Rd E w a n c l) (hb : ∀ b o s, a = some ⟨b, o, s⟩ → b < w.heap.size → w'.heap[b]? = w.heap[b]?) : Rd E w' a n c l := by
  refine ⟨h.len, h.cap, h.most, fun j hj i hi => ?_⟩
  obtain ⟨b, o, hab, hc⟩ := h.at_ j hj i hi
  obtain ⟨v, hv⟩ := E.get_some l[j] i hi
  refine ⟨b, o, hab, ?_⟩
  rw [← hc]
  exact World.cell?_of_block (w := w) (hb b o none hab (World.block_lt_of_cell? w _ (hc.trans hv)))
theorem Rd.ext {α : Type} {E : Enc α} {w w' : World} {a : Option Addr} {n c : Nat} {l : List α} (h : Rd E w a n c l) (hb : Below w.heap.size w w') : Rd E w' a n c l := h.keep fun b _ _ _ hlt => hb.block b hlt
theorem Rd.nil {α : Type} (E : Enc α) (w : World) : Rd E w none 0 0 [] := ⟨rfl, Nat.le_refl _, Nat.zero_le _, fun j hj => by cases hj⟩
theorem Rd.zero {α : Type} (E : Enc α) (w : World) (a : Option Addr) (c : Nat) (hc : c ≤ maxLen) : Rd E w a 0 c [] := ⟨rfl, Nat.zero_le _, hc, fun j hj => by cases hj⟩

theorem Own.rd {α : Type} {E : Enc α} {w : World} {base : Nat} {v : Value} {l : List α} (h : Own E w base v l) : ∃ a c, v = .slice a l.length c ∧ Rd E w a l.length c l := by
  rcases h with ⟨rfl, rfl⟩ | ⟨g, cap, X, rfl, hg, hB, hX, hle, hm, ht⟩
  · exact ⟨none, 0, rfl, Rd.nil E w⟩
  · refine ⟨_, cap, rfl, rfl, hle, hm, fun j hj i hi => ⟨g, 0, rfl, ?_⟩⟩
    rw [hB.cell, Nat.zero_add, rowOf_get E X j i (by omega) hi]
    congr 2
    have : l[j] = (X.take l.length)[j]'(by simp; omega) := by congr 1; exact ht.symm
    rw [this, List.getElem_take]
/-- a cut -/
theorem Rd.cut {α : Type} {E : Enc α} {w : World} {a : Option Addr} {n c : Nat} {l : List α} (h : Rd E w a n c l) (lo hi m : Nat) (h1 : lo ≤ hi) (h2 : hi ≤ n) (h3 : hi ≤ m) (h4 : m ≤ c) :
    Rd E w (if m = lo then a else a.map (·.add (lo * E.k))) (hi - lo) (m - lo) ((l.take hi).drop lo) := by
  have hl := h.len
  refine ⟨by simp; omega, by omega, by have := h.most; omega, fun j hj i hik => ?_⟩
  have hj' : j < hi - lo := by simp at hj; omega
  rw [if_neg (by omega)]
  obtain ⟨b, o, rfl, hc⟩ := h.at_ (lo + j) (by omega) i hik
  refine ⟨b, o + lo * E.k, ?_, ?_⟩
  · rw [Option.map_some, Addr.add_lit]
  · rw [show o + lo * E.k + (j * E.k + i) = o + ((lo + j) * E.k + i) by rw [Nat.add_mul]; omega, hc]
    congr 2; simp
theorem rd_cells {α : Type} {E : Enc α} {w : World} {b o : Nat} {l : List α} (h : ∀ j (hj : j < l.length) i, i < E.k → w.cell? ⟨b, o + (j * E.k + i), none⟩ = (E.f l[j])[i]?) :
    ∀ j u, (rowOf E l)[j]? = some u → w.cell? ((⟨b, o, none⟩ : Addr).add j) = some u := by
  intro j u hj
  have hp := E.pos
  have hlt : j < l.length * E.k := by
    have := (List.getElem?_eq_some_iff.1 hj).1
    rwa [rowOf_length] at this
  have hq : j / E.k < l.length := (Nat.div_lt_iff_lt_mul hp).2 hlt
  have hr : j % E.k < E.k := Nat.mod_lt _ hp
  have e : j / E.k * E.k + j % E.k = j := by rw [Nat.mul_comm]; exact Nat.div_add_mod j E.k
  have h2 := rowOf_get E l (j / E.k) (j % E.k) hq hr
  rw [e] at h2
  have h3 := h (j / E.k) hq (j % E.k) hr
  rw [e] at h3
  rw [Addr.add_lit, h3, ← h2]; exact hj
/-- what append takes of it -/
theorem Rd.src {α : Type} {P : Program} {E : Enc α} {w : World} {a : Option Addr} {n c : Nat} {l : List α} (h : Rd E w a n c l) {tx e' : TypeId} (hk : P.underlying tx = some (.slice e')) : Src P E.k tx (.slice a n c) l.length (rowOf E l) w := by
  have hl := h.len
  by_cases h0 : 0 < n
  · obtain ⟨b, o, rfl, _, hc⟩ := h.addr h0
    subst hl
    exact Src.ofSlice w hk ⟨b, o, none⟩ l.length c (rowOf E l) (rowOf_length E l) (rd_cells hc) (rowOf_one E l)
  · have hn : n = 0 := by omega
    subst hn
    have : l = [] := List.eq_nil_of_length_eq_zero hl
    subst this
    cases a with
    | none => exact Src.ofNil w hk c
    | some a => exact Src.ofSlice w hk a 0 c [] (by simp) (fun j u hj => by simp at hj) (fun u hu => by cases hu)
/-- a literal that is appended -/
theorem src_lit {α : Type} {P : Program} {E : Enc α} {w : World} {tx e' : TypeId} (hk : P.underlying tx = some (.slice e')) (C : Array Value) (l : List α) (n : Nat) (hn : n = l.length) (hC : C.toList = rowOf E l) : Src P E.k tx (.slice (some ⟨w.heap.size, 0, none⟩) n n) l.length (rowOf E l) (w.alloc (.cells C E.e)) := by
  subst hn
  refine Src.ofSlice _ hk ⟨w.heap.size, 0, none⟩ l.length l.length (rowOf E l) (rowOf_length E l) ?_ (rowOf_one E l)
  intro j u hj
  rw [Addr.add_lit, World.cell?_alloc_mark, Nat.zero_add, ← Array.getElem?_toList, hC]; exact hj

/-- append onto a slice of the call's own, for the walk -/
theorem app_own {α : Type} {P : Program} {E : Enc α} {ops : Array Oper} {rest : List Oper} {o : Oper} {a : Act} {Q : Exit → Act → World → Prop} {W : World} (hgd : o.guard = none) (s x : Operand) (t tx : TypeId)
    (ho : o.op = .call { callee := .builtin .append, args := #[s, x], argTypes := #[t, tx] }) {i : TypeInfo} {z : Value} {bytes : Nat} (ht : P.underlying t = some (.slice E.e)) (hi : P.info? E.e = some i) (hz : i.zero = some z)
    (hsize : i.size = E.k) (hby : i.bytes = bytes) (hzc : z.cells.toList = E.f E.z) {base : Nat} {v xv : Value} {l news : List α} (hs : a.eval s = v) (hown : Own E W base v l) (hx : a.eval x = xv) (hsrc : Src P E.k tx xv news.length (rowOf E news) W)
    (h63 : l.length + news.length ≤ maxLen) (hbytes : (l.length + news.length) * bytes ≤ 140737488355328) (hbase : base ≤ W.heap.size)
    (h : ∀ v' w', Own E w' base v' (l ++ news) → W.grownBy w' v.ownBlock → (v'.ownBlock = v.ownBlock ∨ v'.ownBlock = some W.heap.size) → wpList P ops Q rest (a.put o.dst v') w') : wpList P ops Q (o :: rest) a W := by
  refine wpList_plain hgd fun K hK => ?_
  obtain ⟨v', w', hr, h2, h3, h4⟩ := run_append_Own (P := P) E W base t tx o.type i z bytes ht hi hz hsize hby hzc v l hown xv news hsrc h63 hbytes hbase
  unfold Oper.wp execOp
  simp only [ho, resolve, invoke, builtin, Sem.run_bind, Sem.run_pure, Result.andThen_ok, List.map_toArray, List.map_cons, List.map_nil, hs, hx, hr]
  exact hK _ _ (h v' w' h2 h3 h4)
theorem own_below {α : Type} {E : Enc α} {B base : Nat} {w0 w w' : World} {v : Value} {l : List α} (h : Below B w0 w) (hg : w.grownBy w' v.ownBlock) (hown : Own E w base v l) (hB : B ≤ w.heap.size) (hb : B ≤ base) : Below B w0 w' :=
  h.grown hg hB fun k hk => Nat.le_trans hb (hown.lt k hk).1

/-- bytes and texts -/
def byteE : Enc UInt8 := ⟨5, 1, fun c => [.int .u8 c.toNat], 0, fun _ => rfl, fun x v hv => by simp at hv; subst hv; rfl, by decide⟩
def strE : Enc (List UInt8) := ⟨9, 1, fun l => [.string (mk l)], [], fun _ => rfl, fun x v hv => by simp at hv; subst hv; rfl, by decide⟩
def intE : Enc Int := ⟨3, 1, fun n => [.int .i64 n], 0, fun _ => rfl, fun x v hv => by simp at hv; subst hv; rfl, by decide⟩
theorem rowOf_byte (l : List UInt8) : rowOf byteE l = u8s l := by
  induction l with
  | nil => rfl
  | cons c r ih => simp only [rowOf, List.flatMap_cons] at ih ⊢; rw [ih]; rfl
theorem rd_byte {w : World} {a : Option Addr} {n c : Nat} {l : List UInt8} (h : Rd byteE w a n c l) (h0 : 0 < n) : ∃ b o, a = some ⟨b, o, none⟩ ∧ ∀ j (hj : j < l.length), w.cell? ⟨b, o + j, none⟩ = some (.int .u8 l[j].toNat) := by
  obtain ⟨b, o, h1, _, h2⟩ := h.addr h0
  exact ⟨b, o, h1, fun j hj => by have := h2 j hj 0 (by decide); simpa [byteE] using this⟩
theorem rd_str {w : World} {a : Option Addr} {n c : Nat} {l : List (List UInt8)} (h : Rd strE w a n c l) (h0 : 0 < n) : ∃ b o, a = some ⟨b, o, none⟩ ∧ ∀ j (hj : j < l.length), w.cell? ⟨b, o + j, none⟩ = some (.string (mk l[j])) := by
  obtain ⟨b, o, h1, _, h2⟩ := h.addr h0
  exact ⟨b, o, h1, fun j hj => by have := h2 j hj 0 (by decide); simpa [strE] using this⟩
/-- 'string(b)' of a slice that is read -/
theorem rd_toStr {P : Program} {w : World} {a : Option Addr} {n c : Nat} {l : List UInt8} (h : Rd byteE w a n c l) (src dst : TypeId) (hs : P.underlying src = some (.slice 5)) (he : P.underlying 5 = some (.int .u8)) (hd : P.underlying dst = some .string) :
    (convert src dst (.slice a n c)).run P w = .ok (.string (mk l)) w := by
  by_cases h0 : 0 < n
  · obtain ⟨b, o, rfl, hc⟩ := rd_byte h h0
    exact run_str w src dst 5 hs he hd b o n c l h.len fun j hj => hc j hj
  · have hl := h.len
    have : l = [] := List.eq_nil_of_length_eq_zero (by omega)
    subst this
    have hn : n = 0 := by omega
    subst hn
    cases a with
    | none => exact run_convert_bytes_nil w src 5 hs he 0 c dst hd
    | some a => exact run_convert_bytes_back w src dst 5 a c [] hs he hd (fun j hj => by cases hj)
end Go.Proofs.YtojdjhicjhhblaaDoor
