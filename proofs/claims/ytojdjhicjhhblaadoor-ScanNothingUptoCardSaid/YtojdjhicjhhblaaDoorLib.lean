/- Small lemmas about blocks of cells, bytes and lists; nothing of the program. -/
import Derived.WalkKit
import Derived.WalkSpells
import Derived.Lib.Hide
import Derived.Laws.IdiomStrings
import Derived.Lib.Strings
import Derived.Laws.BytesArg
namespace Go.Proofs.YtojdjhicjhhblaaDoor
open Go.RowKit

def bs (s : ByteArray) : List UInt8 := s.data.toList
def mk (l : List UInt8) : ByteArray := ⟨l.toArray⟩
theorem bs_mk (l : List UInt8) : bs (mk l) = l := rfl
theorem mk_bs (s : ByteArray) : mk (bs s) = s := by cases s; rfl
@[go_sem] theorem size_mk (l : List UInt8) : (mk l).size = l.length := rfl
theorem length_bs (s : ByteArray) : (bs s).length = s.size := rfl
@[go_sem] theorem mk_get (l : List UInt8) (k : Nat) (h : k < (mk l).size) : (mk l)[k]'h = l[k]'(size_mk l ▸ h) := rfl
@[go_sem] theorem mk_append (a b : List UInt8) : mk a ++ mk b = mk (a ++ b) := by
  have : (mk a ++ mk b).data = (mk (a ++ b)).data := by rw [ByteArray.data_append]; simp [mk]
  exact ByteArray.ext this
@[go_sem] theorem mk_toList (l : List UInt8) : (mk l).toList = l := by rw [ByteArray.toList_eq]; rfl
@[go_sem] theorem mk_extract (l : List UInt8) (a b : Nat) : (mk l).extract a b = mk ((l.drop a).take (b - a)) := Lib.extract_eq (mk l) a b
@[go_sem] theorem take_drop_all {α : Type} (l : List α) (k : Nat) : (l.drop k).take (l.length - k) = l.drop k := List.take_of_length_le (by simp)
theorem mk_inj {a b : List UInt8} (h : mk a = mk b) : a = b := by have := congrArg bs h; simpa [bs_mk] using this

def u8 (c : UInt8) : Value := .int .u8 c.toNat
def u8s (l : List UInt8) : List Value := l.map u8
theorem u8s_length (l : List UInt8) : (u8s l).length = l.length := by simp [u8s]
theorem u8s_append (a b : List UInt8) : u8s (a ++ b) = u8s a ++ u8s b := by simp [u8s]

/-- block b is a row of cells C of type e, frozen in fz -/
def Blk (w : World) (b : Nat) (e : TypeId) (fz : Nat × Nat) (C : List Value) : Prop := w.heap[b]? = some (.cells ⟨C⟩ e fz)

theorem Blk.cell {w : World} {b : Nat} {e : TypeId} {fz : Nat × Nat} {C : List Value} (h : Blk w b e fz C) (j : Nat) : w.cell? ⟨b, j, none⟩ = C[j]? := by
  unfold Blk at h; simp [World.cell?, h]
theorem Blk.frozen {w : World} {b : Nat} {e : TypeId} {fz : Nat × Nat} {C : List Value} (h : Blk w b e fz C) (j : Nat) : w.frozen? ⟨b, j, none⟩ = (decide (fz.1 ≤ j) && decide (j < fz.2)) := by
  unfold Blk at h; simp [World.frozen?, h]
theorem Blk.set {w : World} {b : Nat} {e : TypeId} {fz : Nat × Nat} {C : List Value} (h : Blk w b e fz C) (j : Nat) (v : Value) : Blk (w.setCell ⟨b, j, none⟩ v) b e fz (C.set j v) := by
  unfold Blk at h ⊢; simp [World.setCell, Array.getElem?_modify, h]
theorem Blk.lt {w : World} {b : Nat} {e : TypeId} {fz : Nat × Nat} {C : List Value} (h : Blk w b e fz C) : b < w.heap.size := lt_of_block h
theorem Blk.drew {w : World} {b : Nat} {e : TypeId} {fz : Nat × Nat} {C : List Value} (h : Blk w b e fz C) : Blk w.drew b e fz C := h
theorem Blk.new (w : World) (e : TypeId) (fz : Nat × Nat) (C : Array Value) : Blk (w.alloc (.cells C e fz)) w.heap.size e fz C.toList := heap_alloc_new w _
theorem Blk.below {B : Nat} {w w' : World} {b : Nat} {e : TypeId} {fz : Nat × Nat} {C : List Value} (h : Blk w b e fz C) (hb : Below B w w') (hB : b < B) : Blk w' b e fz C := (hb.block b hB).trans h
theorem Blk.heapOld (w : World) (o : Obj) (b : Nat) {e : TypeId} {fz : Nat × Nat} {C : List Value} (h : Blk w b e fz C) : (w.alloc o).heap[b]? = w.heap[b]? := Below.heap_alloc w o b (lt_of_block h)
theorem Blk.alloc {w : World} {b : Nat} {e : TypeId} {fz : Nat × Nat} {C : List Value} (h : Blk w b e fz C) (o : Obj) : Blk (w.alloc o) b e fz C := (Blk.heapOld w o b h).trans h
theorem Blk.setOther {w : World} {b : Nat} {e : TypeId} {fz : Nat × Nat} {C : List Value} (h : Blk w b e fz C) {a : Addr} (ha : a.block ≠ b) (v : Value) : Blk (w.setCell a v) b e fz C := (Below.heap_setCell w a v b (Ne.symm ha)).trans h

theorem bytesRow_mk (l : List UInt8) (cap : Nat) : (bytesRow (mk l) cap).toList = u8s l ++ List.replicate (cap - l.length) (.int .u8 0) := by
  simp [bytesRow, u8s, mk, ByteArray.size, u8]
theorem bytesRow_size (l : List UInt8) (cap : Nat) : (bytesRow (mk l) cap).size = l.length + (cap - l.length) := by
  rw [← Array.length_toList, bytesRow_mk]; simp [u8s]
/-- 'string(b)' -/
theorem run_str {P : Program} (w : World) (src dst e : TypeId) (hs : P.underlying src = some (.slice e)) (he : P.underlying e = some (.int .u8)) (hd : P.underlying dst = some .string)
    (b o n cap : Nat) (l : List UInt8) (hn : l.length = n) (hc : ∀ j, (h : j < l.length) → w.cell? ⟨b, o + j, none⟩ = some (u8 l[j])) :
    (convert src dst (.slice (some ⟨b, o, none⟩) n cap)).run P w = .ok (.string (mk l)) w := by
  subst hn
  exact run_convert_bytes_back w src dst e ⟨b, o, none⟩ cap l hs he hd fun j hj => by rw [Addr.add_lit]; exact hc j hj

/-- a map that is done in place: place k is turned -/
theorem upd_step {α : Type} (l : List α) (f : α → α) (k : Nat) (h : k < l.length) : ((l.take k).map f ++ l.drop k).set k (f l[k]) = (l.take (k+1)).map f ++ l.drop (k+1) := by
  rw [List.set_append_right _ _ (by simp; omega)]
  have : k - (List.map f (List.take k l)).length = 0 := by simp; omega
  rw [this, List.drop_eq_getElem_cons h, List.set_cons_zero, List.take_succ_eq_append_getElem h, List.map_append, List.append_assoc]
  rfl
theorem upd_keep {α : Type} (l : List α) (f : α → α) (k : Nat) (h : k < l.length) (hf : f l[k] = l[k]) : (l.take k).map f ++ l.drop k = (l.take (k+1)).map f ++ l.drop (k+1) := by
  rw [← upd_step l f k h, hf]
  rw [List.set_append_right _ _ (by simp; omega)]
  have : k - (List.map f (List.take k l)).length = 0 := by simp; omega
  rw [this, List.drop_eq_getElem_cons h, List.set_cons_zero]
theorem upd_at {α : Type} (l : List α) (f : α → α) (k : Nat) (h : k < l.length) : ((l.take k).map f ++ l.drop k)[k]? = some l[k] := by
  rw [List.getElem?_append_right (by simp; omega)]
  have : k - (List.map f (List.take k l)).length = 0 := by simp; omega
  rw [this, List.drop_eq_getElem_cons h]; rfl

theorem ownsRow_ext {w w' : World} {base : Nat} {e : TypeId} {size : Nat} {v : Value} {n : Nat} {xs : List Value} (h : w.ownsRow base e size v n xs) (hb : Below w.heap.size w w') : w'.ownsRow base e size v n xs :=
  h.kept (row := none) ⟨hb.os, hb.tape, hb.output, hb.size, fun k hk _ => hb.block k hk⟩ (by cases hv : v.ownBlock <;> simp)
theorem u8s_oneCell (l : List UInt8) : ∀ u ∈ u8s l, u.oneCell' = true := by
  intro u hu; simp [u8s] at hu; obtain ⟨c, _, rfl⟩ := hu; rfl
/-- the one cell of a new block -/
theorem new_one (w : World) (v : Value) (e : TypeId) (fz : Nat × Nat) : ∀ j u, [v][j]? = some u → (w.alloc (.cells #[v] e fz)).cell? ((⟨w.heap.size, 0, none⟩ : Addr).add j) = some u := by
  intro j u hj
  match j, hj with
  | 0, hj => simp at hj; subst hj; rw [Addr.add_lit, World.cell?_alloc_mark]; rfl
/-- what an owned value looks like -/
theorem ownsRow_shape {w : World} {base : Nat} {e : TypeId} {size : Nat} {v : Value} {n : Nat} {xs : List Value} (h : w.ownsRow base e size v n xs) : ∃ a cap, v = .slice a n cap := by
  rcases h.2 with ⟨rfl, rfl⟩ | ⟨g, cap, cur, rfl, _⟩
  · exact ⟨_, _, rfl⟩
  · exact ⟨_, _, rfl⟩
/-- 'string(out)' of an owned row of bytes -/
theorem run_str_own {P : Program} (w : World) (src dst e : TypeId) (hs : P.underlying src = some (.slice e)) (he : P.underlying e = some (.int .u8)) (hd : P.underlying dst = some .string)
    {base n : Nat} {v : Value} {l : List UInt8} (h : w.ownsRow base e 1 v n (u8s l)) : (convert src dst v).run P w = .ok (.string (mk l)) w := by
  have hn : l.length = n := by have := h.1; simpa [u8s] using this
  rcases h.2 with ⟨rfl, h0⟩ | ⟨g, cap, cur, rfl, hg, hh, _, _, _, ht⟩
  · have : l = [] := List.eq_nil_of_length_eq_zero (by omega)
    subst this
    exact run_convert_bytes_nil w src e hs he 0 0 dst hd
  · refine run_str w src dst e hs he hd g 0 n cap l hn fun j hj => ?_
    have h1 : w.cell? ⟨g, 0 + j, none⟩ = cur.toList[j]? := by simp [World.cell?, hh]
    rw [h1]
    have h2 : (u8s l)[j]? = some (u8 l[j]) := by simp [u8s, hj]
    rw [← ht, List.getElem?_take] at h2
    split at h2
    · exact h2
    · cases h2

theorem grown_alloc {w w' : World} {row : Option Nat} (o : Obj) (h : (w.alloc o).grownBy w' row) : w.grownBy w' row :=
  ⟨h.os, h.tape, h.output, by have := h.size; simp at this; omega, fun k hk hne => (h.block k (by simp; omega) hne).trans (Below.heap_alloc w o k hk)⟩
theorem below_app {B base : Nat} {w0 w w' : World} {e : TypeId} {size : Nat} {v : Value} {n : Nat} {xs : List Value} (h : Below B w0 w) (hg : w.grownBy w' v.ownBlock) (hown : w.ownsRow base e size v n xs) (hB : B ≤ w.heap.size) (hb : B ≤ base) : Below B w0 w' :=
  h.grown hg hB fun k hk => Nat.le_trans hb (hown.lt k hk).1

/-- below block B all is as it was, but for block b -/
structure Ex (B b : Nat) (w w' : World) : Prop where
  os : w'.os = w.os
  tape : w'.tape = w.tape
  output : w'.output = w.output
  size : w.heap.size ≤ w'.heap.size
  block : ∀ k, k < B → k ≠ b → w'.heap[k]? = w.heap[k]?
theorem Ex.refl (B b : Nat) (w : World) : Ex B b w w := ⟨rfl, rfl, rfl, Nat.le_refl _, fun _ _ _ => rfl⟩
theorem Ex.trans {B b : Nat} {u v w : World} (h : Ex B b u v) (k : Ex B b v w) : Ex B b u w :=
  ⟨k.os.trans h.os, k.tape.trans h.tape, k.output.trans h.output, Nat.le_trans h.size k.size, fun i hi hb => (k.block i hi hb).trans (h.block i hi hb)⟩
theorem Ex.mono {B B' b : Nat} {u v : World} (h : Ex B b u v) (hB : B' ≤ B) : Ex B' b u v := ⟨h.os, h.tape, h.output, h.size, fun i hi hb => h.block i (Nat.lt_of_lt_of_le hi hB) hb⟩
theorem Ex.of_below {B b : Nat} {u v : World} (h : Below B u v) : Ex B b u v := ⟨h.os, h.tape, h.output, h.size, fun i hi _ => h.block i hi⟩
theorem Ex.below {B b B' : Nat} {u v : World} (h : Ex B b u v) (h1 : B' ≤ B) (h2 : B' ≤ b) : Below B' u v := ⟨h.os, h.tape, h.output, h.size, fun i hi => h.block i (by omega) (by omega)⟩
theorem Ex.alloc {B b : Nat} {u v : World} (h : Ex B b u v) (hB : B ≤ v.heap.size) (o : Obj) : Ex B b u (v.alloc o) := h.trans (Ex.of_below ((Below.refl B v).alloc hB o))
theorem Ex.drew {B b : Nat} {u v : World} (h : Ex B b u v) : Ex B b u v.drew := ⟨h.os, h.tape, h.output, h.size, h.block⟩
theorem Ex.setCell {B b : Nat} {u v : World} (h : Ex B b u v) {p : Addr} (hp : p.block = b ∨ B ≤ p.block) (x : Value) : Ex B b u (v.setCell p x) :=
  h.trans ⟨rfl, rfl, rfl, by simp [World.setCell], fun k hk hb => Below.heap_setCell _ _ _ _ (by omega)⟩
theorem Ex.grown {B b : Nat} {u v w : World} {row : Option Nat} (h : Ex B b u v) (hg : v.grownBy w row) (hB : B ≤ v.heap.size) (hr : ∀ k, row = some k → B ≤ k ∨ k = b) : Ex B b u w :=
  h.trans ⟨hg.os, hg.tape, hg.output, hg.size, fun k hk hb => hg.block k (by omega) (fun e => by have := hr k e.symm; omega)⟩
theorem Ex.blk {B b : Nat} {w w' : World} {k : Nat} {e : TypeId} {fz : Nat × Nat} {C : List Value} (h : Ex B b w w') (hk : Blk w k e fz C) (h1 : k < B) (h2 : k ≠ b) : Blk w' k e fz C := (h.block k h1 h2).trans hk
theorem ownsRow_mono {w : World} {base base' : Nat} {e : TypeId} {size : Nat} {v : Value} {n : Nat} {xs : List Value} (h : w.ownsRow base e size v n xs) (hb : base' ≤ base) : w.ownsRow base' e size v n xs := by
  refine ⟨h.1, ?_⟩
  rcases h.2 with h2 | ⟨g, cap, cur, hv, hg, r⟩
  · exact .inl h2
  · exact .inr ⟨g, cap, cur, hv, by omega, r⟩

theorem ret_string {a b : ByteArray} (h : a = b) : Ending.returned (.string a) = .returned (.string b) := by rw [h]
theorem ret_int {k : IntKind} {a b : Int} (h : a = b) : Ending.returned (.int k a) = .returned (.int k b) := by rw [h]
theorem ret_bool {a b : Bool} (h : a = b) : Ending.returned (.bool a) = .returned (.bool b) := by rw [h]
end Go.Proofs.YtojdjhicjhhblaaDoor
