/- Small lemmas about blocks of cells, bytes and lists; nothing of the program. -/
import Derived.WalkKit
import Derived.WalkSpells
import Derived.Lib.Hide
import Derived.Laws.IdiomStrings
import Derived.Lib.Strings
namespace Go.Proofs.Ytffdcfannnmjnaa
open Go.RowKit

def bs (s : ByteArray) : List UInt8 := s.data.toList
def mk (l : List UInt8) : ByteArray := ⟨l.toArray⟩
theorem bs_mk (l : List UInt8) : bs (mk l) = l := rfl
theorem mk_bs (s : ByteArray) : mk (bs s) = s := by cases s; rfl
@[go_sem] theorem size_mk (l : List UInt8) : (mk l).size = l.length := rfl
theorem length_bs (s : ByteArray) : (bs s).length = s.size := rfl
@[go_sem] theorem mk_get (l : List UInt8) (k : Nat) (h : k < (mk l).size) : (mk l)[k]'h = l[k]'h := rfl
@[go_sem] theorem mk_append (a b : List UInt8) : mk a ++ mk b = mk (a ++ b) := by
  have : (mk a ++ mk b).data = (mk (a ++ b)).data := by rw [ByteArray.data_append]; simp [mk]
  exact ByteArray.ext this
@[go_sem] theorem mk_toList (l : List UInt8) : (mk l).toList = l := by rw [ByteArray.toList_eq]; rfl
@[go_sem] theorem mk_extract (l : List UInt8) (a b : Nat) : (mk l).extract a b = mk ((l.drop a).take (b - a)) := Lib.extract_eq (mk l) a b
theorem mk_inj {a b : List UInt8} (h : mk a = mk b) : a = b := by have := congrArg bs h; simpa [bs_mk] using this

def u8 (c : UInt8) : Value := .int .u8 c.toNat
def u8s (l : List UInt8) : List Value := l.map u8
theorem u8s_length (l : List UInt8) : (u8s l).length = l.length := by simp [u8s]
theorem u8s_append (a b : List UInt8) : u8s (a ++ b) = u8s a ++ u8s b := by simp [u8s]

/-- block b is a row of cells C of type e, frozen in fz -/
def Blk (w : World) (b : Nat) (e : TypeId) (fz : Nat × Nat) (C : List Value) : Prop := w.heap[b]? = some (.cells ⟨C⟩ e fz)

theorem Blk.cell {w : World} {b : Nat} {e : TypeId} {fz : Nat × Nat} {C : List Value} (h : Blk w b e fz C) (j : Nat) : w.cell? ⟨b, j, none⟩ = C[j]? := by
  unfold Blk at h; simp [World.cell?, h]
theorem Blk.frozen {w : World} {b : Nat} {e : TypeId} {fz : Nat × Nat} {C : List Value} (h : Blk w b e fz C) (j : Nat) : w.frozen? ⟨b, j, none⟩ = (decide (fz.1 ≤ j) && decide (j < fz.2)) := by
  unfold Blk at h; simp [World.frozen?, h]
theorem Blk.set {w : World} {b : Nat} {e : TypeId} {fz : Nat × Nat} {C : List Value} (h : Blk w b e fz C) (j : Nat) (v : Value) : Blk (w.setCell ⟨b, j, none⟩ v) b e fz (C.set j v) := by
  unfold Blk at h ⊢; simp [World.setCell, Array.getElem?_modify, h]
theorem Blk.lt {w : World} {b : Nat} {e : TypeId} {fz : Nat × Nat} {C : List Value} (h : Blk w b e fz C) : b < w.heap.size := lt_of_block h
theorem Blk.drew {w : World} {b : Nat} {e : TypeId} {fz : Nat × Nat} {C : List Value} (h : Blk w b e fz C) : Blk w.drew b e fz C := h
theorem Blk.new (w : World) (e : TypeId) (fz : Nat × Nat) (C : Array Value) : Blk (w.alloc (.cells C e fz)) w.heap.size e fz C.toList := heap_alloc_new w _
theorem Blk.below {B : Nat} {w w' : World} {b : Nat} {e : TypeId} {fz : Nat × Nat} {C : List Value} (h : Blk w b e fz C) (hb : Below B w w') (hB : b < B) : Blk w' b e fz C := (hb.block b hB).trans h
theorem Blk.heapOld (w : World) (o : Obj) (b : Nat) {e : TypeId} {fz : Nat × Nat} {C : List Value} (h : Blk w b e fz C) : (w.alloc o).heap[b]? = w.heap[b]? := Below.heap_alloc w o b (lt_of_block h)
theorem Blk.alloc {w : World} {b : Nat} {e : TypeId} {fz : Nat × Nat} {C : List Value} (h : Blk w b e fz C) (o : Obj) : Blk (w.alloc o) b e fz C := (Blk.heapOld w o b h).trans h
theorem Blk.setOther {w : World} {b : Nat} {e : TypeId} {fz : Nat × Nat} {C : List Value} (h : Blk w b e fz C) {a : Addr} (ha : a.block ≠ b) (v : Value) : Blk (w.setCell a v) b e fz C := (Below.heap_setCell w a v b (Ne.symm ha)).trans h

theorem bytesRow_mk (l : List UInt8) (cap : Nat) : (bytesRow (mk l) cap).toList = u8s l ++ List.replicate (cap - l.length) (.int .u8 0) := by
  simp [bytesRow, u8s, mk, ByteArray.size, u8]
theorem bytesRow_size (l : List UInt8) (cap : Nat) : (bytesRow (mk l) cap).size = l.length + (cap - l.length) := by
  rw [← Array.length_toList, bytesRow_mk]; simp [u8s]
/-- 'string(b)' -/
theorem run_str {P : Program} (w : World) (src dst e : TypeId) (hs : P.underlying src = some (.slice e)) (he : P.underlying e = some (.int .u8)) (hd : P.underlying dst = some .string)
    (b o n cap : Nat) (l : List UInt8) (hn : l.length = n) (hc : ∀ j, (h : j < l.length) → w.cell? ⟨b, o + j, none⟩ = some (u8 l[j])) :
    (convert src dst (.slice (some ⟨b, o, none⟩) n cap)).run P w = .ok (.string (mk l)) w := by
  subst hn
  exact run_convert_bytes_back w src dst e ⟨b, o, none⟩ cap l hs he hd fun j hj => by rw [Addr.add_lit]; exact hc j hj

/-- a map that is done in place: place k is turned -/
theorem upd_step {α : Type} (l : List α) (f : α → α) (k : Nat) (h : k < l.length) : ((l.take k).map f ++ l.drop k).set k (f l[k]) = (l.take (k+1)).map f ++ l.drop (k+1) := by
  rw [List.set_append_right _ _ (by simp; omega)]
  have : k - (List.map f (List.take k l)).length = 0 := by simp; omega
  rw [this, List.drop_eq_getElem_cons h, List.set_cons_zero, List.take_succ_eq_append_getElem h, List.map_append, List.append_assoc]
  rfl
theorem upd_keep {α : Type} (l : List α) (f : α → α) (k : Nat) (h : k < l.length) (hf : f l[k] = l[k]) : (l.take k).map f ++ l.drop k = (l.take (k+1)).map f ++ l.drop (k+1) := by
  rw [← upd_step l f k h, hf]
  rw [List.set_append_right _ _ (by simp; omega)]
  have : k - (List.map f (List.take k l)).length = 0 := by simp; omega
  rw [this, List.drop_eq_getElem_cons h, List.set_cons_zero]
theorem upd_at {α : Type} (l : List α) (f : α → α) (k : Nat) (h : k < l.length) : ((l.take k).map f ++ l.drop k)[k]? = some l[k] := by
  rw [List.getElem?_append_right (by simp; omega)]
  have : k - (List.map f (List.take k l)).length = 0 := by simp; omega
  rw [this, List.drop_eq_getElem_cons h]; rfl

theorem ret_string {a b : ByteArray} (h : a = b) : Ending.returned (.string a) = .returned (.string b) := by rw [h]
theorem ret_int {k : IntKind} {a b : Int} (h : a = b) : Ending.returned (.int k a) = .returned (.int k b) := by rw [h]
theorem ret_bool {a b : Bool} (h : a = b) : Ending.returned (.bool a) = .returned (.bool b) := by rw [h]
end Go.Proofs.Ytffdcfannnmjnaa
