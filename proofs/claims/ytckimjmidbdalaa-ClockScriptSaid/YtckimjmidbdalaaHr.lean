/- Layer 22: container/heap over the timers: Push, Pop, as calls on a clock's block. -/
import Derived.Test.YtckimjmidbdalaaHq
import Derived.Test.YtckimjmidbdalaaHd
namespace Go.Proofs.Ytckimjmidbdalaa
open Go.RowKit
/-- only block c, the block o and new ones may be other than they were -/
structure Tn (w w' : World) (c : Nat) (o : Option Nat) : Prop where
  os : w'.os = w.os
  tape : w'.tape = w.tape
  output : w'.output = w.output
  size : w.heap.size ≤ w'.heap.size
  block : ∀ k, k < w.heap.size → k ≠ c → o ≠ some k → w'.heap[k]? = w.heap[k]?
theorem Tn.refl (w : World) (c : Nat) (o : Option Nat) : Tn w w c o := ⟨rfl, rfl, rfl, Nat.le_refl _, fun _ _ _ _ => rfl⟩
theorem Tn.trans {w w1 w2 : World} {c : Nat} {o o1 : Option Nat} (h : Tn w w1 c o) (k : Tn w1 w2 c o1) (ho : o1 = o ∨ ∃ j, o1 = some j ∧ w.heap.size ≤ j) : Tn w w2 c o :=
  ⟨k.os.trans h.os, k.tape.trans h.tape, k.output.trans h.output, Nat.le_trans h.size k.size, fun i hi hc hne =>
    (k.block i (Nat.lt_of_lt_of_le hi h.size) hc (by rcases ho with rfl | ⟨j, rfl, hj⟩
                                                     · exact hne
                                                     · simp; omega)).trans (h.block i hi hc hne)⟩
theorem Tn.of_grown {w w' : World} {c : Nat} {o : Option Nat} (h : w.grownBy w' o) : Tn w w' c o := ⟨h.os, h.tape, h.output, h.size, fun k hk _ hne => h.block k hk (fun e => hne e.symm)⟩
theorem Tn.of_grown_c {w w' : World} {c : Nat} {o : Option Nat} (h : w.grownBy w' (some c)) : Tn w w' c o := ⟨h.os, h.tape, h.output, h.size, fun k hk hc _ => h.block k hk (fun e => hc (by cases e; rfl))⟩
theorem Tn.alloc {w : World} {c : Nat} {o : Option Nat} (x : Obj) : Tn w (w.alloc x) c o := ⟨rfl, rfl, rfl, by simp, fun k hk _ _ => Below.heap_alloc w x k hk⟩
theorem Tn.drewN {w w' : World} {c : Nat} {o : Option Nat} (h : Tn w w' c o) (n : Nat) : Tn w (w'.drewN n) c o := ⟨h.os, h.tape, h.output, h.size, h.block⟩
theorem Tn.below {w0 w w' : World} {B c : Nat} {o : Option Nat} (h : Below B w0 w) (k : Tn w w' c o) (hB : B ≤ w.heap.size) (hc : B ≤ c) (ho : ∀ j, o = some j → B ≤ j) : Below B w0 w' :=
  ⟨k.os.trans h.os, k.tape.trans h.tape, k.output.trans h.output, Nat.le_trans h.size k.size, fun i hi => (k.block i (by omega) (by omega) (fun e => by have := ho i e; omega)).trans (h.block i hi)⟩
/-- block c is a clock whose timers lie as the heap l -/
structure HO (w : World) (c : Nat) (n T v b : Value) (l : List Tm) : Prop where
  blk : Blk w c 58 (0, 0) [n, T, v, b]
  own : Own timerE w (c + 1) v l
theorem HO.lt {w : World} {c : Nat} {n T v b : Value} {l : List Tm} (h : HO w c n T v b l) : c < w.heap.size := h.blk.lt
theorem HO.ne {w : World} {c : Nat} {n T v b : Value} {l : List Tm} (h : HO w c n T v b l) : v.ownBlock ≠ some c := fun e => by have := (h.own.lt c e).1; omega
theorem HO.drewN {w : World} {c : Nat} {n T v b : Value} {l : List Tm} (h : HO w c n T v b l) (k : Nat) : HO (w.drewN k) c n T v b l := ⟨h.blk, h.own.keep fun _ _ => rfl⟩
theorem HO.cell {w : World} {c : Nat} {n T v b : Value} {l : List Tm} (h : HO w c n T v b l) : w.cell? ⟨c, 0, none⟩ = some n ∧ w.cell? ⟨c, 1, none⟩ = some T ∧ w.cell? ⟨c, 2, none⟩ = some v ∧ w.cell? ⟨c, 3, none⟩ = some b := by
  refine ⟨?_, ?_, ?_, ?_⟩ <;> rw [h.blk.cell] <;> rfl
theorem HO.unfrozen {w : World} {c : Nat} {n T v b : Value} {l : List Tm} (h : HO w c n T v b l) (j : Nat) : w.frozen? ⟨c, j, none⟩ = false := by rw [h.blk.frozen]; simp
theorem HO.keep {w w' : World} {c : Nat} {n T v b : Value} {l : List Tm} (h : HO w c n T v b l) (h1 : w'.heap[c]? = w.heap[c]?) (h2 : ∀ k, v.ownBlock = some k → w'.heap[k]? = w.heap[k]?) : HO w' c n T v b l := ⟨h1.trans h.blk, h.own.keep h2⟩
theorem own_tl {w : World} {base : Nat} {v : Value} {l : List Tm} (h : Own timerE w base v l) (h0 : 0 < l.length) : ∃ g cap, v = .slice (some ⟨g, 0, none⟩) l.length cap ∧ base ≤ g ∧ TL w g cap l := by
  rcases h with ⟨_, rfl⟩ | ⟨g, cap, X, rfl, h2, h3, h4, h5, h6, h7⟩
  · simp at h0
  · exact ⟨g, cap, rfl, h2, X, h3, h4, h5, h6, h7⟩
theorem tl_own {w : World} {base g cap : Nat} {l : List Tm} (h : TL w g cap l) (hb : base ≤ g) : Own timerE w base (.slice (some ⟨g, 0, none⟩) l.length cap) l := by
  obtain ⟨X, h3, h4, h5, h6, h7⟩ := h
  exact .inr ⟨g, cap, X, rfl, hb, h3, h4, h5, h6, h7⟩
theorem len_any {w : World} {a : Option Addr} {n c : Nat} : Calls Try.prog 56 #[.slice a n c] w fun e w' => e = .returned (.int .i64 n) ∧ w = w' := by
  go_enter Try.func56, Try.ntmps56
  go_wp2
  go_ret
  exact ⟨rfl, rfl⟩
theorem up_i {w : World} {c g cap : Nat} {l : List Tm} (h : HP w c g cap l) (j : Nat) (hj : j < l.length) {p : Int} (ep : p = j) :
    Calls Try.prog 36 #[.iface 69 (.pointer (some ⟨c, 2, none⟩)), .int .i64 p] w fun e w' => e = .returned (.tuple #[]) ∧ HP w' c g cap (upL l j) ∧ w.grownBy w' (some g) := by
  subst ep; exact up_any h j hj
set_option maxHeartbeats 2000000 in
set_option maxRecDepth 100000 in
theorem hpush_any {w : World} {c : Nat} {n T v b : Value} {l : List Tm} (h : HO w c n T v b l) (t : Tm) (hm : l.length ≤ 1073741824) :
    Calls Try.prog 28 #[ifc c, tmV t] w fun e w' => e = .returned (.tuple #[]) ∧ ∃ v', HO w' c n T v' b (pushL l t) ∧ Tn w w' c v.ownBlock ∧ (v'.ownBlock = v.ownBlock ∨ ∃ k, v'.ownBlock = some k ∧ w.heap.size ≤ k) := by
  obtain ⟨_, _, hc, _⟩ := h.cell
  have hf := h.unfrozen 2
  have hH := Lib.hid h
  clear h
  have hmp := fun w => m_push ⟨c, 2, none⟩ w
  unfold ifc tmV
  go_enter Try.func28, Try.ntmps28
  go_wp2_with fail
  refine (tpush_any hc hf hH.out.own (by have := hH.out.lt; omega) hH.out.ne t hm).mono ?_
  rintro e w1 ⟨rfl, v', w2, rfl, ho2, hg2, hv2⟩
  obtain ⟨g, cap, rfl, hbg, hT⟩ := own_tl ho2 (by simp)
  have hB2 : Blk (w2.setCell ⟨c, 2, none⟩ (.slice (some ⟨g, 0, none⟩) (l ++ [t]).length cap)) c 58 (0, 0) [n, T, .slice (some ⟨g, 0, none⟩) (l ++ [t]).length cap, b] :=
    Blk.set (show Blk w2 c 58 (0, 0) [n, T, v, b] from (hg2.block c (by have := hH.out.lt; simp; omega) (fun e => hH.out.ne e.symm)).trans (hH.out.blk.alloc _)) 2 _
  have hP : HP (w2.setCell ⟨c, 2, none⟩ (.slice (some ⟨g, 0, none⟩) (l ++ [t]).length cap)) c g cap (l ++ [t]) :=
    ⟨by rw [hB2.cell]; rfl, hT.same (Below.heap_setCell _ _ _ _ (by simp; omega)), by omega⟩
  have hTn : Tn w (w2.setCell ⟨c, 2, none⟩ (.slice (some ⟨g, 0, none⟩) (l ++ [t]).length cap)) c v.ownBlock :=
    ⟨by rw [show (w2.setCell ⟨c, 2, none⟩ (.slice (some ⟨g, 0, none⟩) (l ++ [t]).length cap)).os = w2.os from rfl, hg2.os]; rfl, by rw [show (w2.setCell ⟨c, 2, none⟩ (.slice (some ⟨g, 0, none⟩) (l ++ [t]).length cap)).tape = w2.tape from rfl, hg2.tape]; rfl, by rw [show (w2.setCell ⟨c, 2, none⟩ (.slice (some ⟨g, 0, none⟩) (l ++ [t]).length cap)).output = w2.output from rfl, hg2.output]; rfl,
      by have := hg2.size; simp at this ⊢; omega, fun k hk h1 h2 => (Below.heap_setCell _ _ _ _ h1).trans ((hg2.block k (by simp; omega) (fun e => h2 e.symm)).trans (Below.heap_alloc w _ k hk))⟩
  generalize hW3 : w2.setCell ⟨c, 2, none⟩ (.slice (some ⟨g, 0, none⟩) (l ++ [t]).length cap) = w3 at *
  have hcw := hP.cell
  have hml := m_len ⟨c, 2, none⟩ w3 _ hcw
  have hPP := Lib.hid hP
  have hBB := Lib.hid hB2
  have hTT := Lib.hid hTn
  have hvv := Lib.hid hv2
  clear hW3 hP hB2 hTn hT ho2 hg2 hv2
  have hlen0 : (l ++ [t]).length = l.length + 1 := by simp
  have hpu : pushL l t = upL (l ++ [t]) l.length := rfl
  generalize l ++ [t] = l1 at *
  have hpp := Lib.hid hpu
  clear hpu
  have hl1 : 0 < l1.length := by omega
  have hl2 : l1.length ≤ 1073741825 := by omega
  have hl3 : Hid (l1.length = l.length + 1) := Lib.hid hlen0
  clear hlen0
  go_wp2_with (first | (go_at_call 56; refine len_any.mono ?_; rintro e w4 ⟨rfl, rfl⟩) | (go_at_call 36; refine (up_i hPP.out l.length (by have := hl3.out; omega) (by have := hl3.out; omega)).mono ?_; rintro e w5 ⟨rfl, hP5, hg5⟩))
  go_end0
  have hl4 : (upL l1 l.length).length = l1.length := upL_length _ _
  rw [hpp.out]
  refine ⟨rfl, .slice (some ⟨g, 0, none⟩) (upL l1 l.length).length cap, ⟨?_, tl_own hP5.tl hbg⟩, hTT.out.trans (Tn.of_grown hg5) ?_, ?_⟩
  · rw [hl4]; exact (hg5.block c hBB.out.lt (by simp; omega)).trans hBB.out
  · rcases hvv.out with e | e
    · left; rw [← e]; rfl
    · right; simp [Value.ownBlock] at e; exact ⟨g, rfl, by omega⟩
  · rw [hl4]
    rcases hvv.out with e | e
    · left; exact e
    · right; exact ⟨w.heap.size + 1, e, by omega⟩
set_option maxHeartbeats 2000000 in
set_option maxRecDepth 100000 in
theorem tpop_any {w : World} {c : Nat} {n T b : Value} {g cap : Nat} {l : List Tm} (h : HO w c n T (.slice (some ⟨g, 0, none⟩) l.length cap) b l) (h0 : 0 < l.length) (hm : l.length ≤ 1073741824) :
    Calls Try.prog 59 #[.pointer (some ⟨c, 2, none⟩)] w fun e w' => e = .returned (tmV (gt l (l.length - 1))) ∧ HO w' c n T (.slice (some ⟨g, 0, none⟩) (l.take (l.length - 1)).length cap) b (l.take (l.length - 1)) ∧ Tn w w' c (some g) := by
  obtain ⟨_, _, hc, _⟩ := h.cell
  have hf := h.unfrozen 2
  obtain ⟨g', cap', e, hbg, hT⟩ := own_tl h.own h0
  cases e
  obtain ⟨q1, q2, q3⟩ := hT.cells (l.length - 1) (by omega)
  have hH := Lib.hid h
  unfold tmV
  generalize gt l (l.length - 1) = t at *
  clear h hT
  obtain ⟨m, hm1⟩ : ∃ m, l.length = m + 1 := ⟨l.length - 1, by omega⟩
  have hml := Lib.hid hm1
  have hcap : m + 1 ≤ cap := by
    rcases hH.out.own with ⟨e, _⟩ | ⟨_, _, _, e, _, _, _, h5, _⟩
    · cases e
    · cases e; omega
  have hclt := hH.out.lt
  rw [hm1] at hc q1 q2 q3 hm ⊢
  simp only [Nat.add_sub_cancel] at q1 q2 q3 ⊢
  clear hm1 h0
  have hblk : (w.alloc (.cells #[.int .i64 t.at_, .int .i64 t.turn, .int .i64 t.key] 71)).heap[c]? = w.heap[c]? := Below.heap_alloc w _ c hclt
  have hc1 : (w.alloc (.cells #[.int .i64 t.at_, .int .i64 t.turn, .int .i64 t.key] 71)).cell? ⟨c, 2, none⟩ = some (.slice (some ⟨g, 0, none⟩) (m + 1) cap) := (World.cell?_of_block (w := w) hblk).trans hc
  have hf1 : (w.alloc (.cells #[.int .i64 t.at_, .int .i64 t.turn, .int .i64 t.key] 71)).frozen? ⟨c, 2, none⟩ = false := (frozen_of_block (w := w) hblk).trans hf
  have hnB : Blk ((w.alloc (.cells #[.int .i64 t.at_, .int .i64 t.turn, .int .i64 t.key] 71)).setCell ⟨c, 2, none⟩ (.slice (some ⟨g, 0, none⟩) m cap)) w.heap.size 71 (0, 0) [.int .i64 t.at_, .int .i64 t.turn, .int .i64 t.key] :=
    (Blk.new w 71 (0, 0) #[.int .i64 t.at_, .int .i64 t.turn, .int .i64 t.key]).setOther (a := ⟨c, 2, none⟩) (by simp; omega) _
  have n0 := hnB.cell 0
  have n1 := hnB.cell 1
  have n2 := hnB.cell 2
  simp only [List.getElem?_cons_zero, List.getElem?_cons_succ] at n0 n1 n2
  have hR : HO ((w.setCell ⟨c, 2, none⟩ (.slice (some ⟨g, 0, none⟩) m cap)).alloc (.cells #[.int .i64 t.at_, .int .i64 t.turn, .int .i64 t.key] 71)) c n T (.slice (some ⟨g, 0, none⟩) m cap) b (l.take m) := by
    refine ⟨(hH.out.blk.set 2 _).alloc _, ?_⟩
    rcases hH.out.own with ⟨e, _⟩ | ⟨_, _, X, e, h2, h3, h4, h5, h6, h7⟩
    · cases e
    · cases e
      have hl := hml.out
      refine .inr ⟨g, cap, X, by simp; omega, h2, ?_, h4, by simp; omega, h6, ?_⟩
      · exact (h3.setOther (a := ⟨c, 2, none⟩) (by simp; omega) _).alloc _
      · rw [List.length_take, hl, show min m (m + 1) = m by omega, ← h7, List.take_take, hl]; congr 1; omega
  have hRR := Lib.hid hR
  clear hR hblk hnB
  have hG : Tn w ((w.setCell ⟨c, 2, none⟩ (.slice (some ⟨g, 0, none⟩) m cap)).alloc (.cells #[.int .i64 t.at_, .int .i64 t.turn, .int .i64 t.key] 71)) c (some g) :=
    (Tn.of_grown_c (grown_set _ _ _ _)).trans (Tn.alloc _) (.inl rfl)
  have hGG := Lib.hid hG
  clear hG
  have htk : Hid ((l.take m).length = m) := Lib.hid (by rw [List.length_take, hml.out]; omega)
  rw [htk.out]
  go_enter Try.func59, Try.ntmps59
  go_wp2_with fail
  go_ret
  exact ⟨rfl, hRR.out, hGG.out⟩
end Go.Proofs.Ytckimjmidbdalaa
