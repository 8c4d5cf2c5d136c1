/- The verifier's kit on bytes: Same, Copy, Lent, Kept, Over. Texts of at most 2^47 bytes less 4096. -/
import Derived.Test.YthdnbipfdahnlaaTypes
import Derived.Test.YthdnbipfdahnlaaRd
import Derived.Deep.RegionWith
import Derived.Laws.MakeOwn
namespace Go.Proofs.Ythdnbipfdahnlaa
open Go.RowKit

/-- the builtin copy into a row of one-cell elements -/
theorem copy_row {α : Type} {P : Program} {E : Enc α} (hk1 : E.k = 1) {ops : Array Oper} {rest : List Oper} {o : Oper} {a : Act} {Q : Exit → Act → World → Prop} {W : World} (hgd : o.guard = none) (d s : Operand) (dT sT : TypeId)
    (ho : o.op = .call { callee := .builtin .copy, args := #[d, s], argTypes := #[dT, sT] }) (hu : P.underlying dT = some (.slice E.e)) (hsz : (P.info? E.e).map (·.size) = some 1)
    {g off dLen dCap n c : Nat} {ao : Option Addr} {l : List α} {C : List Value} (hd : a.eval d = .slice (some ⟨g, off, none⟩) dLen dCap) (hs : a.eval s = .slice ao n c)
    (hB : Blk W g E.e (0, 0) C) (hr : Rd E W ao n c l) (hn : n ≤ dLen) (hfit : off + n ≤ C.length)
    (h : ∀ w', Blk w' g E.e (0, 0) (splice C off (rowOf E l)) → W.grownBy w' (some g) → wpList P ops Q rest (a.put o.dst (goInt n)) w') : wpList P ops Q (o :: rest) a W := by
  have hl := hr.len
  have hrl : (rowOf E l).length = n := by rw [rowOf_length, hk1, hl, Nat.mul_one]
  by_cases h0 : 0 < n
  · obtain ⟨b, o', rfl, _, hc⟩ := hr.addr h0
    refine wpList_copy_own hgd d s dT sT ho E.e hu hsz g off dLen dCap ⟨b, o', none⟩ n c hd hs ⟨C⟩ E.e hB (rowOf E l) (by rw [hrl]; exact (Nat.min_eq_left hn).symm) (rd_cells hc) (by rw [hrl]; exact hfit) (rowOf_one E l) ?_
    rw [hrl]
    refine h _ ?_ ⟨rfl, rfl, rfl, by simp, fun k _ hk => setRow_other W g k _ (fun e => hk (by rw [e]))⟩
    have := setRow_heap W g ⟨C⟩ (splice C off (rowOf E l)).toArray E.e _ hB
    unfold splice at this ⊢
    rw [hrl] at this ⊢
    exact this
  · have hn0 : n = 0 := by omega
    subst hn0
    have : l = [] := List.eq_nil_of_length_eq_zero hl
    subst this
    refine wpList_copy_nothing hgd d s dT sT ho E.e hu hsz _ _ dLen dCap 0 c hd hs (by simp) ?_
    refine h W ?_ ⟨rfl, rfl, rfl, Nat.le_refl _, fun _ _ _ => rfl⟩
    simpa [splice, rowOf] using hB
theorem madeCells_one (z : Value) (n : Nat) : (madeCells #[z] n).toList = List.replicate n z := toList_madeCells_one z n

theorem same_bytes {w : World} {a a' : Option Addr} {n c n' c' : Nat} {l l' : List UInt8} (h : Rd byteE w a n c l) (h' : Rd byteE w a' n' c' l') :
    Calls Try.prog 41 #[.slice a n c, .slice a' n' c'] w fun e w' => e = .returned (.bool (l == l')) ∧ w = w' := by
  have e1 := rd_toStr (P := Try.prog) h 30 9 Try.underlying30 Try.underlying5 Try.underlying9
  have e2 := rd_toStr (P := Try.prog) h' 30 9 Try.underlying30 Try.underlying5 Try.underlying9
  clear h h'
  go_enter Try.func41, Try.ntmps41
  go_wp2
  go_ret
  exact ⟨rfl, rfl⟩

def lentM (i : Nat) : UInt8 := UInt8.ofNat (160 + i % 90)
def lentL (l : List UInt8) : List UInt8 := l ++ [lentM l.length, lentM (l.length + 1), lentM (l.length + 2)]
theorem lentL_length (l : List UInt8) : (lentL l).length = l.length + 3 := by simp [lentL]
/-- what is laid behind round by round -/
def lentK (l : List UInt8) (k : Nat) : List UInt8 := l ++ ([lentM l.length, lentM (l.length + 1), lentM (l.length + 2)].take k) ++ List.replicate (3 - k) 0
theorem lentK_zero (l : List UInt8) : lentK l 0 = l ++ List.replicate 3 0 := by simp [lentK]
theorem lentK_three (l : List UInt8) : lentK l 3 = lentL l := by simp [lentK, lentL]
theorem lentK_step (l : List UInt8) (k : Nat) (hk : k < 3) : (lentK l k).set (l.length + k) (lentM (l.length + k)) = lentK l (k + 1) := by
  unfold lentK
  match k, hk with
  | 0, _ => simp
  | 1, _ => simp
  | 2, _ => simp

set_option maxHeartbeats 2000000 in
set_option maxRecDepth 100000 in
theorem lent_bytes {w : World} {a : Option Addr} {n c : Nat} {l : List UInt8} (h : Rd byteE w a n c l) (hn : n ≤ 140737488351232) :
    Calls Try.prog 30 #[.slice a n c] w fun e w' => e = .returned (.slice (some ⟨w.heap.size, 0, none⟩) n (n + 3)) ∧ Blk w' w.heap.size 5 (0, 0) (u8s (lentL l)) ∧ Below w.heap.size w w' := by
  obtain ⟨i0, hi, hz0, hz1, hz2⟩ := info_parts Try.info5
  have hl := h.len
  have hmk : ∀ u : World, (Instr.makeSlice 30 (.int .i64 ((n : Int) + 3)) (.int .i64 ((n : Int) + 3))).run Try.prog u =
      .ok (.slice (some ⟨u.heap.size, 0, none⟩) (n + 3) (n + 3)) (u.alloc (.cells (madeCells #[.int .u8 0] (n + 3)) 5)) := fun u => by
    have h := run_make (P := Try.prog) u 30 5 i0 (.int .u8 0) Try.underlying30 hi hz0 .i64 .i64 ((n : Int) + 3) ((n : Int) + 3) (by omega) (Int.le_refl _) (by rw [hz2]; omega) (by omega)
    have e : ((n : Int) + 3).toNat = n + 3 := by omega
    rw [e] at h
    simpa [hz1, Value.cells] using h
  have hH := Lib.hid h; clear h
  go_enter Try.func30, Try.ntmps30
  have hN := Lib.hid hl; clear hl
  have hB0 : Blk (w.alloc (.cells (madeCells #[.int .u8 0] (n + 3)) 5)) w.heap.size 5 (0, 0) (List.replicate (n + 3) (.int .u8 0)) := by
    rw [← madeCells_one]; exact Blk.new w 5 (0, 0) _
  have hB0' := Lib.hid hB0; clear hB0
  have hr0 := Lib.hid (hH.out.ext ((Below.refl _ w).alloc (Nat.le_refl _) (.cells (madeCells #[.int .u8 0] (n + 3)) 5)))
  have hsz1 : (Try.prog.info? byteE.e).map (·.size) = some 1 := by kernel_rfl
  go_wp2_with (refine copy_row (o := ⟨some 11, _, _, _, _, _⟩) (E := byteE) rfl rfl (.tmp 9) (.tmp 10) 30 30 rfl Try.underlying30 hsz1 rfl rfl hB0'.out hr0.out ?c1 ?c2 ?_)
  case c1 => omega
  case c2 => simp
  intro w1 hB1 hg1
  have hb1 : Below w.heap.size w w1 := ((Below.refl _ w).alloc (Nat.le_refl _) _).grown hg1 (by simp) (fun k hk => by cases hk; exact Nat.le_refl _)
  have hB1' : Blk w1 w.heap.size 5 (0, 0) (u8s (lentK l 0)) := by
    have e : splice (List.replicate (n + 3) (Value.int .u8 0)) 0 (rowOf byteE l) = u8s (lentK l 0) := by
      rw [lentK_zero, rowOf_byte, u8s_append]
      unfold splice
      rw [u8s_length, hN.out]
      simp [u8s, u8]
    rw [← e]; exact hB1
  have hS := Lib.hid hB1'; clear hB1 hB1' hg1 hmk
  go_wp2_with fail
  go_loopw [4] (fun i wr => ∃ k : Nat, k ≤ 3 ∧ i = .int .i64 ((n : Int) + k) ∧ Blk wr w.heap.size 5 (0, 0) (u8s (lentK l k)) ∧ Below w.heap.size w wr)
    (fun i _ => n + 3 - (intOf i).toNat)
  case atStart => exact ⟨0, by omega, by simp, hS.out, hb1⟩
  case round =>
    obtain ⟨k, hk, rfl, hB, hb⟩ := hrel
    by_cases h3 : k < 3
    · have hc : (wr.cell? ⟨w.heap.size, n + k, none⟩).isSome = true := by
        rw [hB.cell, List.getElem?_eq_getElem (by rw [u8s_length]; have := hN.out; simp [lentK]; omega)]; rfl
      obtain ⟨v0, hv0⟩ := Option.isSome_iff_exists.1 hc
      have hf : wr.frozen? ⟨w.heap.size, n + k, none⟩ = false := by rw [hB.frozen]; simp
      have hst := hB.set (n + k) (u8 (lentM (n + k)))
      have hB' := Lib.hid hB; clear hB hc
      have e1 : ((n : Int) + (k : Int)).toNat = n + k := by omega
      have e2 : ((lentM (n + k)).toNat : Int) = 160 + ((n : Int) + k) % 90 := by
        unfold lentM; simp; omega
      unfold u8 at hst
      rw [e2] at hst
      have hst' : Hid (Blk (wr.setCell ⟨w.heap.size, n + k, none⟩ (.int .u8 (160 + ((n : Int) + k) % 90))) w.heap.size 5 (0, 0) (u8s (lentK l (k + 1)))) := by
        have e3 : (u8s (lentK l k)).set (n + k) (.int .u8 (160 + ((n : Int) + k) % 90)) = u8s (lentK l (k + 1)) := by
          rw [← lentK_step l k h3, hN.out, u8s, u8s, List.map_set, u8, e2]
        rw [← e3]; exact hst
      clear hst e2
      go_wp2_with fail
      go_roundw
      case rel => exact ⟨k + 1, by omega, by go_num, hst'.out, hb.setCell (Nat.le_refl _) _⟩
      case measure => simp [intOf]; omega
    · have hk3 : k = 3 := by omega
      subst hk3
      rw [lentK_three] at hB
      have hB' := Lib.hid hB; clear hB
      go_wp2_with fail
      go_ret
      exact ⟨rfl, hB'.out, hb⟩

def x5 (c : UInt8) : UInt8 := c ^^^ 90
theorem x5_x5 (c : UInt8) : x5 (x5 c) = c := by unfold x5; rw [UInt8.xor_assoc]; simp
def x5s (l : List UInt8) : List UInt8 := l.map x5
theorem bits_x5 (c : UInt8) : bits BinOp.xor IntKind.u8 (c.toNat : Int) 90 = ((x5 c).toNat : Int) := by
  have k : ∀ n : Fin 256, bits BinOp.xor IntKind.u8 (n.val : Int) 90 = ((x5 (UInt8.ofNat n.val)).toNat : Int) := by decide +kernel
  have := k ⟨c.toNat, c.toNat_lt⟩
  simpa using this
theorem x5s_x5s (l : List UInt8) : x5s (x5s l) = l := by
  induction l with
  | nil => rfl
  | cons c r ih => simp only [x5s, List.map_cons] at ih ⊢; rw [x5_x5, ih]
theorem x5s_length (l : List UInt8) : (x5s l).length = l.length := by simp [x5s]

theorem over_step {w : World} {b : Nat} {fz : Nat × Nat} {C1 C2 : List Value} {X : List UInt8} {o k : Nat} (hO : C1.length = o) (hk : k < X.length) (h : Blk w b 5 fz (C1 ++ u8s ((X.take k).map x5 ++ X.drop k) ++ C2)) :
    Blk (w.setCell ⟨b, o + k, none⟩ (.int .u8 (x5 X[k]).toNat)) b 5 fz (C1 ++ u8s ((X.take (k+1)).map x5 ++ X.drop (k+1)) ++ C2) := by
  have hst := h.set (o + k) (u8 (x5 X[k]))
  have e : (C1 ++ u8s ((X.take k).map x5 ++ X.drop k) ++ C2).set (o + k) (u8 (x5 X[k])) = C1 ++ u8s ((X.take (k+1)).map x5 ++ X.drop (k+1)) ++ C2 := by
    rw [← upd_step X x5 k hk, List.append_assoc, List.set_append_right _ _ (by rw [hO]; omega), hO, show o + k - o = k by omega, List.set_append_left _ _ (by simp [u8s]; omega), u8s, u8s, List.map_set, List.append_assoc]
  rw [e] at hst
  exact hst

set_option maxHeartbeats 2000000 in
set_option maxRecDepth 100000 in
/-- all is written over, the room too: a slice at place o of the block b, whose bytes are X from o on -/
theorem over_bytes {w : World} {b o n c : Nat} {fz : Nat × Nat} {C1 C2 : List Value} {X : List UInt8} (hB : Blk w b 5 fz (C1 ++ u8s X ++ C2)) (ho : C1.length = o) (hX : X.length = c) (_hn : n ≤ c) (hc : c ≤ 9223372036854775807)
    (hf : ∀ j, j < c → ¬ (fz.1 ≤ o + j ∧ o + j < fz.2)) :
    Calls Try.prog 34 #[.slice (some ⟨b, o, none⟩) n c] w fun e w' => e = .returned (.tuple #[]) ∧ Blk w' b 5 fz (C1 ++ u8s (x5s X) ++ C2) ∧ w.grownBy w' (some b) := by
  have hO := Lib.hid ho; clear ho
  have hXl := Lib.hid hX; clear hX
  have hH := Lib.hid hB; clear hB
  have hF := Lib.hid hf; clear hf
  go_enter Try.func34, Try.ntmps34
  go_wp2_with fail
  go_loopw [3] (fun i wr => ∃ k : Nat, k ≤ c ∧ i = .int .i64 k ∧ Blk wr b 5 fz (C1 ++ u8s ((X.take k).map x5 ++ X.drop k) ++ C2) ∧ w.grownBy wr (some b))
    (fun i _ => c - (intOf i).toNat)
  case atStart => exact ⟨0, Nat.zero_le _, rfl, by simpa using hH.out, ⟨rfl, rfl, rfl, Nat.le_refl _, fun _ _ _ => rfl⟩⟩
  case round =>
    obtain ⟨k, hk, rfl, hB, hg⟩ := hrel
    by_cases hlt : k < c
    · have hkl : k < X.length := by rw [hXl.out]; exact hlt
      have hcell : wr.cell? ⟨b, o + k, none⟩ = some (.int .u8 X[k].toNat) := by
        rw [hB.cell, List.append_assoc, List.getElem?_append_right (by rw [hO.out]; omega), hO.out, show o + k - o = k by omega, List.getElem?_append_left (by simp [u8s]; omega), u8s, List.getElem?_map, upd_at _ _ _ hkl]; rfl
      have hfr : wr.frozen? ⟨b, o + k, none⟩ = false := by
        rw [hB.frozen]; have := hF.out k hlt; simp; omega
      have hB' := Lib.hid hB; clear hB
      go_wp2_with fail
      rw [bits_x5]
      go_roundw
      case rel =>
        refine ⟨k + 1, by omega, by go_num, ?_, ⟨hg.os, hg.tape, hg.output, by have := hg.size; simpa using this, fun i hi hne => (Below.heap_setCell _ _ _ i (fun e => hne (by rw [e]))).trans (hg.block i hi hne)⟩⟩
        exact over_step hO.out hkl hB'.out
      case measure => simp [intOf]; omega
    · have hk' : k = c := by omega
      have hB' : Blk wr b 5 fz (C1 ++ u8s (x5s X) ++ C2) := by
        have := hB
        rw [hk', ← hXl.out, List.take_length, List.drop_length, List.append_nil] at this
        exact this
      have hS := Lib.hid hB'; clear hB hB' hk'
      go_wp2_with fail
      go_end0
      exact ⟨rfl, hS.out, hg⟩
/-- a slice without room -/
theorem over_none {w : World} (a : Option Addr) : Calls Try.prog 34 #[.slice a 0 0] w fun e w' => e = .returned (.tuple #[]) ∧ w = w' := by
  go_enter Try.func34, Try.ntmps34
  go_wp2_with fail
  refine wp_loop_rounds 1 ?_
  rw [rounds_succ]
  go_wp2_with fail
  go_end0
  exact ⟨rfl, rfl⟩
end Go.Proofs.Ythdnbipfdahnlaa
