/- The verifier's kit on bytes: Same, Copy, Lent, Kept, Over. Texts of at most 2^47 bytes less 4096. -/
import Derived.Test.YthgnlbdolilklaaTypes
import Derived.Test.YthgnlbdolilklaaRd
import Derived.Deep.RegionWith
import Derived.Laws.MakeOwn
namespace Go.Proofs.Ythgnlbdolilklaa
open Go.RowKit

/-- the builtin copy into a row of one-cell elements -/
theorem copy_row {α : Type} {P : Program} {E : Enc α} (hk1 : E.k = 1) {ops : Array Oper} {rest : List Oper} {o : Oper} {a : Act} {Q : Exit → Act → World → Prop} {W : World} (hgd : o.guard = none) (d s : Operand) (dT sT : TypeId)
    (ho : o.op = .call { callee := .builtin .copy, args := #[d, s], argTypes := #[dT, sT] }) (hu : P.underlying dT = some (.slice E.e)) (hsz : (P.info? E.e).map (·.size) = some 1)
    {g off dLen dCap n c : Nat} {ao : Option Addr} {l : List α} {C : List Value} (hd : a.eval d = .slice (some ⟨g, off, none⟩) dLen dCap) (hs : a.eval s = .slice ao n c)
    (hB : Blk W g E.e (0, 0) C) (hr : Rd E W ao n c l) (hn : n ≤ dLen) (hfit : off + n ≤ C.length)
    (h : ∀ w', Blk w' g E.e (0, 0) (splice C off (rowOf E l)) → W.grownBy w' (some g) → wpList P ops Q rest (a.put o.dst (goInt n)) w') : wpList P ops Q (o :: rest) a W := by
  have hl := hr.len
  have hrl : (rowOf E l).length = n := by rw [rowOf_length, hk1, hl, Nat.mul_one]
  by_cases h0 : 0 < n
  · obtain ⟨b, o', rfl, _, hc⟩ := hr.addr h0
    refine wpList_copy_own hgd d s dT sT ho E.e hu hsz g off dLen dCap ⟨b, o', none⟩ n c hd hs ⟨C⟩ E.e hB (rowOf E l) (by rw [hrl]; exact (Nat.min_eq_left hn).symm) (rd_cells hc) (by rw [hrl]; exact hfit) (rowOf_one E l) ?_
    rw [hrl]
    refine h _ ?_ ⟨rfl, rfl, rfl, by simp, fun k _ hk => setRow_other W g k _ (fun e => hk (by rw [e]))⟩
    have := setRow_heap W g ⟨C⟩ (splice C off (rowOf E l)).toArray E.e _ hB
    unfold splice at this ⊢
    rw [hrl] at this ⊢
    exact this
  · have hn0 : n = 0 := by omega
    subst hn0
    have : l = [] := List.eq_nil_of_length_eq_zero hl
    subst this
    refine wpList_copy_nothing hgd d s dT sT ho E.e hu hsz _ _ dLen dCap 0 c hd hs (by simp) ?_
    refine h W ?_ ⟨rfl, rfl, rfl, Nat.le_refl _, fun _ _ _ => rfl⟩
    simpa [splice, rowOf] using hB
theorem madeCells_one (z : Value) (n : Nat) : (madeCells #[z] n).toList = List.replicate n z := toList_madeCells_one z n

theorem same_bytes {w : World} {a a' : Option Addr} {n c n' c' : Nat} {l l' : List UInt8} (h : Rd byteE w a n c l) (h' : Rd byteE w a' n' c' l') :
    Calls Try.prog 20 #[.slice a n c, .slice a' n' c'] w fun e w' => e = .returned (.bool (l == l')) ∧ w = w' := by
  have e1 := rd_toStr (P := Try.prog) h 33 9 Try.underlying33 Try.underlying5 Try.underlying9
  have e2 := rd_toStr (P := Try.prog) h' 33 9 Try.underlying33 Try.underlying5 Try.underlying9
  clear h h'
  go_enter Try.func20, Try.ntmps20
  go_wp2
  go_ret
  exact ⟨rfl, rfl⟩

theorem copy_bytes {w : World} {a : Option Addr} {n c : Nat} {l : List UInt8} (h : Rd byteE w a n c l) (hn : n ≤ 140737488355328) :
    Calls Try.prog 33 #[.slice a n c] w fun e w' => (∃ v, e = .returned v ∧ Own byteE w' w.heap.size v l) ∧ Below w.heap.size w w' := by
  obtain ⟨i0, hi, hz0, hz1, hz2⟩ := info_parts Try.info5
  have hl := h.len
  have hown := Own.made byteE w #[] [] 0 rfl rfl (by simp [maxLen])
  have hsrc := (h.ext ((Below.refl _ w).alloc (Nat.le_refl _) (.cells #[] 5))).src (P := Try.prog) Try.underlying33
  have hH := Lib.hid h; clear h
  go_enter Try.func33, Try.ntmps33
  go_wp2_with (at_builtin; refine app_own (E := byteE) rfl (.tmp 3) (.tmp 4) 33 33 rfl Try.underlying33 hi hz0 hz1 hz2 rfl rfl hown rfl hsrc ?c1 ?c2 ?c3 ?_)
  case c1 => simp [maxLen]; omega
  case c2 => simp; omega
  case c3 => simp
  intro v' w2 ho hg _
  obtain ⟨a', c', rfl⟩ := ho.shape
  go_wp2
  go_ret
  exact ⟨⟨_, rfl, by simpa using ho⟩, own_below ((Below.refl _ _).alloc (Nat.le_refl _) _) hg hown (by simp) (Nat.le_refl _)⟩

def x5 (c : UInt8) : UInt8 := c ^^^ 90
theorem x5_x5 (c : UInt8) : x5 (x5 c) = c := by unfold x5; rw [UInt8.xor_assoc]; simp
def x5s (l : List UInt8) : List UInt8 := l.map x5
theorem bits_x5 (c : UInt8) : bits BinOp.xor IntKind.u8 (c.toNat : Int) 90 = ((x5 c).toNat : Int) := by
  have k : ∀ n : Fin 256, bits BinOp.xor IntKind.u8 (n.val : Int) 90 = ((x5 (UInt8.ofNat n.val)).toNat : Int) := by decide +kernel
  have := k ⟨c.toNat, c.toNat_lt⟩
  simpa using this
theorem x5s_x5s (l : List UInt8) : x5s (x5s l) = l := by
  induction l with
  | nil => rfl
  | cons c r ih => simp only [x5s, List.map_cons] at ih ⊢; rw [x5_x5, ih]
theorem x5s_length (l : List UInt8) : (x5s l).length = l.length := by simp [x5s]

theorem over_step {w : World} {b : Nat} {fz : Nat × Nat} {C1 C2 : List Value} {X : List UInt8} {o k : Nat} (hO : C1.length = o) (hk : k < X.length) (h : Blk w b 5 fz (C1 ++ u8s ((X.take k).map x5 ++ X.drop k) ++ C2)) :
    Blk (w.setCell ⟨b, o + k, none⟩ (.int .u8 (x5 X[k]).toNat)) b 5 fz (C1 ++ u8s ((X.take (k+1)).map x5 ++ X.drop (k+1)) ++ C2) := by
  have hst := h.set (o + k) (u8 (x5 X[k]))
  have e : (C1 ++ u8s ((X.take k).map x5 ++ X.drop k) ++ C2).set (o + k) (u8 (x5 X[k])) = C1 ++ u8s ((X.take (k+1)).map x5 ++ X.drop (k+1)) ++ C2 := by
    rw [← upd_step X x5 k hk, List.append_assoc, List.set_append_right _ _ (by rw [hO]; omega), hO, show o + k - o = k by omega, List.set_append_left _ _ (by simp [u8s]; omega), u8s, u8s, List.map_set, List.append_assoc]
  rw [e] at hst
  exact hst

set_option maxHeartbeats 2000000 in
set_option maxRecDepth 100000 in
/-- all is written over, the room too: a slice at place o of the block b, whose bytes are X from o on -/
theorem over_bytes {w : World} {b o n c : Nat} {fz : Nat × Nat} {C1 C2 : List Value} {X : List UInt8} (hB : Blk w b 5 fz (C1 ++ u8s X ++ C2)) (ho : C1.length = o) (hX : X.length = c) (_hn : n ≤ c) (hc : c ≤ 9223372036854775807)
    (hf : ∀ j, j < c → ¬ (fz.1 ≤ o + j ∧ o + j < fz.2)) :
    Calls Try.prog 46 #[.slice (some ⟨b, o, none⟩) n c] w fun e w' => e = .returned (.tuple #[]) ∧ Blk w' b 5 fz (C1 ++ u8s (x5s X) ++ C2) ∧ w.grownBy w' (some b) := by
  have hO := Lib.hid ho; clear ho
  have hXl := Lib.hid hX; clear hX
  have hH := Lib.hid hB; clear hB
  have hF := Lib.hid hf; clear hf
  go_enter Try.func46, Try.ntmps46
  go_wp2_with fail
  go_loopw [3] (fun i wr => ∃ k : Nat, k ≤ c ∧ i = .int .i64 k ∧ Blk wr b 5 fz (C1 ++ u8s ((X.take k).map x5 ++ X.drop k) ++ C2) ∧ w.grownBy wr (some b))
    (fun i _ => c - (intOf i).toNat)
  case atStart => exact ⟨0, Nat.zero_le _, rfl, by simpa using hH.out, ⟨rfl, rfl, rfl, Nat.le_refl _, fun _ _ _ => rfl⟩⟩
  case round =>
    obtain ⟨k, hk, rfl, hB, hg⟩ := hrel
    by_cases hlt : k < c
    · have hkl : k < X.length := by rw [hXl.out]; exact hlt
      have hcell : wr.cell? ⟨b, o + k, none⟩ = some (.int .u8 X[k].toNat) := by
        rw [hB.cell, List.append_assoc, List.getElem?_append_right (by rw [hO.out]; omega), hO.out, show o + k - o = k by omega, List.getElem?_append_left (by simp [u8s]; omega), u8s, List.getElem?_map, upd_at _ _ _ hkl]; rfl
      have hfr : wr.frozen? ⟨b, o + k, none⟩ = false := by
        rw [hB.frozen]; have := hF.out k hlt; simp; omega
      have hB' := Lib.hid hB; clear hB
      go_wp2_with fail
      rw [bits_x5]
      go_roundw
      case rel =>
        refine ⟨k + 1, by omega, by go_num, ?_, ⟨hg.os, hg.tape, hg.output, by have := hg.size; simpa using this, fun i hi hne => (Below.heap_setCell _ _ _ i (fun e => hne (by rw [e]))).trans (hg.block i hi hne)⟩⟩
        exact over_step hO.out hkl hB'.out
      case measure => simp [intOf]; omega
    · have hk' : k = c := by omega
      have hB' : Blk wr b 5 fz (C1 ++ u8s (x5s X) ++ C2) := by
        have := hB
        rw [hk', ← hXl.out, List.take_length, List.drop_length, List.append_nil] at this
        exact this
      have hS := Lib.hid hB'; clear hB hB' hk'
      go_wp2_with fail
      go_end0
      exact ⟨rfl, hS.out, hg⟩
/-- a slice without room -/
theorem over_none {w : World} (a : Option Addr) : Calls Try.prog 46 #[.slice a 0 0] w fun e w' => e = .returned (.tuple #[]) ∧ w = w' := by
  go_enter Try.func46, Try.ntmps46
  go_wp2_with fail
  refine wp_loop_rounds 1 ?_
  rw [rounds_succ]
  go_wp2_with fail
  go_end0
  exact ⟨rfl, rfl⟩
end Go.Proofs.Ythgnlbdolilklaa
