/- The element types of this translation, and append onto a slice of the call's own. The verifier's kit on bytes: Same, Copy, Lent, Kept, Over. Texts of at most 2^47 bytes less 4096. The verifier's kit on bytes: Kept. Cuts of slices, under one name each. Nothing of the program. -/
import Derived.Test.YthgnlbdolilklaaProg
import Derived.Test.YthgnlbdolilklaaLib
import Derived.Test.YthgnlbdolilklaaJn1
import Derived.Deep.RegionWith
import Derived.Laws.MakeOwn
import Derived.Deep.RegionHeld3
namespace Go.Proofs.Ythgnlbdolilklaa
open Go.RowKit
theorem Try.info5 : (Try.prog.info? 5).map (fun i => (i.zero, i.size, i.bytes)) = some (some (.int .u8 0), 1, 1) := by kernel_rfl
theorem Try.info9 : (Try.prog.info? 9).map (fun i => (i.zero, i.size, i.bytes)) = some (some (.string ⟨#[]⟩), 1, 16) := by kernel_rfl
end Go.Proofs.Ythgnlbdolilklaa
namespace Go.Proofs.Ythgnlbdolilklaa
open Go.RowKit

theorem same_bytes {w : World} {a a' : Option Addr} {n c n' c' : Nat} {l l' : List UInt8} (h : Rd byteE w a n c l) (h' : Rd byteE w a' n' c' l') :
    Calls Try.prog 20 #[.slice a n c, .slice a' n' c'] w fun e w' => e = .returned (.bool (l == l')) ∧ w = w' := by
  have e1 := rd_toStr (P := Try.prog) h 33 9 Try.underlying33 Try.underlying5 Try.underlying9
  have e2 := rd_toStr (P := Try.prog) h' 33 9 Try.underlying33 Try.underlying5 Try.underlying9
  clear h h'
  go_enter Try.func20, Try.ntmps20
  go_wp2
  go_ret
  exact ⟨rfl, rfl⟩

theorem copy_bytes {w : World} {a : Option Addr} {n c : Nat} {l : List UInt8} (h : Rd byteE w a n c l) (hn : n ≤ 140737488355328) :
    Calls Try.prog 33 #[.slice a n c] w fun e w' => (∃ v, e = .returned v ∧ Own byteE w' w.heap.size v l) ∧ Below w.heap.size w w' := by
  obtain ⟨i0, hi, hz0, hz1, hz2⟩ := info_parts Try.info5
  have hl := h.len
  have hown := Own.made byteE w #[] [] 0 rfl rfl (by simp [maxLen])
  have hsrc := (h.ext ((Below.refl _ w).alloc (Nat.le_refl _) (.cells #[] 5))).src (P := Try.prog) Try.underlying33
  have hH := Lib.hid h; clear h
  go_enter Try.func33, Try.ntmps33
  go_wp2_with (at_builtin; refine app_own (E := byteE) rfl (.tmp 3) (.tmp 4) 33 33 rfl Try.underlying33 hi hz0 hz1 hz2 rfl rfl hown rfl hsrc ?c1 ?c2 ?c3 ?_)
  case c1 => simp [maxLen]; omega
  case c2 => simp; omega
  case c3 => simp
  intro v' w2 ho hg _
  obtain ⟨a', c', rfl⟩ := ho.shape
  go_wp2
  go_ret
  exact ⟨⟨_, rfl, by simpa using ho⟩, own_below ((Below.refl _ _).alloc (Nat.le_refl _) _) hg hown (by simp) (Nat.le_refl _)⟩

def x5 (c : UInt8) : UInt8 := c ^^^ 90
def x5s (l : List UInt8) : List UInt8 := l.map x5
theorem bits_x5 (c : UInt8) : bits BinOp.xor IntKind.u8 (c.toNat : Int) 90 = ((x5 c).toNat : Int) := by
  have k : ∀ n : Fin 256, bits BinOp.xor IntKind.u8 (n.val : Int) 90 = ((x5 (UInt8.ofNat n.val)).toNat : Int) := by decide +kernel
  have := k ⟨c.toNat, c.toNat_lt⟩
  simpa using this
theorem over_step {w : World} {b : Nat} {fz : Nat × Nat} {C1 C2 : List Value} {X : List UInt8} {o k : Nat} (hO : C1.length = o) (hk : k < X.length) (h : Blk w b 5 fz (C1 ++ u8s ((X.take k).map x5 ++ X.drop k) ++ C2)) :
    Blk (w.setCell ⟨b, o + k, none⟩ (.int .u8 (x5 X[k]).toNat)) b 5 fz (C1 ++ u8s ((X.take (k+1)).map x5 ++ X.drop (k+1)) ++ C2) := by
  have hst := h.set (o + k) (u8 (x5 X[k]))
  have e : (C1 ++ u8s ((X.take k).map x5 ++ X.drop k) ++ C2).set (o + k) (u8 (x5 X[k])) = C1 ++ u8s ((X.take (k+1)).map x5 ++ X.drop (k+1)) ++ C2 := by
    rw [← upd_step X x5 k hk, List.append_assoc, List.set_append_right _ _ (by rw [hO]; omega), hO, show o + k - o = k by omega, List.set_append_left _ _ (by simp [u8s]; omega), u8s, u8s, List.map_set, List.append_assoc]
  rw [e] at hst
  exact hst

set_option maxHeartbeats 2000000 in
set_option maxRecDepth 100000 in
/-- all is written over, the room too: a slice at place o of the block b, whose bytes are X from o on -/
theorem over_bytes {w : World} {b o n c : Nat} {fz : Nat × Nat} {C1 C2 : List Value} {X : List UInt8} (hB : Blk w b 5 fz (C1 ++ u8s X ++ C2)) (ho : C1.length = o) (hX : X.length = c) (_hn : n ≤ c) (hc : c ≤ 9223372036854775807)
    (hf : ∀ j, j < c → ¬ (fz.1 ≤ o + j ∧ o + j < fz.2)) :
    Calls Try.prog 46 #[.slice (some ⟨b, o, none⟩) n c] w fun e w' => e = .returned (.tuple #[]) ∧ Blk w' b 5 fz (C1 ++ u8s (x5s X) ++ C2) ∧ w.grownBy w' (some b) := by
  have hO := Lib.hid ho; clear ho
  have hXl := Lib.hid hX; clear hX
  have hH := Lib.hid hB; clear hB
  have hF := Lib.hid hf; clear hf
  go_enter Try.func46, Try.ntmps46
  go_wp2_with fail
  go_loopw [3] (fun i wr => ∃ k : Nat, k ≤ c ∧ i = .int .i64 k ∧ Blk wr b 5 fz (C1 ++ u8s ((X.take k).map x5 ++ X.drop k) ++ C2) ∧ w.grownBy wr (some b))
    (fun i _ => c - (intOf i).toNat)
  case atStart => exact ⟨0, Nat.zero_le _, rfl, by simpa using hH.out, ⟨rfl, rfl, rfl, Nat.le_refl _, fun _ _ _ => rfl⟩⟩
  case round =>
    obtain ⟨k, hk, rfl, hB, hg⟩ := hrel
    by_cases hlt : k < c
    · have hkl : k < X.length := by rw [hXl.out]; exact hlt
      have hcell : wr.cell? ⟨b, o + k, none⟩ = some (.int .u8 X[k].toNat) := by
        rw [hB.cell, List.append_assoc, List.getElem?_append_right (by rw [hO.out]; omega), hO.out, show o + k - o = k by omega, List.getElem?_append_left (by simp [u8s]; omega), u8s, List.getElem?_map, upd_at _ _ _ hkl]; rfl
      have hfr : wr.frozen? ⟨b, o + k, none⟩ = false := by
        rw [hB.frozen]; have := hF.out k hlt; simp; omega
      have hB' := Lib.hid hB; clear hB
      go_wp2_with fail
      rw [bits_x5]
      go_roundw
      case rel =>
        refine ⟨k + 1, by omega, by go_num, ?_, ⟨hg.os, hg.tape, hg.output, by have := hg.size; simpa using this, fun i hi hne => (Below.heap_setCell _ _ _ i (fun e => hne (by rw [e]))).trans (hg.block i hi hne)⟩⟩
        exact over_step hO.out hkl hB'.out
      case measure => simp [intOf]; omega
    · have hk' : k = c := by omega
      have hB' : Blk wr b 5 fz (C1 ++ u8s (x5s X) ++ C2) := by
        have := hB
        rw [hk', ← hXl.out, List.take_length, List.drop_length, List.append_nil] at this
        exact this
      have hS := Lib.hid hB'; clear hB hB' hk'
      go_wp2_with fail
      go_end0
      exact ⟨rfl, hS.out, hg⟩
/-- a slice without room -/
theorem over_none {w : World} (a : Option Addr) : Calls Try.prog 46 #[.slice a 0 0] w fun e w' => e = .returned (.tuple #[]) ∧ w = w' := by
  go_enter Try.func46, Try.ntmps46
  go_wp2_with fail
  refine wp_loop_rounds 1 ?_
  rw [rounds_succ]
  go_wp2_with fail
  go_end0
  exact ⟨rfl, rfl⟩
end Go.Proofs.Ythgnlbdolilklaa
namespace Go.Proofs.Ythgnlbdolilklaa
open Go.RowKit
theorem rd_blk {α : Type} {E : Enc α} {w : World} {g : Nat} {fz : Nat × Nat} {X : List α} (h : Blk w g E.e fz (rowOf E X)) (n : Nat) (hn : n = X.length) (hm : n ≤ maxLen) : Rd E w (some ⟨g, 0, none⟩) n n X := by
  subst hn
  refine ⟨rfl, Nat.le_refl _, hm, fun j hj i hi => ⟨g, 0, rfl, ?_⟩⟩
  rw [h.cell, Nat.zero_add, rowOf_get E X j i hj hi]
end Go.Proofs.Ythgnlbdolilklaa
namespace Go.Proofs.Ythgnlbdolilklaa
open Go.RowKit
theorem run_sizeOf_info {P : Program} {e k : Nat} (h : (P.info? e).map (·.size) = some k) (u : World) : (sizeOf e).run P u = .ok k u := by
  obtain ⟨i, hi, hk⟩ := Option.map_eq_some_iff.1 h
  simp [sizeOf, typeInfo, hi, hk]
theorem elem_of {P : Program} {t e : TypeId} (ht : P.underlying t = some (.slice e)) : P.elem t = e := by simp [Program.elem, ht]
/-- s[lo:hi] -/
theorem cut_lh {α : Type} {P : Program} {E : Enc α} {w : World} {a : Option Addr} {n c : Nat} {l : List α} (h : Rd E w a n c l) (t : TypeId) (ht : P.underlying t = some (.slice E.e)) (hs : (P.info? E.e).map (·.size) = some E.k)
    (kl kh : IntKind) (lo hi : Int) (lo' hi' : Nat) (e1 : lo = lo') (e2 : hi = hi') (h1 : lo' ≤ hi') (h2 : hi' ≤ n) :
    ∃ a', (∀ u, (Instr.slice t (.slice a n c) (some (.int kl lo)) (some (.int kh hi)) none).run P u = .ok (.slice a' (hi' - lo') (c - lo')) u) ∧ Rd E w a' (hi' - lo') (c - lo') ((l.take hi').drop lo') := by
  subst e1 e2
  have hc := h.cap
  refine ⟨_, fun u => ?_, h.cut lo' hi' c h1 h2 (by omega) (Nat.le_refl _)⟩
  have ee := elem_of ht
  rw [run_slice_lh u t a n c (by rw [ee]; exact ht) kl kh lo' hi' (by omega) (by omega) (by omega), ee, run_sizeOf_info hs]
  simp [Result.andThen, sliced]
/-- s[lo:] -/
theorem cut_l {α : Type} {P : Program} {E : Enc α} {w : World} {a : Option Addr} {n c : Nat} {l : List α} (h : Rd E w a n c l) (t : TypeId) (ht : P.underlying t = some (.slice E.e)) (hs : (P.info? E.e).map (·.size) = some E.k)
    (kl : IntKind) (lo : Int) (lo' : Nat) (e1 : lo = lo') (h1 : lo' ≤ n) :
    ∃ a', (∀ u, (Instr.slice t (.slice a n c) (some (.int kl lo)) none none).run P u = .ok (.slice a' (n - lo') (c - lo')) u) ∧ Rd E w a' (n - lo') (c - lo') (l.drop lo') := by
  subst e1
  have hc := h.cap
  have hl := h.len
  have hcut := h.cut lo' n c h1 (Nat.le_refl _) hc (Nat.le_refl _)
  rw [List.take_of_length_le (by omega)] at hcut
  refine ⟨_, fun u => ?_, hcut⟩
  have ee := elem_of ht
  rw [run_slice_l u t a n c (by rw [ee]; exact ht) kl lo' (by omega) (by omega), ee, run_sizeOf_info hs]
  simp [Result.andThen, sliced]
end Go.Proofs.Ythgnlbdolilklaa
