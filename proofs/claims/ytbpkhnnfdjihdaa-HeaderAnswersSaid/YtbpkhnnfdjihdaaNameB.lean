/- Layer 3: Same, Under, Compare, and which names are gone through. Names of at most 2^40 labels. -/
import Derived.Test.YtbpkhnnfdjihdaaNameA
import Derived.Deep.RegionWith
import Derived.Deep.QuietTactic
import Derived.BigQuiet
import Derived.Deep.RegionHeld3
namespace Go.Proofs.Ytbpkhnnfdjihdaa
open Go.RowKit
/-- a name that lies in memory, within bounds -/
structure Nmd (w : World) (a : Option Addr) (n c : Nat) (l : Nm) : Prop where
  rd : Rd strE w a n c l
  few : n ≤ 1099511627776
  short : ∀ s ∈ l, s.length ≤ 140737488355328
theorem Nmd.ext {w w' : World} {a : Option Addr} {n c : Nat} {l : Nm} (h : Nmd w a n c l) (hb : Below w.heap.size w w') : Nmd w' a n c l := ⟨h.rd.ext hb, h.few, h.short⟩
theorem beq_cast (a b : Nat) : ((a : Int) == (b : Int)) = decide (a = b) := by
  rw [Bool.eq_iff_iff]; simp; omega
theorem nm_common {w : World} {a a' : Option Addr} {n c n' c' : Nat} {l l' : Nm} (h : Nmd w a n c l) (h' : Nmd w a' n' c' l') :
    Calls Try.prog 47 #[.slice a n c, .slice a' n' c'] w fun e w' => e = .returned (.int .i64 (comL l l')) ∧ Below w.heap.size w w' := common_any h.rd h'.rd h.few h'.few h.short h'.short
set_option maxRecDepth 100000 in
set_option maxHeartbeats 1000000 in
theorem nm_same {w : World} {a a' : Option Addr} {n c n' c' : Nat} {l l' : Nm} (h : Nmd w a n c l) (h' : Nmd w a' n' c' l') :
    Calls Try.prog 38 #[.slice a n c, .slice a' n' c'] w fun e w' => e = .returned (.bool (sameL l l')) ∧ Below w.heap.size w w' := by
  have hl := h.rd.len
  have hl' := h'.rd.len
  have hf := h.few
  have hf' := h'.few
  have hH := Lib.hid h
  have hH' := Lib.hid h'
  have hL := Lib.hid (And.intro hl hl')
  clear h h' hl hl'
  by_cases e : n = n'
  · subst e
    go_enter Try.func38, Try.ntmps38
    go_wp2_with (go_at_call 47; refine (nm_common hH.out hH'.out).mono ?_; rintro e w1 ⟨rfl, hb⟩)
    go_ret
    have := hL.out
    exact ⟨by apply ret_bool; rw [beq_cast, sameL, this.1, this.2]; simp, hb⟩
  · have e' : ((n : Int) == (n' : Int)) = false := by rw [beq_cast]; simp [e]
    have e2 : ¬ ((n : Int) = (n' : Int)) := by omega
    go_enter Try.func38, Try.ntmps38
    go_wp2_with fail
    go_ret
    have := hL.out
    exact ⟨by apply ret_bool; rw [sameL, this.1, this.2]; simp [e], Below.refl _ _⟩
end Go.Proofs.Ytbpkhnnfdjihdaa
