/- The law SqueezeNone, walked; printed by gen_sn.py. -/
import Derived.Test.YtndpebhhgicooaaAwkE
import Derived.Test.YtndpebhhgicooaaOpenS
namespace Go.Proofs.Ytndpebhhgicooaa
open Go Go.RowKit Go.Maps
/-- a writer that is none: nil, or one that nobody made -/
def Nn (w : World) (pv : Option Addr) : Prop := pv = none ∨ ∃ g, pv = some ⟨g, 0, none⟩ ∧ Blk w g 60 (0, 0) [.slice none 0 0, .map none]
set_option maxHeartbeats 1000000 in
theorem none_any {w : World} {pv : Option Addr} (h : Nn w pv) : Calls Try.prog 39 #[.pointer pv] w fun e w' => e = .returned (.bool true) ∧ w = w' := by
  rcases h with rfl | ⟨g, rfl, hB⟩
  · go_enter Try.func39, Try.ntmps39
    go_wp2_with fail
    go_ret
    exact ⟨rfl, rfl⟩
  · have c1 : w.cell? ⟨g, 1, none⟩ = some (.map none) := (hB.cell 1).trans rfl
    clear hB
    have he : (binOp .eql 58 (.map none) (.map none)).run Try.prog w = .ok (.bool true) w := run_eql_map_nil w 58 9 3 none Try.underlying58
    go_enter Try.func39, Try.ntmps39
    go_wp2_with fail
    go_ret
    exact ⟨rfl, rfl⟩
set_option maxHeartbeats 1000000 in
theorem nn_name {w : World} {pv : Option Addr} (h : Nn w pv) (a : Option Addr) (n c : Nat) (back : Bool) : Calls Try.prog 27 #[.pointer pv, .slice a n c, .bool back] w fun e w' => e = .returned (.int .i64 1) ∧ w = w' := by
  have hH := Lib.hid h
  clear h
  go_enter Try.func27, Try.ntmps27
  go_wp2_with fail
  refine (none_any hH.out).mono ?_
  rintro e w1 ⟨rfl, rfl⟩
  go_wp2_with fail
  go_ret
  exact ⟨rfl, rfl⟩
set_option maxHeartbeats 1000000 in
theorem nn_bytes {w : World} {pv : Option Addr} (h : Nn w pv) (a : Option Addr) (n c : Nat) : Calls Try.prog 28 #[.pointer pv, .slice a n c] w fun e w' => e = .returned (.int .i64 1) ∧ w = w' := by
  have hH := Lib.hid h
  clear h
  go_enter Try.func28, Try.ntmps28
  go_wp2_with fail
  refine (none_any hH.out).mono ?_
  rintro e w1 ⟨rfl, rfl⟩
  go_wp2_with fail
  go_ret
  exact ⟨rfl, rfl⟩
set_option maxHeartbeats 1000000 in
theorem nn_set {w : World} {pv : Option Addr} (h : Nn w pv) (x y : Int) : Calls Try.prog 29 #[.pointer pv, .int .i64 x, .int .i64 y] w fun e w' => e = .returned (.int .i64 1) ∧ w = w' := by
  have hH := Lib.hid h
  clear h
  go_enter Try.func29, Try.ntmps29
  go_wp2_with fail
  refine (none_any hH.out).mono ?_
  rintro e w1 ⟨rfl, rfl⟩
  go_wp2_with fail
  go_ret
  exact ⟨rfl, rfl⟩
set_option maxHeartbeats 1000000 in
theorem nn_cut {w : World} {pv : Option Addr} (h : Nn w pv) (x : Int) : Calls Try.prog 30 #[.pointer pv, .int .i64 x] w fun e w' => e = .returned (.int .i64 1) ∧ w = w' := by
  have hH := Lib.hid h
  clear h
  go_enter Try.func30, Try.ntmps30
  go_wp2_with fail
  refine (none_any hH.out).mono ?_
  rintro e w1 ⟨rfl, rfl⟩
  go_wp2_with fail
  go_ret
  exact ⟨rfl, rfl⟩
set_option maxHeartbeats 1000000 in
theorem nn_len {w : World} {pv : Option Addr} (h : Nn w pv)  : Calls Try.prog 26 #[.pointer pv] w fun e w' => e = .returned (.int .i64 0) ∧ w = w' := by
  have hH := Lib.hid h
  clear h
  go_enter Try.func26, Try.ntmps26
  go_wp2_with fail
  refine (none_any hH.out).mono ?_
  rintro e w1 ⟨rfl, rfl⟩
  go_wp2_with fail
  go_ret
  exact ⟨rfl, rfl⟩
set_option maxHeartbeats 1000000 in
theorem nn_all {w : World} {pv : Option Addr} (h : Nn w pv)  : Calls Try.prog 19 #[.pointer pv] w fun e w' => e = .returned (.slice none 0 0) ∧ w = w' := by
  have hH := Lib.hid h
  clear h
  go_enter Try.func19, Try.ntmps19
  go_wp2_with fail
  refine (none_any hH.out).mono ?_
  rintro e w1 ⟨rfl, rfl⟩
  go_wp2_with fail
  go_ret
  exact ⟨rfl, rfl⟩
set_option maxHeartbeats 4000000 in
set_option maxRecDepth 100000 in
theorem squeezeNone_walk {W : World} (a : Option Addr) (n c : Nat) (a' : Option Addr) (n' c' : Nat) (x : Int) :
    Calls Try.prog 7 #[.slice a n c, .slice a' n' c', .int .i64 x] W fun e w' => e = .returned (.bool true) ∧ Below W.heap.size W w' := by
  obtain ⟨W1, hW1⟩ : ∃ W1, W.alloc (.cells #[.slice none 0 0, .map none] 60) = W1 := ⟨_, rfl⟩
  obtain ⟨W2, hW2⟩ : ∃ W2, W1.alloc (.cells #[.pointer none, .pointer (some ⟨W.heap.size, 0, none⟩)] 36) = W2 := ⟨_, rfl⟩
  have hB1 : Blk W1 W.heap.size 60 (0, 0) [.slice none 0 0, .map none] := by rw [← hW1]; exact Blk.new W 60 (0, 0) #[.slice none 0 0, .map none]
  have hb1 : Below W.heap.size W W1 := by rw [← hW1]; exact (Below.refl _ _).alloc (Nat.le_refl _) _
  have hz1 : W1.heap.size = W.heap.size + 1 := by rw [← hW1]; simp
  have hB2 : Blk W2 W.heap.size 60 (0, 0) [.slice none 0 0, .map none] := by rw [← hW2]; exact hB1.alloc _
  have hB3 : Blk W2 (W.heap.size + 1) 36 (0, 0) [.pointer none, .pointer (some ⟨W.heap.size, 0, none⟩)] := by rw [← hW2, ← hz1]; exact Blk.new W1 36 (0, 0) #[.pointer none, .pointer (some ⟨W.heap.size, 0, none⟩)]
  have hb2 : Below W.heap.size W W2 := by rw [← hW2]; exact hb1.alloc (by omega) _
  have hb2' := Lib.hid hb2
  have hz1' := Lib.hid hz1
  have n0 : Hid (Nn W2 none) := Lib.hid (.inl rfl)
  have n1 : Hid (Nn W2 (some ⟨W.heap.size, 0, none⟩)) := Lib.hid (.inr ⟨_, rfl, hB2⟩)
  have c0 : W2.cell? ⟨W.heap.size + 1, 0, none⟩ = some (.pointer none) := (hB3.cell 0).trans rfl
  have c1 : W2.cell? ⟨W.heap.size + 1, 1, none⟩ = some (.pointer (some ⟨W.heap.size, 0, none⟩)) := (hB3.cell 1).trans rfl
  rw [← hz1] at c0 c1
  have c0' := Lib.hid c0
  have c1' := Lib.hid c1
  clear hB1 hb1 hB2 hB3 hb2 hz1 c0 c1
  go_enter Try.func7, Try.ntmps7
  go_wp2_with fail
  try rw [hW1]
  try rw [hW2]
  go_loopw [8] (fun i wr => ∃ k : Nat, k ≤ 2 ∧ i = .int .i64 k ∧ wr = W2) (fun i _ => 2 - (intOf i).toNat)
  case atStart => exact ⟨0, by decide, rfl, rfl⟩
  case round =>
    obtain ⟨k, hk, rfl, rfl⟩ := hrel
    match k, hk with
    | 0, _ =>
      have c0 := c0'.out
      go_wp2_with fail
      refine (nn_name n0.out _ _ _ _).mono ?_
      rintro e w3 ⟨rfl, rfl⟩
      go_wp2_with fail
      refine (nn_bytes n0.out _ _ _).mono ?_
      rintro e w3 ⟨rfl, rfl⟩
      go_wp2_with fail
      refine (nn_set n0.out _ _).mono ?_
      rintro e w3 ⟨rfl, rfl⟩
      go_wp2_with fail
      refine (nn_cut n0.out _).mono ?_
      rintro e w3 ⟨rfl, rfl⟩
      go_wp2_with fail
      refine (nn_len n0.out ).mono ?_
      rintro e w3 ⟨rfl, rfl⟩
      go_wp2_with fail
      refine (nn_all n0.out ).mono ?_
      rintro e w3 ⟨rfl, rfl⟩
      go_wp2_with fail
      go_roundw
      case rel => exact ⟨1, by decide, rfl, by trivial⟩
      case measure => simp [intOf]
    | 1, _ =>
      have c1 := c1'.out
      go_wp2_with fail
      refine (nn_name n1.out _ _ _ _).mono ?_
      rintro e w3 ⟨rfl, rfl⟩
      go_wp2_with fail
      refine (nn_bytes n1.out _ _ _).mono ?_
      rintro e w3 ⟨rfl, rfl⟩
      go_wp2_with fail
      refine (nn_set n1.out _ _).mono ?_
      rintro e w3 ⟨rfl, rfl⟩
      go_wp2_with fail
      refine (nn_cut n1.out _).mono ?_
      rintro e w3 ⟨rfl, rfl⟩
      go_wp2_with fail
      refine (nn_len n1.out ).mono ?_
      rintro e w3 ⟨rfl, rfl⟩
      go_wp2_with fail
      refine (nn_all n1.out ).mono ?_
      rintro e w3 ⟨rfl, rfl⟩
      go_wp2_with fail
      go_roundw
      case rel => exact ⟨2, by decide, rfl, by trivial⟩
      case measure => simp [intOf]
    | 2, _ =>
      go_wp2_with fail
      refine (awake_any _).mono ?_
      rintro e w3 ⟨rfl, hb3⟩
      have hb3' := Lib.hid (hb2'.out.trans (hb3.mono hb2'.out.size))
      clear hb3
      go_wp2_with fail
      go_ret
      exact ⟨rfl, hb3'.out⟩
theorem squeezeNone_law {W : World} (a : Option Addr) (n c : Nat) (l : List (List UInt8)) (_ : RT W a n c l) (a' : Option Addr) (n' c' : Nat) (l' : List UInt8) (_ : RB W a' n' c' l') (x : Int) (_ : (Lit.int .i64 x).wf = true) (_ : World) :
    Calls Try.prog 7 #[.slice a n c, .slice a' n' c', .int .i64 x] W fun e w' => e = .returned (.bool true) ∧ Below W.heap.size W w' := squeezeNone_walk a n c a' n' c' x
end Go.Proofs.Ytndpebhhgicooaa
