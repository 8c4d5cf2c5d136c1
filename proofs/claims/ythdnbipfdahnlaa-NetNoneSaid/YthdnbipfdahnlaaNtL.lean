/- A network that is nil or unmade: none 26, check 24, Send 14, Forge 11, Due 12, Next 15, Counts 17, Flying 21. Printed by gen_ntl.py. -/
import Derived.Test.YthdnbipfdahnlaaNtF
namespace Go.Proofs.Ythdnbipfdahnlaa
open Go Go.RowKit
def Z63 : List Value := [.slice none 0 0, .int .i64 0, .slice none 0 0, .int .i64 0, .int .i64 0, .int .i64 0, .int .i64 0, .bool false]
def Dead (w : World) (v : Value) : Prop := v = .pointer none ∨ ∃ n, v = .pointer (some ⟨n, 0, none⟩) ∧ Blk w n 63 (0, 0) Z63
theorem Dead.ext {w w' : World} {v : Value} (h : Dead w v) (hb : Below w.heap.size w w') : Dead w' v := by
  rcases h with h | ⟨n, h1, h2⟩
  · exact .inl h
  · exact .inr ⟨n, h1, h2.below hb h2.lt⟩
theorem none_dead {w : World} {v : Value} (h : Dead w v) : Calls Try.prog 26 #[v] w fun e w' => e = .returned (.bool true) ∧ w = w' := by
  rcases h with rfl | ⟨n, rfl, hB⟩
  · go_enter Try.func26, Try.ntmps26
    go_wp2_with fail
    go_ret
    exact ⟨rfl, rfl⟩
  · have c7 : w.cell? ⟨n, 7, none⟩ = some (.bool false) := (hB.cell 7).trans rfl
    clear hB
    go_enter Try.func26, Try.ntmps26
    go_wp2_with fail
    go_ret
    exact ⟨rfl, rfl⟩
set_option maxHeartbeats 8000000 in
set_option maxRecDepth 100000 in
theorem check_dead {w : World} {v : Value} (h0 : Dead w v) (h : Hd) (da : Option Addr) (dn dc : Nat) (y : Int) : Calls Try.prog 24 #[v, pkV h (.slice da dn dc), .int .i64 y] w fun e w' => e = .returned (.int .i64 1) ∧ Below w.heap.size w w' := by
  unfold pkV
  obtain ⟨W1, hW1⟩ : ∃ W, w.alloc (.cells #[.int .u32 h.from_, .int .u16 h.fport, .int .u32 h.to_, .int .u16 h.tport, .bool h.stream, .slice da dn dc] 32) = W := ⟨_, rfl⟩
  have B1 : Hid (Blk W1 w.heap.size 32 (0, 0) [.int .u32 h.from_, .int .u16 h.fport, .int .u32 h.to_, .int .u16 h.tport, .bool h.stream, .slice da dn dc]) := Lib.hid (by rw [← hW1]; exact Blk.new w 32 (0, 0) #[.int .u32 h.from_, .int .u16 h.fport, .int .u32 h.to_, .int .u16 h.tport, .bool h.stream, .slice da dn dc])
  have k1 : Hid (Below w.heap.size w W1) := Lib.hid (by rw [← hW1]; exact alloc_bel _ _)
  have hn := Lib.hid (none_dead (h0.ext k1.out))
  clear h0
  go_enter Try.func24, Try.ntmps24
  go_wp2_with fail
  try rw [hW1]
  refine hn.out.mono ?_
  rintro e w2 ⟨rfl, rfl⟩
  have K := k1
  go_wp2_with fail
  go_ret
  exact ⟨rfl, K.out⟩
set_option maxHeartbeats 8000000 in
set_option maxRecDepth 100000 in
theorem send_dead {w : World} {v : Value} (h0 : Dead w v) (h : Hd) (da : Option Addr) (dn dc : Nat) (y : Int) : Calls Try.prog 14 #[v, pkV h (.slice da dn dc), .int .i64 y] w fun e w' => e = .returned (.tuple #[.int .i64 0, .int .i64 1]) ∧ Below w.heap.size w w' := by
  unfold pkV
  obtain ⟨W1, hW1⟩ : ∃ W, w.alloc (.cells #[.int .u32 h.from_, .int .u16 h.fport, .int .u32 h.to_, .int .u16 h.tport, .bool h.stream, .slice da dn dc] 32) = W := ⟨_, rfl⟩
  have B1 : Hid (Blk W1 w.heap.size 32 (0, 0) [.int .u32 h.from_, .int .u16 h.fport, .int .u32 h.to_, .int .u16 h.tport, .bool h.stream, .slice da dn dc]) := Lib.hid (by rw [← hW1]; exact Blk.new w 32 (0, 0) #[.int .u32 h.from_, .int .u16 h.fport, .int .u32 h.to_, .int .u16 h.tport, .bool h.stream, .slice da dn dc])
  have k1 : Hid (Below w.heap.size w W1) := Lib.hid (by rw [← hW1]; exact alloc_bel _ _)
  have hn := Lib.hid (check_dead (h0.ext k1.out) h da dn dc y)
  dsimp only [pkV] at hn
  clear h0
  have p0 : W1.cell? ⟨w.heap.size, 0, none⟩ = some (.int .u32 h.from_) := (B1.out.cell 0).trans rfl
  have p1 : W1.cell? ⟨w.heap.size, 1, none⟩ = some (.int .u16 h.fport) := (B1.out.cell 1).trans rfl
  have p2 : W1.cell? ⟨w.heap.size, 2, none⟩ = some (.int .u32 h.to_) := (B1.out.cell 2).trans rfl
  have p3 : W1.cell? ⟨w.heap.size, 3, none⟩ = some (.int .u16 h.tport) := (B1.out.cell 3).trans rfl
  have p4 : W1.cell? ⟨w.heap.size, 4, none⟩ = some (.bool h.stream) := (B1.out.cell 4).trans rfl
  have p5 : W1.cell? ⟨w.heap.size, 5, none⟩ = some (.slice da dn dc) := (B1.out.cell 5).trans rfl
  go_enter Try.func14, Try.ntmps14
  go_wp2_with fail
  try rw [hW1]
  refine hn.out.mono ?_
  rintro e w2 ⟨rfl, hb⟩
  have K := Lib.hid (k1.out.trans (hb.mono k1.out.size))
  go_wp2_with fail
  refine bodyPost_ret (results_tmp2 rfl _ _ _) rfl ?_
  exact ⟨rfl, K.out⟩
set_option maxHeartbeats 8000000 in
set_option maxRecDepth 100000 in
theorem forge_dead {w : World} {v : Value} (h0 : Dead w v) (h : Hd) (da : Option Addr) (dn dc : Nat) (y : Int) : Calls Try.prog 11 #[v, pkV h (.slice da dn dc), .int .i64 y] w fun e w' => e = .returned (.int .i64 1) ∧ Below w.heap.size w w' := by
  unfold pkV
  obtain ⟨W1, hW1⟩ : ∃ W, w.alloc (.cells #[.int .u32 h.from_, .int .u16 h.fport, .int .u32 h.to_, .int .u16 h.tport, .bool h.stream, .slice da dn dc] 32) = W := ⟨_, rfl⟩
  have B1 : Hid (Blk W1 w.heap.size 32 (0, 0) [.int .u32 h.from_, .int .u16 h.fport, .int .u32 h.to_, .int .u16 h.tport, .bool h.stream, .slice da dn dc]) := Lib.hid (by rw [← hW1]; exact Blk.new w 32 (0, 0) #[.int .u32 h.from_, .int .u16 h.fport, .int .u32 h.to_, .int .u16 h.tport, .bool h.stream, .slice da dn dc])
  have k1 : Hid (Below w.heap.size w W1) := Lib.hid (by rw [← hW1]; exact alloc_bel _ _)
  have hn := Lib.hid (check_dead (h0.ext k1.out) h da dn dc y)
  dsimp only [pkV] at hn
  clear h0
  have p0 : W1.cell? ⟨w.heap.size, 0, none⟩ = some (.int .u32 h.from_) := (B1.out.cell 0).trans rfl
  have p1 : W1.cell? ⟨w.heap.size, 1, none⟩ = some (.int .u16 h.fport) := (B1.out.cell 1).trans rfl
  have p2 : W1.cell? ⟨w.heap.size, 2, none⟩ = some (.int .u32 h.to_) := (B1.out.cell 2).trans rfl
  have p3 : W1.cell? ⟨w.heap.size, 3, none⟩ = some (.int .u16 h.tport) := (B1.out.cell 3).trans rfl
  have p4 : W1.cell? ⟨w.heap.size, 4, none⟩ = some (.bool h.stream) := (B1.out.cell 4).trans rfl
  have p5 : W1.cell? ⟨w.heap.size, 5, none⟩ = some (.slice da dn dc) := (B1.out.cell 5).trans rfl
  go_enter Try.func11, Try.ntmps11
  go_wp2_with fail
  try rw [hW1]
  refine hn.out.mono ?_
  rintro e w2 ⟨rfl, hb⟩
  have K := Lib.hid (k1.out.trans (hb.mono k1.out.size))
  go_wp2_with fail
  go_ret
  exact ⟨rfl, K.out⟩
set_option maxHeartbeats 8000000 in
set_option maxRecDepth 100000 in
theorem due_dead {w : World} {v : Value} (h0 : Dead w v) (y : Int) : Calls Try.prog 12 #[v, .int .i64 y] w fun e w' => e = .returned (.tuple #[.slice none 0 0, .int .i64 1]) ∧ Below w.heap.size w w' := by
  have hn := Lib.hid (none_dead h0)
  clear h0
  go_enter Try.func12, Try.ntmps12
  go_wp2_with fail
  refine hn.out.mono ?_
  rintro e w2 ⟨rfl, rfl⟩
  have K : Hid (Below w.heap.size w w) := Lib.hid (Below.refl _ _)
  go_wp2_with fail
  refine bodyPost_ret (results_tmp2 rfl _ _ _) rfl ?_
  exact ⟨rfl, K.out⟩
set_option maxHeartbeats 8000000 in
set_option maxRecDepth 100000 in
theorem next_dead {w : World} {v : Value} (h0 : Dead w v) : Calls Try.prog 15 #[v] w fun e w' => e = .returned (.tuple #[.int .i64 0, .bool false]) ∧ Below w.heap.size w w' := by
  have hn := Lib.hid (none_dead h0)
  clear h0
  go_enter Try.func15, Try.ntmps15
  go_wp2_with fail
  refine hn.out.mono ?_
  rintro e w2 ⟨rfl, rfl⟩
  have K : Hid (Below w.heap.size w w) := Lib.hid (Below.refl _ _)
  go_wp2_with fail
  refine bodyPost_ret (results_tmp2 rfl _ _ _) rfl ?_
  exact ⟨rfl, K.out⟩
set_option maxHeartbeats 8000000 in
set_option maxRecDepth 100000 in
theorem counts_dead {w : World} {v : Value} (h0 : Dead w v) : Calls Try.prog 17 #[v] w fun e w' => e = .returned (.tuple #[.int .i64 0, .int .i64 0, .int .i64 0, .int .i64 0]) ∧ Below w.heap.size w w' := by
  have hn := Lib.hid (none_dead h0)
  clear h0
  go_enter Try.func17, Try.ntmps17
  go_wp2_with fail
  refine hn.out.mono ?_
  rintro e w2 ⟨rfl, rfl⟩
  have K : Hid (Below w.heap.size w w) := Lib.hid (Below.refl _ _)
  go_wp2_with fail
  refine bodyPost_ret (results_tmp4 rfl _ _ _) rfl ?_
  exact ⟨rfl, K.out⟩
set_option maxHeartbeats 8000000 in
set_option maxRecDepth 100000 in
theorem flying_dead {w : World} {v : Value} (h0 : Dead w v) : Calls Try.prog 21 #[v] w fun e w' => e = .returned (.slice none 0 0) ∧ Below w.heap.size w w' := by
  have hn := Lib.hid (none_dead h0)
  clear h0
  go_enter Try.func21, Try.ntmps21
  go_wp2_with fail
  refine hn.out.mono ?_
  rintro e w2 ⟨rfl, rfl⟩
  have K : Hid (Below w.heap.size w w) := Lib.hid (Below.refl _ _)
  go_wp2_with fail
  go_ret
  exact ⟨rfl, K.out⟩
end Go.Proofs.Ythdnbipfdahnlaa
