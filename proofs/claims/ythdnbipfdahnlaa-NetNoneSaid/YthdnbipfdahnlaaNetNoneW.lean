/- NetNone. Printed by gen_nn.py. -/
import Derived.Test.YthdnbipfdahnlaaNtL
import Derived.Test.YthdnbipfdahnlaaNtK
import Derived.Test.YthdnbipfdahnlaaOpenK
namespace Go.Proofs.Ythdnbipfdahnlaa
open Go Go.RowKit
set_option maxHeartbeats 8000000 in
set_option maxRecDepth 100000 in
theorem none_law (w : World) (h : Hd) (da : Option Addr) (dn dc : Nat) (y : Int) : Calls Try.prog 7 #[pkV h (.slice da dn dc), .int .i64 y] w fun e w' => e = .returned (.bool true) ∧ Below w.heap.size w w' := by
  unfold pkV
  obtain ⟨W1, hW1⟩ : ∃ W, w.alloc (.cells #[.int .u32 h.from_, .int .u16 h.fport, .int .u32 h.to_, .int .u16 h.tport, .bool h.stream, .slice da dn dc] 32) = W := ⟨_, rfl⟩
  have B1 : Hid (Blk W1 w.heap.size 32 (0, 0) [.int .u32 h.from_, .int .u16 h.fport, .int .u32 h.to_, .int .u16 h.tport, .bool h.stream, .slice da dn dc]) := Lib.hid (by rw [← hW1]; exact Blk.new w 32 (0, 0) #[.int .u32 h.from_, .int .u16 h.fport, .int .u32 h.to_, .int .u16 h.tport, .bool h.stream, .slice da dn dc])
  have k1 : Hid (Below w.heap.size w W1) := Lib.hid (by rw [← hW1]; exact alloc_bel _ _)
  obtain ⟨W2, hW2⟩ : ∃ W, W1.alloc (.cells #[.slice none 0 0, .int .i64 0, .slice none 0 0, .int .i64 0, .int .i64 0, .int .i64 0, .int .i64 0, .bool false] 63) = W := ⟨_, rfl⟩
  have B2 : Hid (Blk W2 W1.heap.size 63 (0, 0) [.slice none 0 0, .int .i64 0, .slice none 0 0, .int .i64 0, .int .i64 0, .int .i64 0, .int .i64 0, .bool false]) := Lib.hid (by rw [← hW2]; exact Blk.new W1 63 (0, 0) #[.slice none 0 0, .int .i64 0, .slice none 0 0, .int .i64 0, .int .i64 0, .int .i64 0, .int .i64 0, .bool false])
  have k2 : Hid (Below W1.heap.size W1 W2) := Lib.hid (by rw [← hW2]; exact alloc_bel _ _)
  obtain ⟨W3, hW3⟩ : ∃ W, W2.alloc (.cells #[.pointer none, .pointer (some ⟨W1.heap.size, 0, none⟩)] 24) = W := ⟨_, rfl⟩
  have B3 : Hid (Blk W3 W2.heap.size 24 (0, 0) [.pointer none, .pointer (some ⟨W1.heap.size, 0, none⟩)]) := Lib.hid (by rw [← hW3]; exact Blk.new W2 24 (0, 0) #[.pointer none, .pointer (some ⟨W1.heap.size, 0, none⟩)])
  have k3 : Hid (Below W2.heap.size W2 W3) := Lib.hid (by rw [← hW3]; exact alloc_bel _ _)
  have K3 := Lib.hid (k1.out.trans ((k2.out.trans (k3.out.mono k2.out.size)).mono k1.out.size))
  have P3 := Lib.hid ((B1.out.below k2.out B1.out.lt).below k3.out (B1.out.below k2.out B1.out.lt).lt)
  have D3 := Lib.hid (B2.out.below k3.out B2.out.lt)
  clear B1 B2 k1 k2 k3
  go_enter Try.func7, Try.ntmps7
  go_wp2_with fail
  try rw [hW1]
  try rw [hW2]
  try rw [hW3]
  clear hW1 hW2 hW3
  go_loopw [6] (fun i wr => ∃ k : Nat, k ≤ 2 ∧ i = .int .i64 k ∧ Hid (Below W3.heap.size W3 wr)) (fun i _ => 2 - (intOf i).toNat)
  case atStart => exact ⟨0, Nat.zero_le _, rfl, Lib.hid (Below.refl _ _)⟩
  case round =>
    obtain ⟨k, hk, rfl, hb⟩ := hrel
    by_cases hlt : k < 2
    · have hkI : (k : Int) < 2 := by omega
      have hk0 : 0 ≤ (k : Int) := by omega
      obtain ⟨v, hv, D0⟩ : ∃ v, wr.cell? ⟨W2.heap.size, k, none⟩ = some v ∧ Hid (Dead wr v) := by
        have hB := B3.out.below hb.out B3.out.lt
        have hD := D3.out.below hb.out D3.out.lt
        obtain rfl | rfl : k = 0 ∨ k = 1 := by omega
        · exact ⟨_, (hB.cell 0).trans rfl, Lib.hid (.inl rfl)⟩
        · exact ⟨_, (hB.cell 1).trans rfl, Lib.hid (.inr ⟨_, rfl, hD⟩)⟩
      have P0 := Lib.hid (P3.out.below hb.out P3.out.lt)
      have hc := Lib.hid (send_dead D0.out h da dn dc y)
      dsimp only [pkV] at hc
      have p0 : wr.cell? ⟨w.heap.size, 0, none⟩ = some (.int .u32 h.from_) := (P0.out.cell 0).trans rfl
      have p1 : wr.cell? ⟨w.heap.size, 1, none⟩ = some (.int .u16 h.fport) := (P0.out.cell 1).trans rfl
      have p2 : wr.cell? ⟨w.heap.size, 2, none⟩ = some (.int .u32 h.to_) := (P0.out.cell 2).trans rfl
      have p3 : wr.cell? ⟨w.heap.size, 3, none⟩ = some (.int .u16 h.tport) := (P0.out.cell 3).trans rfl
      have p4 : wr.cell? ⟨w.heap.size, 4, none⟩ = some (.bool h.stream) := (P0.out.cell 4).trans rfl
      have p5 : wr.cell? ⟨w.heap.size, 5, none⟩ = some (.slice da dn dc) := (P0.out.cell 5).trans rfl
      go_wp2_with fail
      refine hc.out.mono ?_
      rintro e x_send_dead ⟨rfl, hbx⟩
      clear hc
      clear p0 p1 p2 p3 p4 p5
      clear hv
      have D_1 := Lib.hid (D0.out.ext hbx)
      have P_1 := Lib.hid (P0.out.below hbx P0.out.lt)
      have K_1 := Lib.hid (hb.out.trans ((hbx).mono hb.out.size))
      clear D0 P0 hb
      clear hbx
      have hc := Lib.hid (due_dead D_1.out y)
      go_wp2_with fail
      refine hc.out.mono ?_
      rintro e x_due_dead ⟨rfl, hbx⟩
      clear hc
      have D_2 := Lib.hid (D_1.out.ext hbx)
      have P_2 := Lib.hid (P_1.out.below hbx P_1.out.lt)
      have K_2 := Lib.hid (K_1.out.trans ((hbx).mono K_1.out.size))
      clear D_1 P_1 K_1
      clear hbx
      have hc := Lib.hid (next_dead D_2.out)
      go_wp2_with fail
      refine hc.out.mono ?_
      rintro e x_next_dead ⟨rfl, hbx⟩
      clear hc
      have D_3 := Lib.hid (D_2.out.ext hbx)
      have P_3 := Lib.hid (P_2.out.below hbx P_2.out.lt)
      have K_3 := Lib.hid (K_2.out.trans ((hbx).mono K_2.out.size))
      clear D_2 P_2 K_2
      clear hbx
      have hc := Lib.hid (counts_dead D_3.out)
      go_wp2_with fail
      refine hc.out.mono ?_
      rintro e x_counts_dead ⟨rfl, hbx⟩
      clear hc
      have D_4 := Lib.hid (D_3.out.ext hbx)
      have P_4 := Lib.hid (P_3.out.below hbx P_3.out.lt)
      have K_4 := Lib.hid (K_3.out.trans ((hbx).mono K_3.out.size))
      clear D_3 P_3 K_3
      clear hbx
      have hc := Lib.hid (forge_dead D_4.out h da dn dc y)
      dsimp only [pkV] at hc
      have p0 : x_counts_dead.cell? ⟨w.heap.size, 0, none⟩ = some (.int .u32 h.from_) := (P_4.out.cell 0).trans rfl
      have p1 : x_counts_dead.cell? ⟨w.heap.size, 1, none⟩ = some (.int .u16 h.fport) := (P_4.out.cell 1).trans rfl
      have p2 : x_counts_dead.cell? ⟨w.heap.size, 2, none⟩ = some (.int .u32 h.to_) := (P_4.out.cell 2).trans rfl
      have p3 : x_counts_dead.cell? ⟨w.heap.size, 3, none⟩ = some (.int .u16 h.tport) := (P_4.out.cell 3).trans rfl
      have p4 : x_counts_dead.cell? ⟨w.heap.size, 4, none⟩ = some (.bool h.stream) := (P_4.out.cell 4).trans rfl
      have p5 : x_counts_dead.cell? ⟨w.heap.size, 5, none⟩ = some (.slice da dn dc) := (P_4.out.cell 5).trans rfl
      go_wp2_with fail
      refine hc.out.mono ?_
      rintro e x_forge_dead ⟨rfl, hbx⟩
      clear hc
      clear p0 p1 p2 p3 p4 p5
      have D_5 := Lib.hid (D_4.out.ext hbx)
      have P_5 := Lib.hid (P_4.out.below hbx P_4.out.lt)
      have K_5 := Lib.hid (K_4.out.trans ((hbx).mono K_4.out.size))
      clear D_4 P_4 K_4
      clear hbx
      have hc := Lib.hid (flying_dead D_5.out)
      go_wp2_with fail
      refine hc.out.mono ?_
      rintro e x_flying_dead ⟨rfl, hbx⟩
      clear hc
      have D_6 := Lib.hid (D_5.out.ext hbx)
      have P_6 := Lib.hid (P_5.out.below hbx P_5.out.lt)
      have K_6 := Lib.hid (K_5.out.trans ((hbx).mono K_5.out.size))
      clear D_5 P_5 K_5
      clear hbx
      go_wp2_with fail
      go_roundw
      case rel => exact ⟨k + 1, by omega, by go_num, K_6⟩
      case measure => simp [intOf]; omega
    · have hk' : k = 2 := by omega
      subst hk'
      have ha := Lib.hid (awake_any wr)
      go_wp2_with fail
      refine ha.out.mono ?_
      rintro e x ⟨rfl, hx⟩
      have hKx := Lib.hid (K3.out.trans ((hb.out.trans (hx.mono hb.out.size)).mono K3.out.size))
      go_wp2_with fail
      go_ret
      exact ⟨rfl, hKx.out⟩
section
open Go.ChangeShapes Go.WideShapes
variable {H : Type} {enc : TypeId × Value → H}
set_option maxRecDepth 100000 in
theorem netNone_law {W : World} {r : Reach} {b0 : Nat} {ts : List TypeId} {ds : List (DataW H)} (v0 : Value) (d0 : DataW H) (p0 : List MemPlace) (h0 : DataW.Trod enc Try.prog W 0 (fun _ => true) true 32 v0 d0 p0) (hv0 : Value.okWide Try.prog W r b0 32 v0)
    (_ : (DataW.weightsEach Try.prog ts ds).all (· ≤ reachBytes) = true) (z0 : Sz Try.prog 32 d0) (y : Int) {q : Prop} (_ : q) (_ : World) : Calls Try.prog 7 #[v0, .int .i64 y] W fun e w' => e = .returned (.bool true) ∧ Below W.heap.size W w' := by
  obtain ⟨h, a, n, c, l, rfl, _, _⟩ := open_pk hv0 h0 z0
  exact none_law W h a n c y
end
end Go.Proofs.Ythdnbipfdahnlaa
