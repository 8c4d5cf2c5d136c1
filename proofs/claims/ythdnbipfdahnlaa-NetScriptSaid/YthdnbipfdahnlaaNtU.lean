/- The document's network: copied 45. Printed by gen_ntu.py. -/
import Derived.Test.YthdnbipfdahnlaaNtT
namespace Go.Proofs.Ythdnbipfdahnlaa
open Go Go.RowKit
/-- a copy's bytes -/
def cpD (d : List UInt8) (bit : Int) : List UInt8 := if bit < 0 then d else flip d bit.toNat
set_option maxHeartbeats 8000000 in
set_option maxRecDepth 100000 in
theorem copied_any {w : World} (h : Hd) {da : Option Addr} {dn dc : Nat} {d : List UInt8} (hr : Rd byteE w da dn dc d) (hn : dn ≤ 140737488355328) (bit : Int) (hbit : bit < 524280) :
    Calls Try.prog 45 #[pkV h (.slice da dn dc), .int .i64 bit] w fun e w' => (∃ a c, e = .returned (pkV h (.slice a dn c)) ∧ Own byteE w' w.heap.size (.slice a dn c) (cpD d bit)) ∧ Below w.heap.size w w' := by
  unfold pkV
  have hdl := hr.len
  obtain ⟨W1, hW1⟩ : ∃ W, w.alloc (.cells #[.int .u32 h.from_, .int .u16 h.fport, .int .u32 h.to_, .int .u16 h.tport, .bool h.stream, .slice da dn dc] 32) = W := ⟨_, rfl⟩
  have B1 : Hid (Blk W1 w.heap.size 32 (0, 0) [.int .u32 h.from_, .int .u16 h.fport, .int .u32 h.to_, .int .u16 h.tport, .bool h.stream, .slice da dn dc]) := Lib.hid (by rw [← hW1]; exact Blk.new w 32 (0, 0) #[.int .u32 h.from_, .int .u16 h.fport, .int .u32 h.to_, .int .u16 h.tport, .bool h.stream, .slice da dn dc])
  have k1 : Hid (Below w.heap.size w W1) := Lib.hid (by rw [← hW1]; exact alloc_bel _ _)
  obtain ⟨W2, hW2⟩ : ∃ W, W1.alloc (.cells #[.int .u32 0, .int .u16 0, .int .u32 0, .int .u16 0, .bool false, .slice none 0 0] 32) = W := ⟨_, rfl⟩
  have B2 : Hid (Blk W2 W1.heap.size 32 (0, 0) [.int .u32 0, .int .u16 0, .int .u32 0, .int .u16 0, .bool false, .slice none 0 0]) := Lib.hid (by rw [← hW2]; exact Blk.new W1 32 (0, 0) #[.int .u32 0, .int .u16 0, .int .u32 0, .int .u16 0, .bool false, .slice none 0 0])
  have k2 : Hid (Below W1.heap.size W1 W2) := Lib.hid (by rw [← hW2]; exact alloc_bel _ _)
  have hl1 : Hid (w.heap.size < W1.heap.size) := Lib.hid B1.out.lt
  have kb := Lib.hid (k1.out.trans (k2.out.mono k1.out.size))
  have B12 := Lib.hid (B1.out.below k2.out B1.out.lt)
  have hl2 : Hid (W1.heap.size < W2.heap.size) := Lib.hid B2.out.lt
  obtain ⟨i0, hi, hz0, hz1, hz2⟩ := info_parts Try.info5
  have hown : Hid (Own byteE (W2.alloc (.cells #[] 5)) W2.heap.size (.slice (some ⟨W2.heap.size, 0, none⟩) 0 0) []) := Lib.hid (Own.made byteE W2 #[] [] 0 rfl rfl (by simp [maxLen]))
  have hsrc := Lib.hid (((hr.ext kb.out).ext ((Below.refl _ W2).alloc (Nat.le_refl _) (.cells #[] 5))).src (P := Try.prog) Try.underlying30)
  obtain ⟨W3, hW3⟩ : ∃ W, W2.alloc (.cells #[] 5) = W := ⟨_, rfl⟩
  have k3 : Hid (Below W2.heap.size W2 W3) := Lib.hid (by rw [← hW3]; exact alloc_bel _ _)
  have B13 := Lib.hid (B12.out.below k3.out B12.out.lt)
  have B23 := Lib.hid (B2.out.below k3.out B2.out.lt)
  rw [hW3] at hown hsrc
  have B12' := B12
  have B2' := B2
  clear hr B1 B12 B2
  have p5 : W3.cell? ⟨w.heap.size, 5, none⟩ = some (.slice da dn dc) := (B13.out.cell 5).trans rfl
  have hc1 : Hid (([] : List UInt8).length + d.length ≤ maxLen) := Lib.hid (by simp [maxLen]; omega)
  have hc2 : Hid ((([] : List UInt8).length + d.length) * 1 ≤ 140737488355328) := Lib.hid (by simp; omega)
  go_enter Try.func45, Try.ntmps45
  go_upto_region 1 with (fail)
  try rw [hW1]
  try rw [hW2]
  clear hW1 hW2
  go_wp2_with (at_builtin; refine app_own (E := byteE) (l := []) (news := d) (base := W2.heap.size) rfl (.tmp 5) (.tmp 7) 30 30 rfl Try.underlying30 hi hz0 hz1 hz2 rfl rfl hown.out rfl hsrc.out hc1.out hc2.out k3.out.size ?_)
  intro v' w4 ho hg _
  obtain ⟨a', c', rfl⟩ := ho.shape
  have hb4 : Hid (Below W2.heap.size W2 w4) := Lib.hid (own_below k3.out hg hown.out k3.out.size (Nat.le_refl _))
  try rw [List.nil_append] at ho
  try rw [List.nil_append]
  try rw [hdl]
  rw [hdl] at ho
  have ho4 := Lib.hid ho
  have B14 := Lib.hid (B12'.out.below hb4.out B12'.out.lt)
  have B24 := Lib.hid (B2'.out.below hb4.out B2'.out.lt)
  have kb4 := Lib.hid (kb.out.trans (hb4.out.mono kb.out.size))
  clear ho hg hown hsrc B13 B23 p5 hW3
  have f5 : w4.frozen? ⟨w.heap.size, 5, none⟩ = false := by rw [B14.out.frozen]; try simp
  have p5 : w4.cell? ⟨w.heap.size, 5, none⟩ = some (.slice da dn dc) := (B14.out.cell 5).trans rfl
  go_upto_region 2 with (fail)
  obtain ⟨w5, hV⟩ : ∃ V, w4.setCell ⟨w.heap.size, 5, none⟩ (.slice a' dn c') = V := ⟨_, rfl⟩
  try rw [hV]
  have hgV : w4.grownBy w5 (some w.heap.size) := by rw [← hV]; exact grown_set _ _ _ _
  have B15 : Hid (Blk w5 w.heap.size 32 (0, 0) [.int .u32 h.from_, .int .u16 h.fport, .int .u32 h.to_, .int .u16 h.tport, .bool h.stream, .slice a' dn c']) := Lib.hid (by rw [← hV]; exact B14.out.set 5 _)
  have B25 := Lib.hid (B24.out.grownV2 hgV (fun e => by have e2 := Option.some.inj e; have := hl1.out; omega))
  have ho5 := Lib.hid (own_store ho4.out B14.out (by decide) hgV)
  have kb5 := Lib.hid (kb4.out.grown hgV kb4.out.size (fun k hk => by cases hk; exact Nat.le_refl _))
  clear hV hgV B14 B24 ho4 f5 p5
  have p5 : w5.cell? ⟨w.heap.size, 5, none⟩ = some (.slice a' dn c') := (B15.out.cell 5).trans rfl
  by_cases hneg : bit < 0
  · have hcp : Hid (cpD d bit = d) := Lib.hid (by unfold cpD; rw [if_pos hneg])
    have hnI : ¬ 0 ≤ bit := by omega
    clear p5
    have p0 : w5.cell? ⟨w.heap.size, 0, none⟩ = some (.int .u32 h.from_) := (B15.out.cell 0).trans rfl
    have p1 : w5.cell? ⟨w.heap.size, 1, none⟩ = some (.int .u16 h.fport) := (B15.out.cell 1).trans rfl
    have p2 : w5.cell? ⟨w.heap.size, 2, none⟩ = some (.int .u32 h.to_) := (B15.out.cell 2).trans rfl
    have p3 : w5.cell? ⟨w.heap.size, 3, none⟩ = some (.int .u16 h.tport) := (B15.out.cell 3).trans rfl
    have p4 : w5.cell? ⟨w.heap.size, 4, none⟩ = some (.bool h.stream) := (B15.out.cell 4).trans rfl
    have p5 : w5.cell? ⟨w.heap.size, 5, none⟩ = some (.slice a' dn c') := (B15.out.cell 5).trans rfl
    go_wp2_with (refine store_whole rfl 32 (.tmp 4) (.tmp 35) rfl rfl rfl B25.out (by rfl) (by kernel_rfl) (by first | kernel_rfl | rfl) ?_; intro w9 hBx hgx hzx; have R9 := Lib.hid hBx; have g9 := Lib.hid hgx; clear hBx hgx hzx)
    refine bodyPost_ret (results_c rfl _ rfl R9.out Try.underlying32 rfl (by kernel_rfl)) rfl ?_
    exact ⟨⟨_, _, rfl, by rw [hcp.out]; exact own_store (ho5.out.mono kb.out.size) B25.out (by decide) g9.out⟩, kb5.out.grown g9.out kb5.out.size (fun k hk => by have e2 := Option.some.inj hk; have := hl1.out; omega)⟩
  obtain ⟨m, rfl⟩ : ∃ m : Nat, bit = m := ⟨bit.toNat, by omega⟩
  by_cases hx : m / 8 < dn
  · have hxI : ((m : Int) / 8) < dn := by omega
    have hcp : Hid (cpD d (m : Int) = flip d m) := Lib.hid (by unfold cpD; rw [if_neg hneg]; rfl)
    obtain ⟨g, rfl, hgl, X, hX1, hX2, hX3⟩ : ∃ g, a' = some ⟨g, 0, none⟩ ∧ W2.heap.size ≤ g ∧ ∃ X, Blk w5 g 5 (0, 0) (rowOf byteE X) ∧ (X.length = c' ∧ dn ≤ c' ∧ c' ≤ maxLen) ∧ X.take dn = d := by
      obtain ⟨e1, e2⟩ | ⟨g, cap, X, e1, e2, e3, e4, e5, e6, e7⟩ := ho5.out
      · cases e1; omega
      · injection e1 with e8 e9 e10; exact ⟨g, e8, e2, X, e3, ⟨by omega, by omega, by omega⟩, by rw [← hdl]; exact e7⟩
    have hmX : m / 8 < X.length := by have h1 := hX3 ▸ (List.length_take (l := X) (i := dn)); omega
    have hXd : X[m / 8] = d.getD (m / 8) 0 := by rw [← hX3, List.getD_eq_getElem?_getD, List.getElem?_take, if_pos hx, List.getElem?_eq_getElem hmX]; rfl
    have hcx : w5.cell? ⟨g, m / 8, none⟩ = some (.int .u8 (d.getD (m / 8) 0).toNat) := by rw [hX1.cell, ← hXd]; have := rowOf_get byteE X (m / 8) 0 hmX (by decide); simpa [byteE] using this
    obtain ⟨c8, hc8⟩ : ∃ c8, d.getD (m / 8) 0 = c8 := ⟨_, rfl⟩
    rw [hc8] at hcx
    have hX1' := Lib.hid hX1
    have hX2' := Lib.hid hX2
    have hX3' := Lib.hid hX3
    have hc8' := Lib.hid hc8
    have hgl' := Lib.hid hgl
    clear hX1 hX2 hX3 hc8 hgl hXd
    obtain ⟨q, hq⟩ : ∃ q : Nat, m / 8 = q := ⟨_, rfl⟩
    obtain ⟨r, hr⟩ : ∃ r : Nat, m % 8 = r := ⟨_, rfl⟩
    have hm0 : (0 : Int) ≤ m := by omega
    go_upto_region 3 with (fail)
    refine wp_region_still_tail 15 (by kernel_rfl) (by kernel_rfl) ?_
    simp only [List.take_succ_cons, List.take_zero, List.drop_succ_cons, List.drop_zero]
    have hqw : IntKind.i64.wrap ((m : Int) / 8) = (q : Int) := by rw [IntWalk.i64_in _ (by omega)]; omega
    have hrw : (m : Int).tmod 8 = (r : Int) := by rw [← hr]; rfl
    have hqn : (q : Int) < dn := by omega
    have hq0 : (0 : Int) ≤ q := by omega
    have hr0 : (0 : Int) ≤ r := by omega
    have hr8 : (r : Int) < 8 := by omega
    rw [hq] at hcx
    have hq' := Lib.hid hq
    have hr' := Lib.hid hr
    clear hq hr
    iterate 15 still_step
    refine wpStill_nil ?_
    rw [flip_bits c8 (by omega)]
    change wpList _ _ _ _ _ w5.drew
    have BZ := Lib.hid B25.out.drew
    have BPZ := Lib.hid B15.out.drew
    have XZ := Lib.hid hX1'.out.drew
    have kZ : Hid (Below w.heap.size w w5.drew) := Lib.hid kb5.out.drew
    have hcz : w5.drew.cell? ⟨g, q, none⟩ = some (.int .u8 c8.toNat) := hcx
    have hlW : Hid (w.heap.size < W2.heap.size ∧ W1.heap.size < W2.heap.size) := Lib.hid ⟨by have h1 := hl1.out; have h2 := hl2.out; omega, hl2.out⟩
    generalize w5.drew = Z at *
    clear B25 B15 hX1' kb5 hcx p5 ho5
    have fz : Z.frozen? ⟨g, q, none⟩ = false := by rw [XZ.out.frozen]; try simp
    go_upto_region 4 with (fail)
    obtain ⟨U, hU⟩ : ∃ U, Z.setCell ⟨g, q, none⟩ (.int .u8 (flipB c8 r).toNat) = U := ⟨_, rfl⟩
    try rw [hU]
    have TU : Hid (Tch (fun k => k = g) Z U) := Lib.hid (by rw [← hU]; exact Tch.setCell (S := fun k => k = g) Z (p := ⟨g, q, none⟩) rfl _)
    have XU : Hid (Blk U g 5 (0, 0) (rowOf byteE (X.set q (flipB c8 r)))) := Lib.hid (by rw [← hU, row_set]; exact XZ.out.set q _)
    have BU := Lib.hid (TU.out.blk BZ.out (fun e => by have h2 := hgl'.out; have h3 := hlW.out.2; omega))
    have BPU := Lib.hid (TU.out.blk BPZ.out (fun e => by have h2 := hgl'.out; have h3 := hlW.out.1; omega))
    have kU : Hid (Below w.heap.size w U) := Lib.hid (kZ.out.trans (TU.out.below kZ.out.size (fun b _ e => by have h2 := hgl'.out; have h3 := hlW.out.1; omega)))
    have hfd : Hid (flip d m = (X.set q (flipB c8 r)).take dn) := Lib.hid (by unfold flip; rw [hc8'.out, hq'.out, hr'.out, List.take_set, hX3'.out])
    have OU : Hid (Own byteE U w.heap.size (.slice (some ⟨g, 0, none⟩) dn c') (flip d m)) := Lib.hid (.inr ⟨g, c', X.set q (flipB c8 r), by unfold flip; rw [List.length_set, hdl], by have h2 := hgl'.out; have h3 := hlW.out.1; omega, XU.out, by rw [List.length_set]; exact hX2'.out.1, by unfold flip; rw [List.length_set, hdl]; exact hX2'.out.2.1, hX2'.out.2.2, by unfold flip at hfd ⊢; rw [List.length_set, hdl]; exact hfd.out.symm⟩)
    clear hU BZ BPZ XZ kZ TU XU hcz fz hfd hmX
    have p0 : U.cell? ⟨w.heap.size, 0, none⟩ = some (.int .u32 h.from_) := (BPU.out.cell 0).trans rfl
    have p1 : U.cell? ⟨w.heap.size, 1, none⟩ = some (.int .u16 h.fport) := (BPU.out.cell 1).trans rfl
    have p2 : U.cell? ⟨w.heap.size, 2, none⟩ = some (.int .u32 h.to_) := (BPU.out.cell 2).trans rfl
    have p3 : U.cell? ⟨w.heap.size, 3, none⟩ = some (.int .u16 h.tport) := (BPU.out.cell 3).trans rfl
    have p4 : U.cell? ⟨w.heap.size, 4, none⟩ = some (.bool h.stream) := (BPU.out.cell 4).trans rfl
    have p5 : U.cell? ⟨w.heap.size, 5, none⟩ = some (.slice (some ⟨g, 0, none⟩) dn c') := (BPU.out.cell 5).trans rfl
    go_wp2_with (refine store_whole rfl 32 (.tmp 4) (.tmp 35) rfl rfl rfl BU.out (by rfl) (by kernel_rfl) (by first | kernel_rfl | rfl) ?_; intro w9 hBx hgx hzx; have R9 := Lib.hid hBx; have g9 := Lib.hid hgx; clear hBx hgx hzx)
    refine bodyPost_ret (results_c rfl _ rfl R9.out Try.underlying32 rfl (by kernel_rfl)) rfl ?_
    exact ⟨⟨_, _, rfl, by rw [hcp.out]; exact own_store (OU.out) BU.out (by decide) g9.out⟩, kU.out.grown g9.out kU.out.size (fun k hk => by have e2 := Option.some.inj hk; have := hl1.out; omega)⟩
  · have hxI : ¬ ((m : Int) / 8) < dn := by omega
    have hm0 : (0 : Int) ≤ m := by omega
    have hcp : Hid (cpD d (m : Int) = d) := Lib.hid (by unfold cpD; rw [if_neg hneg]; show flip d m = d; unfold flip; rw [List.set_eq_of_length_le (by omega)])
    clear p5
    have p0 : w5.cell? ⟨w.heap.size, 0, none⟩ = some (.int .u32 h.from_) := (B15.out.cell 0).trans rfl
    have p1 : w5.cell? ⟨w.heap.size, 1, none⟩ = some (.int .u16 h.fport) := (B15.out.cell 1).trans rfl
    have p2 : w5.cell? ⟨w.heap.size, 2, none⟩ = some (.int .u32 h.to_) := (B15.out.cell 2).trans rfl
    have p3 : w5.cell? ⟨w.heap.size, 3, none⟩ = some (.int .u16 h.tport) := (B15.out.cell 3).trans rfl
    have p4 : w5.cell? ⟨w.heap.size, 4, none⟩ = some (.bool h.stream) := (B15.out.cell 4).trans rfl
    have p5 : w5.cell? ⟨w.heap.size, 5, none⟩ = some (.slice a' dn c') := (B15.out.cell 5).trans rfl
    go_wp2_with (refine store_whole rfl 32 (.tmp 4) (.tmp 35) rfl rfl rfl B25.out (by rfl) (by kernel_rfl) (by first | kernel_rfl | rfl) ?_; intro w9 hBx hgx hzx; have R9 := Lib.hid hBx; have g9 := Lib.hid hgx; clear hBx hgx hzx)
    refine bodyPost_ret (results_c rfl _ rfl R9.out Try.underlying32 rfl (by kernel_rfl)) rfl ?_
    exact ⟨⟨_, _, rfl, by rw [hcp.out]; exact own_store (ho5.out.mono kb.out.size) B25.out (by decide) g9.out⟩, kb5.out.grown g9.out kb5.out.size (fun k hk => by have e2 := Option.some.inj hk; have := hl1.out; omega)⟩
end Go.Proofs.Ythdnbipfdahnlaa
