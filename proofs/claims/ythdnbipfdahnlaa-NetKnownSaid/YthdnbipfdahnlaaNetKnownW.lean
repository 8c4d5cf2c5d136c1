/- NetKnown. Printed by gen_nk.py. -/
import Derived.Test.YthdnbipfdahnlaaNtM
namespace Go.Proofs.Ythdnbipfdahnlaa
open Go Go.RowKit
def hdZ : Hd := ⟨0, 0, 0, 0, false⟩
def a6 : NS := ⟨F4, 4, [], ⟨4, 1, 0, 4⟩⟩
def a7 : NS := ⟨F4, 4, [⟨9, hdB, [100]⟩], ⟨5, 1, 0, 4⟩⟩
def a8 : NS := ⟨F4, 4, [], ⟨5, 1, 0, 5⟩⟩
theorem a56 : dueS a5 5 = ([⟨5, hdB, [97]⟩, ⟨5, hdB, [99]⟩], 0, a6) := by rfl
theorem a66 : dueS a6 5 = ([], 0, a6) := by rfl
theorem a67 : sendS a6 hdB [100] 9 = (1, 0, a7) := by rfl
theorem a78 : dueS a7 9 = ([⟨9, hdB, [100]⟩], 0, a8) := by rfl
theorem ok6 : a6.ok := ⟨srt0, by decide, by decide, by decide, by decide, by decide, by decide, by decide⟩
theorem ok7 : a7.ok := ⟨srt0.cons (by simp), by decide, by decide, by decide, by decide, by decide, by decide, by decide⟩
theorem ok8 : a8.ok := ⟨srt0, by decide, by decide, by decide, by decide, by decide, by decide, by decide⟩
theorem k6 : a6.ok ∧ ∀ f ∈ a6.F, mayF f = true := ⟨ok6, F4_may⟩
theorem k8 : a8.ok ∧ ∀ f ∈ a8.F, mayF f = true := ⟨ok8, F4_may⟩
def z64 : List UInt8 := List.replicate 65536 0
theorem z64_len : z64.length = 65536 := by unfold z64; rw [List.length_replicate]
theorem a88 : sendS a8 hdZ z64 9 = (0, 3, a8) := by unfold sendS; rw [z64_len]; rfl
theorem make64 : ∃ C : Array Value, C.toList = rowOf byteE z64 ∧ ∀ u : World, (Instr.makeSlice 30 (.int .i64 65536) (.int .i64 65536)).run Try.prog u = .ok (.slice (some ⟨u.heap.size, 0, none⟩) 65536 65536) (u.alloc (.cells C 5)) := by
  obtain ⟨i0, hi, hz0, hz1, hz2⟩ := info_parts Try.info5
  refine ⟨madeCells #[.int .u8 0] 65536, ?_, fun u => ?_⟩
  · rw [madeCells_one, rowOf_byte]
    unfold z64 u8s
    rw [List.map_replicate]
    rfl
  · have h := run_make (P := Try.prog) u 30 5 i0 (.int .u8 0) Try.underlying30 hi hz0 .i64 .i64 65536 65536 (by omega) (Int.le_refl _) (by rw [hz2]; omega) (by omega)
    have e : (65536 : Int).toNat = 65536 := rfl
    rw [e] at h
    simpa only [hz1, Value.cells, Nat.mul_one] using h
theorem next4 : nextS a4 = (2, true) := by rfl
set_option linter.unusedSimpArgs false in
set_option maxHeartbeats 8000000 in
set_option maxRecDepth 100000 in
theorem known_any (w : World) : Calls Try.prog 5 #[] w fun e w' => e = .returned (.bool true) ∧ Below w.heap.size w w' := by
  go_enter Try.func5, Try.ntmps5
  obtain ⟨W1, hW1⟩ : ∃ W, w.alloc (.cells #[.int .i64 0, .int .i64 5, .int .i64 0, .int .i64 1, .int .i64 0, .int .i64 0, .int .i64 2, .int .i64 1, .int .i64 3, .int .i64 3, .int .i64 0, .int .i64 9] 51) = W := ⟨_, rfl⟩
  have O1 : Hid (Rd fateE W1 (some ⟨w.heap.size, 0, none⟩) 4 4 F4) := Lib.hid (by rw [← hW1]; exact (own_rd_at (Own.made fateE w #[.int .i64 0, .int .i64 5, .int .i64 0, .int .i64 1, .int .i64 0, .int .i64 0, .int .i64 2, .int .i64 1, .int .i64 3, .int .i64 3, .int .i64 0, .int .i64 9] F4 4 rfl rfl (by decide))).1)
  have k1 : Hid (Below w.heap.size w W1) := Lib.hid (by rw [← hW1]; exact alloc_bel _ _)
  have hnew := Lib.hid (new_any O1.out (by omega))
  go_wp2_with fail
  try rw [hW1]
  clear hW1
  refine hnew.out.mono ?_
  rintro e w2 ⟨hB, hb2⟩
  clear hnew
  unfold NewB at hB
  rw [if_pos (by rfl)] at hB
  obtain ⟨p, rfl, hP⟩ := hB
  have hz1 : w.heap.size ≤ W1.heap.size := k1.out.size
  have A0 : Hid (NetA w2 p W1.heap.size w2.heap.size (fun g => W1.heap.size ≤ g ∧ g < w2.heap.size) a0) := Lib.hid (NetA.of hP (fun g hg => hg) hb2.size)
  have K0 : Hid (Below w.heap.size w w2) := Lib.hid (k1.out.trans (hb2.mono k1.out.size))
  clear hP hb2 O1 k1
  have mzq1 := Lib.hid A0.out.mw
  obtain ⟨Wl2, hWl2⟩ : ∃ W, w2.alloc (.cells #[.int .u8 97] 5) = W := ⟨_, rfl⟩
  have Ol2 : Hid (Rd byteE Wl2 (some ⟨w2.heap.size, 0, none⟩) 1 1 [97]) := Lib.hid (by rw [← hWl2]; exact (own_rd_at (Own.made byteE w2 #[.int .u8 97] [97] 1 rfl rfl (by decide))).1)
  have kl2 : Hid (Below w2.heap.size w2 Wl2) := Lib.hid (by rw [← hWl2]; exact alloc_bel _ _)
  have A_3 := Lib.hid (A0.out.ext (kl2.out))
  have K_3 := Lib.hid (K0.out.trans ((kl2.out).mono K0.out.size))
  clear A0 K0
  clear kl2
  have mzl2 := mzq1
  clear mzq1
  have hb := Lib.hid (bytes_any Wl2 (some ⟨w2.heap.size, 0, none⟩) 1 1)
  dsimp only [pkV, hdB] at hb
  go_wp2_with fail
  try rw [hWl2]
  try clear hWl2
  refine hb.out.mono ?_
  rintro e x4 ⟨rfl, hbx⟩
  clear hb
  have A_5 := Lib.hid (A_3.out.ext (hbx))
  have K_5 := Lib.hid (K_3.out.trans ((hbx).mono K_3.out.size))
  have Ol2_5 := Lib.hid (Ol2.out.ext (hbx))
  clear A_3 K_3 Ol2
  clear hbx
  have hs := Lib.hid (send_at A_5.out a01k.1 a01k.2 hdB Ol2_5.out (fun b o s e hb => by have h1 := A_5.out.hi b hb; have h2 := Option.some.inj e; injection h2 with h3; have := mzl2.out; omega) (by omega) 0)
  rw [a01] at hs
  dsimp only [pkV, hdB, hdZ] at hs
  go_wp2_with fail
  refine hs.out.mono ?_
  rintro e y6 ⟨rfl, ⟨Sy6, hA, hSS⟩, ht⟩
  clear hs
  have Ay6 := Lib.hid hA
  clear Ol2_5
  have Ky6 := Lib.hid (K_5.out.trans ((A_5.out.below (ht.mono (fun b _ hb => (fun _ h => h) b hb))).mono hz1))
  clear K_5 A_5
  clear ht hA hSS
  have mzq7 := Lib.hid Ay6.out.mw
  obtain ⟨Wl8, hWl8⟩ : ∃ W, y6.alloc (.cells #[.int .u8 98] 5) = W := ⟨_, rfl⟩
  have Ol8 : Hid (Rd byteE Wl8 (some ⟨y6.heap.size, 0, none⟩) 1 1 [98]) := Lib.hid (by rw [← hWl8]; exact (own_rd_at (Own.made byteE y6 #[.int .u8 98] [98] 1 rfl rfl (by decide))).1)
  have kl8 : Hid (Below y6.heap.size y6 Wl8) := Lib.hid (by rw [← hWl8]; exact alloc_bel _ _)
  have A_9 := Lib.hid (Ay6.out.ext (kl8.out))
  have K_9 := Lib.hid (Ky6.out.trans ((kl8.out).mono Ky6.out.size))
  clear Ay6 Ky6
  clear kl8
  have mzl8 := mzq7
  clear mzq7
  have hb := Lib.hid (bytes_any Wl8 (some ⟨y6.heap.size, 0, none⟩) 1 1)
  dsimp only [pkV, hdB] at hb
  go_wp2_with fail
  try rw [hWl8]
  try clear hWl8
  refine hb.out.mono ?_
  rintro e x10 ⟨rfl, hbx⟩
  clear hb
  have A_11 := Lib.hid (A_9.out.ext (hbx))
  have K_11 := Lib.hid (K_9.out.trans ((hbx).mono K_9.out.size))
  have Ol8_11 := Lib.hid (Ol8.out.ext (hbx))
  clear A_9 K_9 Ol8
  clear hbx
  have hs := Lib.hid (send_at A_11.out a12k.1 a12k.2 hdB Ol8_11.out (fun b o s e hb => by have h1 := A_11.out.hi b hb; have h2 := Option.some.inj e; injection h2 with h3; have := mzl8.out; omega) (by omega) 0)
  rw [a12] at hs
  dsimp only [pkV, hdB, hdZ] at hs
  go_wp2_with fail
  refine hs.out.mono ?_
  rintro e y12 ⟨rfl, ⟨Sy12, hA, hSS⟩, ht⟩
  clear hs
  have Ay12 := Lib.hid hA
  clear Ol8_11
  have Ky12 := Lib.hid (K_11.out.trans ((A_11.out.below (ht.mono (fun b _ hb => (fun _ h => h) b hb))).mono hz1))
  clear K_11 A_11
  clear ht hA hSS
  have mzq13 := Lib.hid Ay12.out.mw
  obtain ⟨Wl14, hWl14⟩ : ∃ W, y12.alloc (.cells #[.int .u8 99] 5) = W := ⟨_, rfl⟩
  have Ol14 : Hid (Rd byteE Wl14 (some ⟨y12.heap.size, 0, none⟩) 1 1 [99]) := Lib.hid (by rw [← hWl14]; exact (own_rd_at (Own.made byteE y12 #[.int .u8 99] [99] 1 rfl rfl (by decide))).1)
  have kl14 : Hid (Below y12.heap.size y12 Wl14) := Lib.hid (by rw [← hWl14]; exact alloc_bel _ _)
  have A_15 := Lib.hid (Ay12.out.ext (kl14.out))
  have K_15 := Lib.hid (Ky12.out.trans ((kl14.out).mono Ky12.out.size))
  clear Ay12 Ky12
  clear kl14
  have mzl14 := mzq13
  clear mzq13
  have hb := Lib.hid (bytes_any Wl14 (some ⟨y12.heap.size, 0, none⟩) 1 1)
  dsimp only [pkV, hdB] at hb
  go_wp2_with fail
  try rw [hWl14]
  try clear hWl14
  refine hb.out.mono ?_
  rintro e x16 ⟨rfl, hbx⟩
  clear hb
  have A_17 := Lib.hid (A_15.out.ext (hbx))
  have K_17 := Lib.hid (K_15.out.trans ((hbx).mono K_15.out.size))
  have Ol14_17 := Lib.hid (Ol14.out.ext (hbx))
  clear A_15 K_15 Ol14
  clear hbx
  have hs := Lib.hid (send_at A_17.out a23k.1 a23k.2 hdB Ol14_17.out (fun b o s e hb => by have h1 := A_17.out.hi b hb; have h2 := Option.some.inj e; injection h2 with h3; have := mzl14.out; omega) (by omega) 1)
  rw [a23] at hs
  dsimp only [pkV, hdB, hdZ] at hs
  go_wp2_with fail
  refine hs.out.mono ?_
  rintro e y18 ⟨rfl, ⟨Sy18, hA, hSS⟩, ht⟩
  clear hs
  have Ay18 := Lib.hid hA
  clear Ol14_17
  have Ky18 := Lib.hid (K_17.out.trans ((A_17.out.below (ht.mono (fun b _ hb => (fun _ h => h) b hb))).mono hz1))
  clear K_17 A_17
  clear ht hA hSS
  have mzq19 := Lib.hid Ay18.out.mw
  obtain ⟨Wl20, hWl20⟩ : ∃ W, y18.alloc (.cells #[.int .u8 7, .int .u8 7] 5) = W := ⟨_, rfl⟩
  have Ol20 : Hid (Rd byteE Wl20 (some ⟨y18.heap.size, 0, none⟩) 2 2 [7, 7]) := Lib.hid (by rw [← hWl20]; exact (own_rd_at (Own.made byteE y18 #[.int .u8 7, .int .u8 7] [7, 7] 2 rfl rfl (by decide))).1)
  have kl20 : Hid (Below y18.heap.size y18 Wl20) := Lib.hid (by rw [← hWl20]; exact alloc_bel _ _)
  have A_21 := Lib.hid (Ay18.out.ext (kl20.out))
  have K_21 := Lib.hid (Ky18.out.trans ((kl20.out).mono Ky18.out.size))
  clear Ay18 Ky18
  clear kl20
  have mzl20 := mzq19
  clear mzq19
  have hb := Lib.hid (bytes_any Wl20 (some ⟨y18.heap.size, 0, none⟩) 2 2)
  dsimp only [pkV, hdB] at hb
  go_wp2_with fail
  try rw [hWl20]
  try clear hWl20
  refine hb.out.mono ?_
  rintro e x22 ⟨rfl, hbx⟩
  clear hb
  have A_23 := Lib.hid (A_21.out.ext (hbx))
  have K_23 := Lib.hid (K_21.out.trans ((hbx).mono K_21.out.size))
  have Ol20_23 := Lib.hid (Ol20.out.ext (hbx))
  clear A_21 K_21 Ol20
  clear hbx
  have hs := Lib.hid (send_at A_23.out a34k.1 a34k.2 hdB Ol20_23.out (fun b o s e hb => by have h1 := A_23.out.hi b hb; have h2 := Option.some.inj e; injection h2 with h3; have := mzl20.out; omega) (by omega) 2)
  rw [a34] at hs
  dsimp only [pkV, hdB, hdZ] at hs
  go_wp2_with fail
  refine hs.out.mono ?_
  rintro e y24 ⟨rfl, ⟨Sy24, hA, hSS⟩, ht⟩
  clear hs
  have Ay24 := Lib.hid hA
  clear Ol20_23
  have Ky24 := Lib.hid (K_23.out.trans ((A_23.out.below (ht.mono (fun b _ hb => (fun _ h => h) b hb))).mono hz1))
  clear K_23 A_23
  clear ht hA hSS
  have hs := Lib.hid (next_any Ay24.out.P)
  rw [next4] at hs
  go_wp2_with fail
  refine hs.out.mono ?_
  rintro e _ ⟨rfl, rfl⟩
  clear hs
  have hs := Lib.hid (due_told Ay24.out ok4 2)
  rw [a45] at hs
  simp only [List.map, List.length, Nat.zero_add, Nat.reduceAdd] at hs
  have hsn := Ay24.out.sn
  go_wp2_with fail
  refine hs.out.mono ?_
  rintro e u25 ⟨au25, ku25, cu25, Su25, rfl, hk, hT, hA, hSS, ht⟩
  clear hs
  subst hk
  dsimp only
  have Au25 := Lib.hid hA
  have Ku25 := Lib.hid (Ky24.out.trans ((Ay24.out.below (ht.mono (fun b _ hb => (fun g e => by rw [e]; exact hsn) b hb))).mono hz1))
  clear Ky24 Ay24
  clear ht hA hSS hT hsn
  have hs := Lib.hid (due_told Au25.out ok5 5)
  rw [a56] at hs
  simp only [List.map, List.length, Nat.zero_add, Nat.reduceAdd] at hs
  have hsn := Au25.out.sn
  go_wp2_with fail
  refine hs.out.mono ?_
  rintro e u26 ⟨au26, ku26, cu26, Su26, rfl, hk, hT, hA, hSS, ht⟩
  clear hs
  subst hk
  dsimp only
  have Au26 := Lib.hid hA
  have Ku26 := Lib.hid (Ku25.out.trans ((Au25.out.below (ht.mono (fun b _ hb => (fun g e => by rw [e]; exact hsn) b hb))).mono hz1))
  clear Ku25 Au25
  have Tl := Lib.hid hT
  clear ht hA hSS hT hsn
  have hs := Lib.hid (due_told Au26.out ok6 5)
  rw [a66] at hs
  simp only [List.map, List.length, Nat.zero_add, Nat.reduceAdd] at hs
  have hsn := Au26.out.sn
  go_wp2_with fail
  refine hs.out.mono ?_
  rintro e u27 ⟨au27, ku27, cu27, Su27, rfl, hk, hT, hA, hSS, ht⟩
  clear hs
  subst hk
  dsimp only
  have Au27 := Lib.hid hA
  have Tl_u27 := Lib.hid (Tl.out.step (S' := Su27) ht (fun g e => by rw [e]; exact hsn) (fun g h => .inl (hSS g h)))
  clear Tl
  have Ku27 := Lib.hid (Ku26.out.trans ((Au26.out.below (ht.mono (fun b _ hb => (fun g e => by rw [e]; exact hsn) b hb))).mono hz1))
  clear Ku26 Au26
  clear ht hA hSS hT hsn
  have hs := Lib.hid (counts_any Au27.out.P)
  dsimp only [a6] at hs
  go_wp2_with fail
  refine hs.out.mono ?_
  rintro e wc ⟨rfl, q, hq⟩
  clear hs
  have hbc : Below u27.heap.size u27 wc := by rw [hq]; exact below_drewN (Below.refl _ _) q
  clear hq
  have A_28 := Lib.hid (Au27.out.ext (hbc))
  have K_28 := Lib.hid (Ku27.out.trans ((hbc).mono Ku27.out.size))
  have Tl_28 := Lib.hid (Tl_u27.out.ext (hbc))
  clear Au27 Ku27 Tl_u27
  clear hbc
  have mzq29 := Lib.hid A_28.out.mw
  obtain ⟨Wl30, hWl30⟩ : ∃ W, wc.alloc (.cells #[.int .u8 100] 5) = W := ⟨_, rfl⟩
  have Ol30 : Hid (Rd byteE Wl30 (some ⟨wc.heap.size, 0, none⟩) 1 1 [100]) := Lib.hid (by rw [← hWl30]; exact (own_rd_at (Own.made byteE wc #[.int .u8 100] [100] 1 rfl rfl (by decide))).1)
  have kl30 : Hid (Below wc.heap.size wc Wl30) := Lib.hid (by rw [← hWl30]; exact alloc_bel _ _)
  have A_31 := Lib.hid (A_28.out.ext (kl30.out))
  have K_31 := Lib.hid (K_28.out.trans ((kl30.out).mono K_28.out.size))
  have Tl_31 := Lib.hid (Tl_28.out.ext (kl30.out))
  clear A_28 K_28 Tl_28
  clear kl30
  have mzl30 := mzq29
  clear mzq29
  have hb := Lib.hid (bytes_any Wl30 (some ⟨wc.heap.size, 0, none⟩) 1 1)
  dsimp only [pkV, hdB] at hb
  go_wp2_with fail
  try rw [hWl30]
  try clear hWl30
  refine hb.out.mono ?_
  rintro e x32 ⟨rfl, hbx⟩
  clear hb
  have A_33 := Lib.hid (A_31.out.ext (hbx))
  have K_33 := Lib.hid (K_31.out.trans ((hbx).mono K_31.out.size))
  have Tl_33 := Lib.hid (Tl_31.out.ext (hbx))
  have Ol30_33 := Lib.hid (Ol30.out.ext (hbx))
  clear A_31 K_31 Tl_31 Ol30
  clear hbx
  have hs := Lib.hid (send_at A_33.out k6.1 k6.2 hdB Ol30_33.out (fun b o s e hb => by have h1 := A_33.out.hi b hb; have h2 := Option.some.inj e; injection h2 with h3; have := mzl30.out; omega) (by omega) 9)
  rw [a67] at hs
  dsimp only [pkV, hdB, hdZ] at hs
  go_wp2_with fail
  refine hs.out.mono ?_
  rintro e y34 ⟨rfl, ⟨Sy34, hA, hSS⟩, ht⟩
  clear hs
  have Ay34 := Lib.hid hA
  have Tl_y34 := Lib.hid (Tl_33.out.step (S' := Sy34) ht (fun _ h => h) hSS)
  clear Tl_33
  clear Ol30_33
  have Ky34 := Lib.hid (K_33.out.trans ((A_33.out.below (ht.mono (fun b _ hb => (fun _ h => h) b hb))).mono hz1))
  clear K_33 A_33
  clear ht hA hSS
  have hs := Lib.hid (due_told Ay34.out ok7 9)
  rw [a78] at hs
  simp only [List.map, List.length, Nat.zero_add, Nat.reduceAdd] at hs
  have hsn := Ay34.out.sn
  go_wp2_with fail
  refine hs.out.mono ?_
  rintro e u35 ⟨au35, ku35, cu35, Su35, rfl, hk, hT, hA, hSS, ht⟩
  clear hs
  subst hk
  dsimp only
  have Au35 := Lib.hid hA
  have Tl_u35 := Lib.hid (Tl_y34.out.step (S' := Su35) ht (fun g e => by rw [e]; exact hsn) (fun g h => .inl (hSS g h)))
  clear Tl_y34
  have Ku35 := Lib.hid (Ky34.out.trans ((Ay34.out.below (ht.mono (fun b _ hb => (fun g e => by rw [e]; exact hsn) b hb))).mono hz1))
  clear Ky34 Ay34
  have To := Lib.hid hT
  clear ht hA hSS hT hsn
  obtain ⟨Wl36, hWl36⟩ : ∃ W, u35.alloc (.cells #[.int .i64 4, .int .i64 0, .int .i64 0] 51) = W := ⟨_, rfl⟩
  have Ol36 : Hid (Rd fateE Wl36 (some ⟨u35.heap.size, 0, none⟩) 1 1 [(4, 0, 0)]) := Lib.hid (by rw [← hWl36]; exact (own_rd_at (Own.made fateE u35 #[.int .i64 4, .int .i64 0, .int .i64 0] [(4, 0, 0)] 1 rfl rfl (by decide))).1)
  have kl36 : Hid (Below u35.heap.size u35 Wl36) := Lib.hid (by rw [← hWl36]; exact alloc_bel _ _)
  have A_37 := Lib.hid (Au35.out.ext (kl36.out))
  have K_37 := Lib.hid (Ku35.out.trans ((kl36.out).mono Ku35.out.size))
  have Tl_37 := Lib.hid (Tl_u35.out.ext (kl36.out))
  have To_37 := Lib.hid (To.out.ext (kl36.out))
  clear Au35 Ku35 Tl_u35 To
  clear kl36
  have hs := Lib.hid (new_any Ol36.out (by omega))
  go_wp2_with fail
  try rw [hWl36]
  try clear hWl36
  refine hs.out.mono ?_
  rintro e n0 ⟨hB, hbx⟩
  clear hs
  unfold NewB at hB
  rw [if_neg (by decide)] at hB
  replace hB : e = .returned (.tuple #[.pointer none, .int .i64 2]) := hB
  subst hB
  have A_38 := Lib.hid (A_37.out.ext (hbx))
  have K_38 := Lib.hid (K_37.out.trans ((hbx).mono K_37.out.size))
  have Tl_38 := Lib.hid (Tl_37.out.ext (hbx))
  have To_38 := Lib.hid (To_37.out.ext (hbx))
  have Ol36_38 := Lib.hid (Ol36.out.ext (hbx))
  clear A_37 K_37 Tl_37 To_37 Ol36
  clear hbx
  clear Ol36_38
  obtain ⟨Wl39, hWl39⟩ : ∃ W, n0.alloc (.cells #[.int .i64 0, .int .i64 (-1), .int .i64 0] 51) = W := ⟨_, rfl⟩
  have Ol39 : Hid (Rd fateE Wl39 (some ⟨n0.heap.size, 0, none⟩) 1 1 [(0, -1, 0)]) := Lib.hid (by rw [← hWl39]; exact (own_rd_at (Own.made fateE n0 #[.int .i64 0, .int .i64 (-1), .int .i64 0] [(0, -1, 0)] 1 rfl rfl (by decide))).1)
  have kl39 : Hid (Below n0.heap.size n0 Wl39) := Lib.hid (by rw [← hWl39]; exact alloc_bel _ _)
  have A_40 := Lib.hid (A_38.out.ext (kl39.out))
  have K_40 := Lib.hid (K_38.out.trans ((kl39.out).mono K_38.out.size))
  have Tl_40 := Lib.hid (Tl_38.out.ext (kl39.out))
  have To_40 := Lib.hid (To_38.out.ext (kl39.out))
  clear A_38 K_38 Tl_38 To_38
  clear kl39
  have hs := Lib.hid (new_any Ol39.out (by omega))
  go_wp2_with fail
  try rw [hWl39]
  try clear hWl39
  refine hs.out.mono ?_
  rintro e n1 ⟨hB, hbx⟩
  clear hs
  unfold NewB at hB
  rw [if_neg (by decide)] at hB
  replace hB : e = .returned (.tuple #[.pointer none, .int .i64 2]) := hB
  subst hB
  have A_41 := Lib.hid (A_40.out.ext (hbx))
  have K_41 := Lib.hid (K_40.out.trans ((hbx).mono K_40.out.size))
  have Tl_41 := Lib.hid (Tl_40.out.ext (hbx))
  have To_41 := Lib.hid (To_40.out.ext (hbx))
  have Ol39_41 := Lib.hid (Ol39.out.ext (hbx))
  clear A_40 K_40 Tl_40 To_40 Ol39
  clear hbx
  clear Ol39_41
  obtain ⟨C, hC, hmk⟩ := make64
  have mzb := Lib.hid A_41.out.mw
  obtain ⟨Wb, hWb⟩ : ∃ W, n1.alloc (.cells C 5) = W := ⟨_, rfl⟩
  have Ob : Hid (Rd byteE Wb (some ⟨n1.heap.size, 0, none⟩) 65536 65536 z64) := Lib.hid (by rw [← hWb]; exact (own_rd_at (Own.made byteE n1 C z64 65536 hC z64_len.symm (by decide))).1)
  have kb : Hid (Below n1.heap.size n1 Wb) := Lib.hid (by rw [← hWb]; exact alloc_bel _ _)
  clear hC
  have A_42 := Lib.hid (A_41.out.ext (kb.out))
  have K_42 := Lib.hid (K_41.out.trans ((kb.out).mono K_41.out.size))
  have Tl_42 := Lib.hid (Tl_41.out.ext (kb.out))
  have To_42 := Lib.hid (To_41.out.ext (kb.out))
  clear A_41 K_41 Tl_41 To_41
  clear kb
  have hs := Lib.hid (send_at A_42.out k8.1 k8.2 hdZ Ob.out (fun b o s e hb => by have h1 := A_42.out.hi b hb; have h2 := Option.some.inj e; injection h2 with h3; have := mzb.out; omega) (by omega) 9)
  rw [a88] at hs
  dsimp only [pkV, hdZ] at hs
  go_wp2_with fail
  try rw [hWb]
  try clear hWb hmk
  refine hs.out.mono ?_
  rintro e yb ⟨rfl, ⟨Syb, hA, hSS⟩, ht⟩
  clear hs
  have Ayb := Lib.hid hA
  have Tl_yb := Lib.hid (Tl_42.out.step (S' := Syb) ht (fun _ h => h) hSS)
  clear Tl_42
  have To_yb := Lib.hid (To_42.out.step (S' := Syb) ht (fun _ h => h) hSS)
  clear To_42
  clear Ob
  have Kyb := Lib.hid (K_42.out.trans ((A_42.out.below (ht.mono (fun b _ hb => (fun _ h => h) b hb))).mono hz1))
  clear K_42 A_42
  clear ht hA hSS Ayb
  obtain ⟨Wl44, hWl44⟩ : ∃ W, yb.alloc (.cells #[.int .u8 97] 5) = W := ⟨_, rfl⟩
  have Ol44 : Hid (Rd byteE Wl44 (some ⟨yb.heap.size, 0, none⟩) 1 1 [97]) := Lib.hid (by rw [← hWl44]; exact (own_rd_at (Own.made byteE yb #[.int .u8 97] [97] 1 rfl rfl (by decide))).1)
  have kl44 : Hid (Below yb.heap.size yb Wl44) := Lib.hid (by rw [← hWl44]; exact alloc_bel _ _)
  have K_45 := Lib.hid (Kyb.out.trans ((kl44.out).mono Kyb.out.size))
  have Tl_45 := Lib.hid (Tl_yb.out.ext (kl44.out))
  have To_45 := Lib.hid (To_yb.out.ext (kl44.out))
  clear Kyb Tl_yb To_yb
  clear kl44
  have hb := Lib.hid (bytes_any Wl44 (some ⟨yb.heap.size, 0, none⟩) 1 1)
  dsimp only [pkV, hdB] at hb
  go_wp2_with fail
  try rw [hWl44]
  try clear hWl44
  refine hb.out.mono ?_
  rintro e x46 ⟨rfl, hbx⟩
  clear hb
  have K_47 := Lib.hid (K_45.out.trans ((hbx).mono K_45.out.size))
  have Tl_47 := Lib.hid (Tl_45.out.ext (hbx))
  have To_47 := Lib.hid (To_45.out.ext (hbx))
  have Ol44_47 := Lib.hid (Ol44.out.ext (hbx))
  clear K_45 Tl_45 To_45 Ol44
  clear hbx
  obtain ⟨Wl48, hWl48⟩ : ∃ W, x46.alloc (.cells #[.int .u8 99] 5) = W := ⟨_, rfl⟩
  have Ol48 : Hid (Rd byteE Wl48 (some ⟨x46.heap.size, 0, none⟩) 1 1 [99]) := Lib.hid (by rw [← hWl48]; exact (own_rd_at (Own.made byteE x46 #[.int .u8 99] [99] 1 rfl rfl (by decide))).1)
  have kl48 : Hid (Below x46.heap.size x46 Wl48) := Lib.hid (by rw [← hWl48]; exact alloc_bel _ _)
  have K_49 := Lib.hid (K_47.out.trans ((kl48.out).mono K_47.out.size))
  have Tl_49 := Lib.hid (Tl_47.out.ext (kl48.out))
  have To_49 := Lib.hid (To_47.out.ext (kl48.out))
  have Ol44_49 := Lib.hid (Ol44_47.out.ext (kl48.out))
  clear K_47 Tl_47 To_47 Ol44_47
  clear kl48
  have hb := Lib.hid (bytes_any Wl48 (some ⟨x46.heap.size, 0, none⟩) 1 1)
  dsimp only [pkV, hdB] at hb
  go_wp2_with fail
  try rw [hWl48]
  try clear hWl48
  refine hb.out.mono ?_
  rintro e x50 ⟨rfl, hbx⟩
  clear hb
  have K_51 := Lib.hid (K_49.out.trans ((hbx).mono K_49.out.size))
  have Tl_51 := Lib.hid (Tl_49.out.ext (hbx))
  have To_51 := Lib.hid (To_49.out.ext (hbx))
  have Ol44_51 := Lib.hid (Ol44_49.out.ext (hbx))
  have Ol48_51 := Lib.hid (Ol48.out.ext (hbx))
  clear K_49 Tl_49 To_49 Ol44_49 Ol48
  clear hbx
  obtain ⟨Wl52, hWl52⟩ : ∃ W, x50.alloc (.cells #[.int .u32 1, .int .u16 0, .int .u32 2, .int .u16 53, .bool false, .slice (some ⟨yb.heap.size, 0, none⟩) 1 1, .int .u32 1, .int .u16 0, .int .u32 2, .int .u16 53, .bool false, .slice (some ⟨x46.heap.size, 0, none⟩) 1 1] 32) = W := ⟨_, rfl⟩
  have Ol52 : Hid (Rd pkE Wl52 (some ⟨x50.heap.size, 0, none⟩) 2 2 [⟨hdB, some ⟨yb.heap.size, 0, none⟩, 1, 1⟩, ⟨hdB, some ⟨x46.heap.size, 0, none⟩, 1, 1⟩]) := Lib.hid (by rw [← hWl52]; exact (own_rd_at (Own.made pkE x50 #[.int .u32 1, .int .u16 0, .int .u32 2, .int .u16 53, .bool false, .slice (some ⟨yb.heap.size, 0, none⟩) 1 1, .int .u32 1, .int .u16 0, .int .u32 2, .int .u16 53, .bool false, .slice (some ⟨x46.heap.size, 0, none⟩) 1 1] [⟨hdB, some ⟨yb.heap.size, 0, none⟩, 1, 1⟩, ⟨hdB, some ⟨x46.heap.size, 0, none⟩, 1, 1⟩] 2 rfl rfl (by decide))).1)
  have kl52 : Hid (Below x50.heap.size x50 Wl52) := Lib.hid (by rw [← hWl52]; exact alloc_bel _ _)
  have K_53 := Lib.hid (K_51.out.trans ((kl52.out).mono K_51.out.size))
  have Tl_53 := Lib.hid (Tl_51.out.ext (kl52.out))
  have To_53 := Lib.hid (To_51.out.ext (kl52.out))
  have Ol44_53 := Lib.hid (Ol44_51.out.ext (kl52.out))
  have Ol48_53 := Lib.hid (Ol48_51.out.ext (kl52.out))
  clear K_51 Tl_51 To_51 Ol44_51 Ol48_51
  clear kl52
  have hL : Hid (RdP Wl52 (some ⟨x50.heap.size, 0, none⟩) 2 2 [(hdB, [97]), (hdB, [99])]) := Lib.hid ⟨_, Ol52.out, rfl, fun j q x hq hx => by
    match j, hq, hx with
    | 0, hq, hx => cases hq; cases hx; exact ⟨rfl, Ol44_53.out⟩
    | 1, hq, hx => cases hq; cases hx; exact ⟨rfl, Ol48_53.out⟩
    | j + 2, hq, hx => simp at hq⟩
  have hp := Lib.hid (packets_any Tl_53.out.rdP hL.out (by omega))
  rw [sameL_refl] at hp
  go_wp2_with fail
  try rw [hWl52]
  try clear hWl52
  refine hp.out.mono ?_
  rintro e zl ⟨rfl, hz⟩
  clear hp hL
  clear Ol44_53
  clear Ol48_53
  clear Ol52
  have K_54 := Lib.hid (K_53.out.trans ((hz).mono K_53.out.size))
  have Tl_54 := Lib.hid (Tl_53.out.ext (hz))
  have To_54 := Lib.hid (To_53.out.ext (hz))
  clear K_53 Tl_53 To_53
  clear hz
  have ha := Lib.hid (awake_any zl)
  go_wp2_with fail
  refine ha.out.mono ?_
  rintro e za ⟨rfl, hz⟩
  clear ha
  have K_55 := Lib.hid (K_54.out.trans ((hz).mono K_54.out.size))
  have Tl_55 := Lib.hid (Tl_54.out.ext (hz))
  have To_55 := Lib.hid (To_54.out.ext (hz))
  clear K_54 Tl_54 To_54
  clear hz
  obtain ⟨Wl56, hWl56⟩ : ∃ W, za.alloc (.cells #[.int .u8 100] 5) = W := ⟨_, rfl⟩
  have Ol56 : Hid (Rd byteE Wl56 (some ⟨za.heap.size, 0, none⟩) 1 1 [100]) := Lib.hid (by rw [← hWl56]; exact (own_rd_at (Own.made byteE za #[.int .u8 100] [100] 1 rfl rfl (by decide))).1)
  have kl56 : Hid (Below za.heap.size za Wl56) := Lib.hid (by rw [← hWl56]; exact alloc_bel _ _)
  have K_57 := Lib.hid (K_55.out.trans ((kl56.out).mono K_55.out.size))
  have Tl_57 := Lib.hid (Tl_55.out.ext (kl56.out))
  have To_57 := Lib.hid (To_55.out.ext (kl56.out))
  clear K_55 Tl_55 To_55
  clear kl56
  have hb := Lib.hid (bytes_any Wl56 (some ⟨za.heap.size, 0, none⟩) 1 1)
  dsimp only [pkV, hdB] at hb
  go_wp2_with fail
  try rw [hWl56]
  try clear hWl56
  refine hb.out.mono ?_
  rintro e x58 ⟨rfl, hbx⟩
  clear hb
  have K_59 := Lib.hid (K_57.out.trans ((hbx).mono K_57.out.size))
  have Tl_59 := Lib.hid (Tl_57.out.ext (hbx))
  have To_59 := Lib.hid (To_57.out.ext (hbx))
  have Ol56_59 := Lib.hid (Ol56.out.ext (hbx))
  clear K_57 Tl_57 To_57 Ol56
  clear hbx
  obtain ⟨Wl60, hWl60⟩ : ∃ W, x58.alloc (.cells #[.int .u32 1, .int .u16 0, .int .u32 2, .int .u16 53, .bool false, .slice (some ⟨za.heap.size, 0, none⟩) 1 1] 32) = W := ⟨_, rfl⟩
  have Ol60 : Hid (Rd pkE Wl60 (some ⟨x58.heap.size, 0, none⟩) 1 1 [⟨hdB, some ⟨za.heap.size, 0, none⟩, 1, 1⟩]) := Lib.hid (by rw [← hWl60]; exact (own_rd_at (Own.made pkE x58 #[.int .u32 1, .int .u16 0, .int .u32 2, .int .u16 53, .bool false, .slice (some ⟨za.heap.size, 0, none⟩) 1 1] [⟨hdB, some ⟨za.heap.size, 0, none⟩, 1, 1⟩] 1 rfl rfl (by decide))).1)
  have kl60 : Hid (Below x58.heap.size x58 Wl60) := Lib.hid (by rw [← hWl60]; exact alloc_bel _ _)
  have K_61 := Lib.hid (K_59.out.trans ((kl60.out).mono K_59.out.size))
  have Tl_61 := Lib.hid (Tl_59.out.ext (kl60.out))
  have To_61 := Lib.hid (To_59.out.ext (kl60.out))
  have Ol56_61 := Lib.hid (Ol56_59.out.ext (kl60.out))
  clear K_59 Tl_59 To_59 Ol56_59
  clear kl60
  have hL : Hid (RdP Wl60 (some ⟨x58.heap.size, 0, none⟩) 1 1 [(hdB, [100])]) := Lib.hid ⟨_, Ol60.out, rfl, fun j q x hq hx => by
    match j, hq, hx with
    | 0, hq, hx => cases hq; cases hx; exact ⟨rfl, Ol56_61.out⟩
    | j + 1, hq, hx => simp at hq⟩
  have hp := Lib.hid (packets_any To_61.out.rdP hL.out (by omega))
  rw [sameL_refl] at hp
  go_wp2_with fail
  try rw [hWl60]
  try clear hWl60
  refine hp.out.mono ?_
  rintro e zo ⟨rfl, hz⟩
  clear hp hL
  clear Ol56_61
  clear Ol60
  have K_62 := Lib.hid (K_61.out.trans ((hz).mono K_61.out.size))
  have Tl_62 := Lib.hid (Tl_61.out.ext (hz))
  have To_62 := Lib.hid (To_61.out.ext (hz))
  clear K_61 Tl_61 To_61
  clear hz
  go_wp2_with fail
  go_ret
  exact ⟨rfl, K_62.out⟩
end Go.Proofs.Ythdnbipfdahnlaa
