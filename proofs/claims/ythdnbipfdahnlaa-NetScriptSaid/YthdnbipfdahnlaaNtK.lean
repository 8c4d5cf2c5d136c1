/- A network that is made by a law; awake 8. Printed by gen_ntk.py. -/
import Derived.Test.YthdnbipfdahnlaaNtH
import Derived.Test.YthdnbipfdahnlaaNtJ
namespace Go.Proofs.Ythdnbipfdahnlaa
open Go Go.RowKit
/-- the network at n in state s: its blocks are those of S, from B on, below m -/
structure NetA (w : World) (n B m : Nat) (S : Nat → Prop) (s : NS) : Prop where
  P : NetP w n S s
  lo : ∀ g, S g → B ≤ g
  hi : ∀ g, S g → g < m
  bm : B ≤ m
  mw : m ≤ w.heap.size
theorem NetA.ext {w w' : World} {n B m : Nat} {S : Nat → Prop} {s : NS} (h : NetA w n B m S s) (hb : Below w.heap.size w w') : NetA w' n B m S s := ⟨h.P.ext hb, h.lo, h.hi, h.bm, Nat.le_trans h.mw hb.size⟩
theorem NetP.shrink {w : World} {n : Nat} {S : Nat → Prop} {s : NS} (h : NetP w n S s) : NetP w n (fun g => S g ∧ g < w.heap.size) s := by
  obtain ⟨fa, fn, fc, v, ob, FL, h⟩ := h
  exact ⟨fa, fn, fc, v, ob, FL, h.shrink⟩
theorem NetA.of {w : World} {n B : Nat} {S : Nat → Prop} {s : NS} (h : NetP w n S s) (hl : ∀ g, S g → B ≤ g) (hB : B ≤ w.heap.size) : NetA w n B w.heap.size (fun g => S g ∧ g < w.heap.size) s := ⟨h.shrink, fun g hg => hl g hg.1, fun _ hg => hg.2, hB, Nat.le_refl _⟩
theorem send_at0 {w : World} {n B m : Nat} {S : Nat → Prop} {s : NS} (hA : NetA w n B m S s) (hok : s.ok) (hF : ∀ f ∈ s.F, mayF f = true) (h : Hd) {da : Option Addr} {dn dc : Nat} {d : List UInt8} (hp : Rd byteE w da dn dc d) (hap : ∀ b o s, 0 < dn → da = some ⟨b, o, s⟩ → ¬ S b) (hdn : dn ≤ 140737488355328) (y : Int) :
    Calls Try.prog 14 #[.pointer (some ⟨n, 0, none⟩), pkV h (.slice da dn dc), .int .i64 y] w fun e w' => e = .returned (.tuple #[.int .i64 (sendS s h d y).1, .int .i64 (sendS s h d y).2.1]) ∧ (∃ S', NetA w' n B w'.heap.size S' (sendS s h d y).2.2 ∧ ∀ g, S' g → S g ∨ w.heap.size ≤ g) ∧ Tch S w w' := by
  refine (send_any hA.P hok hF h hp hap hdn y).mono ?_
  rintro e w' ⟨h1, h2, h3⟩
  have hm := hA.mw
  have hb := hA.bm
  have hz := h3.size
  refine ⟨h1, ⟨_, NetA.of (B := B) h2 (fun g hg => ?_) (by omega), fun g hg => hg.1⟩, h3⟩
  rcases hg with hg | hg
  · exact hA.lo g hg
  · omega
theorem send_at {w : World} {n B m : Nat} {S : Nat → Prop} {s : NS} (hA : NetA w n B m S s) (hok : s.ok) (hF : ∀ f ∈ s.F, mayF f = true) (h : Hd) {da : Option Addr} {dn dc : Nat} {d : List UInt8} (hp : Rd byteE w da dn dc d) (hap : ∀ b o s, da = some ⟨b, o, s⟩ → ¬ S b) (hdn : dn ≤ 140737488355328) (y : Int) :
    Calls Try.prog 14 #[.pointer (some ⟨n, 0, none⟩), pkV h (.slice da dn dc), .int .i64 y] w fun e w' => e = .returned (.tuple #[.int .i64 (sendS s h d y).1, .int .i64 (sendS s h d y).2.1]) ∧ (∃ S', NetA w' n B w'.heap.size S' (sendS s h d y).2.2 ∧ ∀ g, S' g → S g ∨ w.heap.size ≤ g) ∧ Tch S w w' :=
  send_at0 hA hok hF h hp (fun b o s _ e => hap b o s e) hdn y
def DueA (w : World) (n B m : Nat) (S : Nat → Prop) (s : NS) (y : Int) (e : Ending) (w' : World) : Prop := ∃ a k c OP T, e = .returned (.tuple #[.slice a k c, .int .i64 (dueS s y).2.1]) ∧ k = (dueS s y).1.length ∧ OutP w' w.heap.size (.slice a k c) (dueS s y).1 T OP ∧ (∀ g, T g → S g ∧ g ≠ n ∧ g < w.heap.size) ∧ RdP w' a k c ((dueS s y).1.map fun f => (f.h, f.d)) ∧ NetA w' n B m (fun g => S g ∧ ¬ T g) (dueS s y).2.2 ∧ Tch (fun g => g = n) w w'
theorem due_at {w : World} {n B m : Nat} {S : Nat → Prop} {s : NS} (hA : NetA w n B m S s) (hok : s.ok) (y : Int) :
    Calls Try.prog 12 #[.pointer (some ⟨n, 0, none⟩), .int .i64 y] w fun e w' => DueA w n B m S s y e w' := by
  refine (due_any hA.P hok y).mono ?_
  rintro e w' ⟨v, T, OP, h1, h2, h3, h4, h5⟩
  obtain ⟨a, k, c, e1, hr⟩ := h3.rdP
  subst e1
  have hk : k = (dueS s y).1.length := by have := hr.len; simpa using this.symm
  exact ⟨a, k, c, OP, T, h1, hk, h3, h2, hr, ⟨h4, fun g hg => hA.lo g hg.1, fun g hg => hA.hi g hg.1, hA.bm, Nat.le_trans hA.mw h5.size⟩, h5⟩
theorem NetA.below {w w' : World} {n B m : Nat} {S : Nat → Prop} {s : NS} (h : NetA w n B m S s) (t : Tch S w w') : Below B w w' := t.below (Nat.le_trans h.bm h.mw) (fun b _ hb => h.lo b hb)
theorem NetA.sn {w : World} {n B m : Nat} {S : Nat → Prop} {s : NS} (h : NetA w n B m S s) : S n := by
  obtain ⟨fa, fn, fc, v, ob, FL, hq⟩ := h.P
  exact hq.sn
def F4 : List Fate := [(0, 5, 0), (1, 0, 0), (2, 1, 3), (3, 0, 9)]
theorem F4_may : ∀ f ∈ F4, mayF f = true := by decide
def a0 : NS := ⟨F4, 0, [], ⟨0, 0, 0, 0⟩⟩
def a1 : NS := ⟨F4, 1, [⟨5, hdB, [97]⟩], ⟨1, 0, 0, 0⟩⟩
def a2 : NS := ⟨F4, 2, [⟨5, hdB, [97]⟩], ⟨2, 1, 0, 0⟩⟩
def a3 : NS := ⟨F4, 3, [⟨2, hdB, [99]⟩, ⟨5, hdB, [97]⟩, ⟨5, hdB, [99]⟩], ⟨3, 1, 0, 0⟩⟩
def a4 : NS := ⟨F4, 4, [⟨2, hdB, [99]⟩, ⟨2, hdB, [7, 5]⟩, ⟨5, hdB, [97]⟩, ⟨5, hdB, [99]⟩], ⟨4, 1, 0, 0⟩⟩
def a5 : NS := ⟨F4, 4, [⟨5, hdB, [97]⟩, ⟨5, hdB, [99]⟩], ⟨4, 1, 0, 2⟩⟩
theorem a01 : sendS a0 hdB [97] 0 = (1, 0, a1) := by rfl
theorem a12 : sendS a1 hdB [98] 0 = (0, 0, a2) := by rfl
theorem a23 : sendS a2 hdB [99] 1 = (2, 0, a3) := by rfl
theorem a34 : sendS a3 hdB [7, 7] 2 = (1, 0, a4) := by rfl
theorem a45 : dueS a4 2 = ([⟨2, hdB, [99]⟩, ⟨2, hdB, [7, 5]⟩], 0, a5) := by rfl
theorem srt0 : SrtA [] := fun i j _ x y hx => by simp at hx
theorem ok0 : a0.ok := ⟨srt0, by decide, by decide, by decide, by decide, by decide, by decide, by decide⟩
theorem ok1 : a1.ok := ⟨srt0.cons (by simp), by decide, by decide, by decide, by decide, by decide, by decide, by decide⟩
theorem ok2 : a2.ok := ⟨srt0.cons (by simp), by decide, by decide, by decide, by decide, by decide, by decide, by decide⟩
theorem ok3 : a3.ok := ⟨((srt0.cons (by simp)).cons (by simp)).cons (by simp), by decide, by decide, by decide, by decide, by decide, by decide, by decide⟩
theorem ok4 : a4.ok := ⟨(((srt0.cons (by simp)).cons (by simp)).cons (by simp)).cons (by simp), by decide, by decide, by decide, by decide, by decide, by decide, by decide⟩
theorem ok5 : a5.ok := ⟨(srt0.cons (by simp)).cons (by simp), by decide, by decide, by decide, by decide, by decide, by decide, by decide⟩
theorem a01k : a0.ok ∧ ∀ f ∈ a0.F, mayF f = true := ⟨ok0, F4_may⟩
theorem a12k : a1.ok ∧ ∀ f ∈ a1.F, mayF f = true := ⟨ok1, F4_may⟩
theorem a23k : a2.ok ∧ ∀ f ∈ a2.F, mayF f = true := ⟨ok2, F4_may⟩
theorem a34k : a3.ok ∧ ∀ f ∈ a3.F, mayF f = true := ⟨ok3, F4_may⟩
set_option maxHeartbeats 8000000 in
set_option maxRecDepth 100000 in
theorem awake_any (w : World) : Calls Try.prog 8 #[] w fun e w' => e = .returned (.bool true) ∧ Below w.heap.size w w' := by
  go_enter Try.func8, Try.ntmps8
  obtain ⟨W1, hW1⟩ : ∃ W, w.alloc (.cells #[.int .i64 0, .int .i64 5, .int .i64 0, .int .i64 1, .int .i64 0, .int .i64 0, .int .i64 2, .int .i64 1, .int .i64 3, .int .i64 3, .int .i64 0, .int .i64 9] 51) = W := ⟨_, rfl⟩
  have O1 : Hid (Rd fateE W1 (some ⟨w.heap.size, 0, none⟩) 4 4 F4) := Lib.hid (by rw [← hW1]; exact (own_rd_at (Own.made fateE w #[.int .i64 0, .int .i64 5, .int .i64 0, .int .i64 1, .int .i64 0, .int .i64 0, .int .i64 2, .int .i64 1, .int .i64 3, .int .i64 3, .int .i64 0, .int .i64 9] F4 4 rfl rfl (by decide))).1)
  have k1 : Hid (Below w.heap.size w W1) := Lib.hid (by rw [← hW1]; exact alloc_bel _ _)
  have hnew := Lib.hid (new_any O1.out (by omega))
  go_wp2_with fail
  try rw [hW1]
  clear hW1
  refine hnew.out.mono ?_
  rintro e w2 ⟨hB, hb2⟩
  clear hnew
  unfold NewB at hB
  rw [if_pos (by rfl)] at hB
  obtain ⟨p, rfl, hP⟩ := hB
  have hz1 : w.heap.size ≤ W1.heap.size := k1.out.size
  have A0 : Hid (NetA w2 p W1.heap.size w2.heap.size (fun g => W1.heap.size ≤ g ∧ g < w2.heap.size) a0) := Lib.hid (NetA.of hP (fun g hg => hg) hb2.size)
  have K0 : Hid (Below w.heap.size w w2) := Lib.hid (k1.out.trans (hb2.mono k1.out.size))
  clear hP hb2 O1 k1
  obtain ⟨Wl1, hWl1⟩ : ∃ W, w2.alloc (.cells #[.int .u8 97] 5) = W := ⟨_, rfl⟩
  have Ol1 : Hid (Rd byteE Wl1 (some ⟨w2.heap.size, 0, none⟩) 1 1 [97]) := Lib.hid (by rw [← hWl1]; exact (own_rd_at (Own.made byteE w2 #[.int .u8 97] [97] 1 rfl rfl (by decide))).1)
  have kl1 : Hid (Below w2.heap.size w2 Wl1) := Lib.hid (by rw [← hWl1]; exact alloc_bel _ _)
  have A_2 := Lib.hid (A0.out.ext (kl1.out))
  have K_2 := Lib.hid (K0.out.trans ((kl1.out).mono K0.out.size))
  clear A0 K0
  clear kl1
  have mzl1 : Hid (w2.heap.size ≤ w2.heap.size) := Lib.hid (Nat.le_refl _)
  have hb := Lib.hid (bytes_any Wl1 (some ⟨w2.heap.size, 0, none⟩) 1 1)
  dsimp only [pkV, hdB] at hb
  go_wp2_with fail
  try rw [hWl1]
  try clear hWl1
  refine hb.out.mono ?_
  rintro e x3 ⟨rfl, hbx⟩
  clear hb
  have A_4 := Lib.hid (A_2.out.ext (hbx))
  have K_4 := Lib.hid (K_2.out.trans ((hbx).mono K_2.out.size))
  have Ol1_4 := Lib.hid (Ol1.out.ext (hbx))
  clear A_2 K_2 Ol1
  clear hbx
  have hs := Lib.hid (send_at A_4.out a01k.1 a01k.2 hdB Ol1_4.out (fun b o s e hb => by have h1 := A_4.out.hi b hb; have h2 := Option.some.inj e; injection h2 with h3; have := mzl1.out; omega) (by omega) 0)
  rw [a01] at hs
  dsimp only [pkV, hdB] at hs
  go_wp2_with fail
  refine hs.out.mono ?_
  rintro e y5 ⟨rfl, ⟨Sy5, hA, hSS⟩, ht⟩
  clear hs
  have hbl := A_4.out.below ht
  have Ay5 := Lib.hid hA
  have Ky5 := Lib.hid (K_4.out.trans (hbl.mono hz1))
  clear K_4 A_4
  clear Ol1_4
  clear ht hA hSS hbl
  obtain ⟨Wl6, hWl6⟩ : ∃ W, y5.alloc (.cells #[.int .u8 98] 5) = W := ⟨_, rfl⟩
  have Ol6 : Hid (Rd byteE Wl6 (some ⟨y5.heap.size, 0, none⟩) 1 1 [98]) := Lib.hid (by rw [← hWl6]; exact (own_rd_at (Own.made byteE y5 #[.int .u8 98] [98] 1 rfl rfl (by decide))).1)
  have kl6 : Hid (Below y5.heap.size y5 Wl6) := Lib.hid (by rw [← hWl6]; exact alloc_bel _ _)
  have K_7 := Lib.hid (Ky5.out.trans ((kl6.out).mono Ky5.out.size))
  have A_7 := Lib.hid (Ay5.out.ext (kl6.out))
  clear Ky5 Ay5
  clear kl6
  have mzl6 : Hid (y5.heap.size ≤ y5.heap.size) := Lib.hid (Nat.le_refl _)
  have hb := Lib.hid (bytes_any Wl6 (some ⟨y5.heap.size, 0, none⟩) 1 1)
  dsimp only [pkV, hdB] at hb
  go_wp2_with fail
  try rw [hWl6]
  try clear hWl6
  refine hb.out.mono ?_
  rintro e x8 ⟨rfl, hbx⟩
  clear hb
  have K_9 := Lib.hid (K_7.out.trans ((hbx).mono K_7.out.size))
  have A_9 := Lib.hid (A_7.out.ext (hbx))
  have Ol6_9 := Lib.hid (Ol6.out.ext (hbx))
  clear K_7 A_7 Ol6
  clear hbx
  have hs := Lib.hid (send_at A_9.out a12k.1 a12k.2 hdB Ol6_9.out (fun b o s e hb => by have h1 := A_9.out.hi b hb; have h2 := Option.some.inj e; injection h2 with h3; have := mzl6.out; omega) (by omega) 0)
  rw [a12] at hs
  dsimp only [pkV, hdB] at hs
  go_wp2_with fail
  refine hs.out.mono ?_
  rintro e y10 ⟨rfl, ⟨Sy10, hA, hSS⟩, ht⟩
  clear hs
  have hbl := A_9.out.below ht
  have Ay10 := Lib.hid hA
  have Ky10 := Lib.hid (K_9.out.trans (hbl.mono hz1))
  clear K_9 A_9
  clear Ol6_9
  clear ht hA hSS hbl
  obtain ⟨Wl11, hWl11⟩ : ∃ W, y10.alloc (.cells #[.int .u8 99] 5) = W := ⟨_, rfl⟩
  have Ol11 : Hid (Rd byteE Wl11 (some ⟨y10.heap.size, 0, none⟩) 1 1 [99]) := Lib.hid (by rw [← hWl11]; exact (own_rd_at (Own.made byteE y10 #[.int .u8 99] [99] 1 rfl rfl (by decide))).1)
  have kl11 : Hid (Below y10.heap.size y10 Wl11) := Lib.hid (by rw [← hWl11]; exact alloc_bel _ _)
  have K_12 := Lib.hid (Ky10.out.trans ((kl11.out).mono Ky10.out.size))
  have A_12 := Lib.hid (Ay10.out.ext (kl11.out))
  clear Ky10 Ay10
  clear kl11
  have mzl11 : Hid (y10.heap.size ≤ y10.heap.size) := Lib.hid (Nat.le_refl _)
  have hb := Lib.hid (bytes_any Wl11 (some ⟨y10.heap.size, 0, none⟩) 1 1)
  dsimp only [pkV, hdB] at hb
  go_wp2_with fail
  try rw [hWl11]
  try clear hWl11
  refine hb.out.mono ?_
  rintro e x13 ⟨rfl, hbx⟩
  clear hb
  have K_14 := Lib.hid (K_12.out.trans ((hbx).mono K_12.out.size))
  have A_14 := Lib.hid (A_12.out.ext (hbx))
  have Ol11_14 := Lib.hid (Ol11.out.ext (hbx))
  clear K_12 A_12 Ol11
  clear hbx
  have hs := Lib.hid (send_at A_14.out a23k.1 a23k.2 hdB Ol11_14.out (fun b o s e hb => by have h1 := A_14.out.hi b hb; have h2 := Option.some.inj e; injection h2 with h3; have := mzl11.out; omega) (by omega) 1)
  rw [a23] at hs
  dsimp only [pkV, hdB] at hs
  go_wp2_with fail
  refine hs.out.mono ?_
  rintro e y15 ⟨rfl, ⟨Sy15, hA, hSS⟩, ht⟩
  clear hs
  have hbl := A_14.out.below ht
  have Ay15 := Lib.hid hA
  have Ky15 := Lib.hid (K_14.out.trans (hbl.mono hz1))
  clear K_14 A_14
  clear Ol11_14
  clear ht hA hSS hbl
  obtain ⟨Wl16, hWl16⟩ : ∃ W, y15.alloc (.cells #[.int .u8 7, .int .u8 7] 5) = W := ⟨_, rfl⟩
  have Ol16 : Hid (Rd byteE Wl16 (some ⟨y15.heap.size, 0, none⟩) 2 2 [7, 7]) := Lib.hid (by rw [← hWl16]; exact (own_rd_at (Own.made byteE y15 #[.int .u8 7, .int .u8 7] [7, 7] 2 rfl rfl (by decide))).1)
  have kl16 : Hid (Below y15.heap.size y15 Wl16) := Lib.hid (by rw [← hWl16]; exact alloc_bel _ _)
  have K_17 := Lib.hid (Ky15.out.trans ((kl16.out).mono Ky15.out.size))
  have A_17 := Lib.hid (Ay15.out.ext (kl16.out))
  clear Ky15 Ay15
  clear kl16
  have mzl16 : Hid (y15.heap.size ≤ y15.heap.size) := Lib.hid (Nat.le_refl _)
  have hb := Lib.hid (bytes_any Wl16 (some ⟨y15.heap.size, 0, none⟩) 2 2)
  dsimp only [pkV, hdB] at hb
  go_wp2_with fail
  try rw [hWl16]
  try clear hWl16
  refine hb.out.mono ?_
  rintro e x18 ⟨rfl, hbx⟩
  clear hb
  have K_19 := Lib.hid (K_17.out.trans ((hbx).mono K_17.out.size))
  have A_19 := Lib.hid (A_17.out.ext (hbx))
  have Ol16_19 := Lib.hid (Ol16.out.ext (hbx))
  clear K_17 A_17 Ol16
  clear hbx
  have hs := Lib.hid (send_at A_19.out a34k.1 a34k.2 hdB Ol16_19.out (fun b o s e hb => by have h1 := A_19.out.hi b hb; have h2 := Option.some.inj e; injection h2 with h3; have := mzl16.out; omega) (by omega) 2)
  rw [a34] at hs
  dsimp only [pkV, hdB] at hs
  go_wp2_with fail
  refine hs.out.mono ?_
  rintro e y20 ⟨rfl, ⟨Sy20, hA, hSS⟩, ht⟩
  clear hs
  have hbl := A_19.out.below ht
  have Ay20 := Lib.hid hA
  have Ky20 := Lib.hid (K_19.out.trans (hbl.mono hz1))
  clear K_19 A_19
  clear Ol16_19
  clear ht hA hSS hbl
  have hd := Lib.hid (due_at Ay20.out ok4 2)
  go_wp2_with fail
  refine hd.out.mono ?_
  rintro e u1 ⟨da, dk, dc, OP, T, rfl, hk, hO, hT, hR, hA, ht⟩
  clear hd
  rw [a45] at hk hR
  dsimp only [List.map] at hk hR
  dsimp only [List.length] at hk
  subst hk
  rw [a45]
  dsimp only
  have hn1 := Ay20.out.lo p Ay20.out.sn
  have K1 := Lib.hid (Ky20.out.trans (ht.below Ky20.out.size (fun b _ e => by rw [e]; omega)))
  have OR := Lib.hid hR
  clear hR hA ht hO hT Ay20 Ky20
  obtain ⟨Wl21, hWl21⟩ : ∃ W, u1.alloc (.cells #[.int .u8 99] 5) = W := ⟨_, rfl⟩
  have Ol21 : Hid (Rd byteE Wl21 (some ⟨u1.heap.size, 0, none⟩) 1 1 [99]) := Lib.hid (by rw [← hWl21]; exact (own_rd_at (Own.made byteE u1 #[.int .u8 99] [99] 1 rfl rfl (by decide))).1)
  have kl21 : Hid (Below u1.heap.size u1 Wl21) := Lib.hid (by rw [← hWl21]; exact alloc_bel _ _)
  have K_22 := Lib.hid (K1.out.trans ((kl21.out).mono K1.out.size))
  have OR_22 := Lib.hid (OR.out.ext (kl21.out))
  clear K1 OR
  clear kl21
  have hb := Lib.hid (bytes_any Wl21 (some ⟨u1.heap.size, 0, none⟩) 1 1)
  dsimp only [pkV, hdB] at hb
  go_wp2_with fail
  try rw [hWl21]
  try clear hWl21
  refine hb.out.mono ?_
  rintro e x23 ⟨rfl, hbx⟩
  clear hb
  have K_24 := Lib.hid (K_22.out.trans ((hbx).mono K_22.out.size))
  have OR_24 := Lib.hid (OR_22.out.ext (hbx))
  have Ol21_24 := Lib.hid (Ol21.out.ext (hbx))
  clear K_22 OR_22 Ol21
  clear hbx
  obtain ⟨Wl25, hWl25⟩ : ∃ W, x23.alloc (.cells #[.int .u8 7, .int .u8 5] 5) = W := ⟨_, rfl⟩
  have Ol25 : Hid (Rd byteE Wl25 (some ⟨x23.heap.size, 0, none⟩) 2 2 [7, 5]) := Lib.hid (by rw [← hWl25]; exact (own_rd_at (Own.made byteE x23 #[.int .u8 7, .int .u8 5] [7, 5] 2 rfl rfl (by decide))).1)
  have kl25 : Hid (Below x23.heap.size x23 Wl25) := Lib.hid (by rw [← hWl25]; exact alloc_bel _ _)
  have K_26 := Lib.hid (K_24.out.trans ((kl25.out).mono K_24.out.size))
  have OR_26 := Lib.hid (OR_24.out.ext (kl25.out))
  have Ol21_26 := Lib.hid (Ol21_24.out.ext (kl25.out))
  clear K_24 OR_24 Ol21_24
  clear kl25
  have hb := Lib.hid (bytes_any Wl25 (some ⟨x23.heap.size, 0, none⟩) 2 2)
  dsimp only [pkV, hdB] at hb
  go_wp2_with fail
  try rw [hWl25]
  try clear hWl25
  refine hb.out.mono ?_
  rintro e x27 ⟨rfl, hbx⟩
  clear hb
  have K_28 := Lib.hid (K_26.out.trans ((hbx).mono K_26.out.size))
  have OR_28 := Lib.hid (OR_26.out.ext (hbx))
  have Ol21_28 := Lib.hid (Ol21_26.out.ext (hbx))
  have Ol25_28 := Lib.hid (Ol25.out.ext (hbx))
  clear K_26 OR_26 Ol21_26 Ol25
  clear hbx
  obtain ⟨Wl29, hWl29⟩ : ∃ W, x27.alloc (.cells #[.int .u32 1, .int .u16 0, .int .u32 2, .int .u16 53, .bool false, .slice (some ⟨u1.heap.size, 0, none⟩) 1 1, .int .u32 1, .int .u16 0, .int .u32 2, .int .u16 53, .bool false, .slice (some ⟨x23.heap.size, 0, none⟩) 2 2] 32) = W := ⟨_, rfl⟩
  have Ol29 : Hid (Rd pkE Wl29 (some ⟨x27.heap.size, 0, none⟩) 2 2 [⟨hdB, some ⟨u1.heap.size, 0, none⟩, 1, 1⟩, ⟨hdB, some ⟨x23.heap.size, 0, none⟩, 2, 2⟩]) := Lib.hid (by rw [← hWl29]; exact (own_rd_at (Own.made pkE x27 #[.int .u32 1, .int .u16 0, .int .u32 2, .int .u16 53, .bool false, .slice (some ⟨u1.heap.size, 0, none⟩) 1 1, .int .u32 1, .int .u16 0, .int .u32 2, .int .u16 53, .bool false, .slice (some ⟨x23.heap.size, 0, none⟩) 2 2] [⟨hdB, some ⟨u1.heap.size, 0, none⟩, 1, 1⟩, ⟨hdB, some ⟨x23.heap.size, 0, none⟩, 2, 2⟩] 2 rfl rfl (by decide))).1)
  have kl29 : Hid (Below x27.heap.size x27 Wl29) := Lib.hid (by rw [← hWl29]; exact alloc_bel _ _)
  have K_30 := Lib.hid (K_28.out.trans ((kl29.out).mono K_28.out.size))
  have OR_30 := Lib.hid (OR_28.out.ext (kl29.out))
  have Ol21_30 := Lib.hid (Ol21_28.out.ext (kl29.out))
  have Ol25_30 := Lib.hid (Ol25_28.out.ext (kl29.out))
  clear K_28 OR_28 Ol21_28 Ol25_28
  clear kl29
  have hL : Hid (RdP Wl29 (some ⟨x27.heap.size, 0, none⟩) 2 2 [(hdB, [99]), (hdB, [7, 5])]) := Lib.hid ⟨_, Ol29.out, rfl, fun j q x hq hx => by
    match j, hq, hx with
    | 0, hq, hx => cases hq; cases hx; exact ⟨rfl, Ol21_30.out⟩
    | 1, hq, hx => cases hq; cases hx; exact ⟨rfl, Ol25_30.out⟩
    | j + 2, hq, hx => simp at hq⟩
  have hp := Lib.hid (packets_any OR_30.out hL.out (by omega))
  rw [sameL_refl] at hp
  go_wp2_with fail
  try rw [hWl29]
  refine hp.out.mono ?_
  rintro e z ⟨rfl, hz⟩
  have KZ := Lib.hid (K_30.out.trans (hz.mono K_30.out.size))
  go_wp2_with fail
  go_ret
  exact ⟨rfl, KZ.out⟩
end Go.Proofs.Ythdnbipfdahnlaa
