/- awake 22; a name that is written, with what is known. -/
import Derived.Test.YtndpebhhgicooaaWrE
import Derived.Test.YtndpebhhgicooaaSqP
import Derived.Test.YtndpebhhgicooaaKitC
namespace Go.Proofs.Ytndpebhhgicooaa
open Go Go.RowKit Go.Maps
theorem wr_name2 {w : World} {lo g : Nat} {B : List UInt8} {nm : Nat} {f : List UInt8 → Option Int} {a : Option Addr} {c mb : Nat} (h : Wr w lo g B nm f a c mb) (hlo : lo ≤ w.heap.size) (hI : Inv B f) {an : Option Addr} {n cn : Nat} {L : Nm} (hN : Rd strE w an n cn L) (hc : checkL L = 0)
    (back : Bool) (hr : B.length + sizeL L ≤ 65535) (hnm : nm + 1000 < 1000000) {t : List UInt8} {fr : List UInt8 → Option Int} (hw : wrN B.length f back [] (fun _ => none) L = (t, fr)) :
    Calls Try.prog 27 #[.pointer (some ⟨g, 0, none⟩), .slice an n cn, .bool back] w fun e w' => e = .returned (.int .i64 0) ∧ (∃ a' c' nm', nm' ≤ nm + n ∧ Wr w' lo g (B ++ t) nm' (over fr f) a' c' mb) ∧ Below lo w w' := by
  refine (wr_name h hlo hN hc hI.range back hr hnm).mono fun e w' ⟨h1, h2, h3⟩ => ?_
  rw [hw] at h2
  refine ⟨h1, ?_, h3.below hlo fun b hb hs => ?_⟩
  · obtain ⟨a', c', nm', h4, h5⟩ := h2
    exact ⟨a', c', nm', h4, h5⟩
  · rcases hs with rfl | rfl | hs
    · exact h.low
    · exact h.lowm
    · exact (h.own.lt b hs).1
theorem lit_nm (w : World) (L : Nm) (C : Array Value) (n : Nat) (hC : C.toList = rowOf strE L) (hn : n = L.length) (hm : n ≤ maxLen) : Rd strE (w.alloc (.cells C 9)) (some ⟨w.heap.size, 0, none⟩) n n L := by
  refine rd_blk (E := strE) (fz := (0, 0)) ?_ n hn hm
  have := Blk.new w 9 (0, 0) C
  rw [hC] at this
  exact this
def awF1 : List UInt8 → Option Int := (wrN 0 (fun _ => none) true [] (fun _ => none) [[97], [98]]).2
theorem awk1 : wrN ([] : List UInt8).length (fun _ => none) true [] (fun _ => none) [[97], [98]] = ([1, 97, 1, 98, 0], awF1) := Prod.ext (by decide +kernel) rfl
def awF2 : List UInt8 → Option Int := (wrN 5 (over awF1 fun _ => none) true [] (fun _ => none) [[99], [98]]).2
theorem awk2 : wrN ([1, 97, 1, 98, 0] : List UInt8).length (over awF1 fun _ => none) true [] (fun _ => none) [[99], [98]] = ([1, 99, 192, 2], awF2) := Prod.ext (by decide +kernel) rfl
theorem awI1 : Inv [1, 97, 1, 98, 0] (over awF1 fun _ => none) := (wrN_name Inv.nil true (by decide +kernel) awk1).2.2.2.2
theorem awRd : rdF [1, 97, 1, 98, 0, 1, 99, 192, 2] true 5 5 (-1) [] = some ([[99], [98]], 9) := (wrN_name awI1 true (by decide +kernel) awk2).2.2.2.1 []
set_option maxHeartbeats 4000000 in
set_option maxRecDepth 100000 in
theorem awake_any (w : World) : Calls Try.prog 22 #[] w fun e w' => e = .returned (.bool true) ∧ Below w.heap.size w w' := by
  have A1 := Lib.hid awk1
  have A2 := Lib.hid awk2
  go_enter Try.func22, Try.ntmps22
  go_wp2_with fail
  refine (wr_new (w := w)).mono ?_
  rintro e w1 ⟨⟨g, mb, rfl, hW1⟩, hb1⟩
  have hW1' := Lib.hid (hW1.ext ((Below.refl _ _).alloc (Nat.le_refl _) (.cells #[.string (mk [97]), .string (mk [98])] 9)))
  have hb1' := Lib.hid (hb1.alloc hb1.size (.cells #[.string (mk [97]), .string (mk [98])] 9))
  clear hW1 hb1
  go_wp2_with fail
  refine (wr_name2 hW1'.out hb1'.out.size Inv.nil (lit_nm _ [[97], [98]] _ 2 rfl rfl (by decide)) (by decide +kernel) true (by decide +kernel) (by decide) A1.out).mono ?_
  rintro e w2 ⟨rfl, ⟨a2, c2, nm2, hn2, hW2⟩, hb2⟩
  have hb2' := hb1'.out.trans hb2
  have hW2' := Lib.hid (hW2.ext ((Below.refl _ _).alloc (Nat.le_refl _) (.cells #[.string (mk [99]), .string (mk [98])] 9)))
  have hb2'' := Lib.hid (hb2'.alloc hb2'.size (.cells #[.string (mk [99]), .string (mk [98])] 9))
  clear hW2 hb2 hb2' hW1' hb1'
  go_wp2_with fail
  refine (wr_name2 hW2'.out hb2''.out.size awI1 (lit_nm _ [[99], [98]] _ 2 rfl rfl (by decide)) (by decide +kernel) true (by decide +kernel) (by omega) A2.out).mono ?_
  rintro e w3 ⟨rfl, ⟨a3, c3, nm3, hn3, hW3⟩, hb3⟩
  have hW3' := Lib.hid hW3
  have hb3' := Lib.hid (hb2''.out.trans hb3)
  clear hW3 hb3 hW2' hb2''
  go_wp2_with fail
  refine (wr_all hW3'.out (by decide)).mono ?_
  rintro e w4 ⟨⟨v4, rfl, ho4⟩, hb4⟩
  obtain ⟨a4, c4, rfl, hr4⟩ := ho4.rd
  have hW4 := Lib.hid (hW3'.out.ext hb4)
  have hb4' := Lib.hid (hb3'.out.trans (hb4.mono hb3'.out.size))
  have hr4' := Lib.hid hr4
  clear ho4 hb4 hr4 hW3' hb3'
  go_wp2_with fail
  refine (prog_rd hr4'.out (by decide) 5 (by decide) true).mono ?_
  rintro e w5 ⟨ho5, hb5⟩
  have e5 : rdF ([] ++ [1, 97, 1, 98, 0] ++ [1, 99, 192, 2]) true 5 5 (-1) [] = some ([[99], [98]], 9) := awRd
  rw [e5] at ho5
  obtain ⟨v5, rfl, ho5⟩ := ho5
  obtain ⟨a5, c5, rfl, hr5⟩ := ho5.rd
  have hW5 := Lib.hid (hW4.out.ext hb5)
  have hb5' := Lib.hid (hb4'.out.trans (hb5.mono hb4'.out.size))
  have hr5' := Lib.hid hr5
  clear ho5 hb5 hr5 hW4 hb4' hr4' e5
  go_wp2_with fail
  refine (wr_all hW5.out (by decide)).mono ?_
  rintro e w6 ⟨⟨v6, rfl, ho6⟩, hb6⟩
  obtain ⟨a6, c6, rfl, hr6⟩ := ho6.rd
  have hstr : (convert 22 9 (.slice a6 9 c6)).run Try.prog w6 = .ok (.string (mk [1, 97, 1, 98, 0, 1, 99, 192, 2])) w6 := rd_toStr (P := Try.prog) hr6 22 9 Try.underlying22 Try.underlying5 Try.underlying9
  have hb6' := Lib.hid ((hb5'.out.trans (hb6.mono hb5'.out.size)).alloc (by have := (hb5'.out.trans (hb6.mono hb5'.out.size)).size; exact this) (.cells #[.string (mk [99]), .string (mk [98])] 9))
  have hr5'' : Hid (Rd strE (w6.alloc (.cells #[.string (mk [99]), .string (mk [98])] 9)) a5 2 c5 [[99], [98]]) := Lib.hid ((hr5'.out.ext hb6).ext ((Below.refl _ _).alloc (Nat.le_refl _) (.cells #[.string (mk [99]), .string (mk [98])] 9)))
  clear ho6 hb6 hr6 hW5 hb5' hr5'
  go_wp2_with fail
  refine (same_name hr5''.out (lit_nm _ [[99], [98]] _ 2 rfl rfl (by decide))).mono ?_
  rw [beq_self_eq_true]
  rintro e w7 ⟨rfl, hb7⟩
  have hb7' := Lib.hid (hb6'.out.trans (hb7.mono hb6'.out.size))
  clear hb7
  go_wp2_with fail
  go_ret
  exact ⟨rfl, hb7'.out⟩
end Go.Proofs.Ytndpebhhgicooaa
