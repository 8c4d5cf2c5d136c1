/- StreamKnown: the walk. -/
import Derived.Test.YtmimbfikjnfhdaaStO
import Derived.Test.YtmimbfikjnfhdaaStreamBreaksW
namespace Go.Proofs.Ytmimbfikjnfhdaa
open Go.RowKit
theorem some_slice (n : Nat) (hn : n ≤ 70368744177664) : ∃ C : Array Value, ∀ u : World, (Instr.makeSlice 41 (.int .i64 (n : Int)) (.int .i64 (n : Int))).run Try.prog u = .ok (.slice (some ⟨u.heap.size, 0, none⟩) n n) (u.alloc (.cells C 5)) := by
  obtain ⟨i0, hi, hz0, hz1, hz2⟩ := info_parts Try.info5
  refine ⟨madeCells #[.int .u8 0] n, fun u => ?_⟩
  have h := run_make (P := Try.prog) u 41 5 i0 (.int .u8 0) Try.underlying41 hi hz0 .i64 .i64 (n : Int) (n : Int) (by omega) (Int.le_refl _) (by rw [hz2]; omega) (by omega)
  rw [Int.toNat_natCast] at h
  simpa [hz1, Value.cells] using h
theorem big_slice : ∃ C : Array Value, ∀ u : World, (Instr.makeSlice 41 (.int .i64 65536) (.int .i64 65536)).run Try.prog u = .ok (.slice (some ⟨u.heap.size, 0, none⟩) 65536 65536) (u.alloc (.cells C 5)) :=
  some_slice 65536 (by omega)
theorem rd_lit2 (w : World) (x y : Int) : Rd intE (w.alloc (.cells #[.int .i64 x, .int .i64 y] 3)) (some ⟨w.heap.size, 0, none⟩) 2 2 [x, y] :=
  rd_blk (E := intE) (X := [x, y]) (Blk.new w 3 (0, 0) #[.int .i64 x, .int .i64 y]) 2 rfl (by decide)
theorem rd_lit1 (w : World) (x : Int) : Rd intE (w.alloc (.cells #[.int .i64 x] 3)) (some ⟨w.heap.size, 0, none⟩) 1 1 [x] :=
  rd_blk (E := intE) (X := [x]) (Blk.new w 3 (0, 0) #[.int .i64 x]) 1 rfl (by decide)
set_option maxHeartbeats 16000000 in
set_option maxRecDepth 100000 in
theorem streamKnown_walk (W : World) : Calls Try.prog 9 #[] W fun e w' => e = .returned (.bool true) ∧ Below W.heap.size W w' := by
  obtain ⟨CB, hbig⟩ := big_slice
  go_enter Try.func9, Try.ntmps9
  go_wp2_with fail
  refine (new_any W).mono ?_
  rintro e w1 ⟨rfl, hS1, k1⟩
  have hS1' := Lib.hid hS1
  have hz1 := hS1.lt
  clear hS1
  go_wp2_with fail
  refine (twelve_any 12 7 w1 (by omega)).mono ?_
  rintro e w2 ⟨rfl, hB2, k2⟩
  have hX2 : Hid (Rd byteE w2 (some ⟨w1.heap.size, 0, none⟩) 12 12 twl) := Lib.hid (rd_blk (E := byteE) (X := twl) (by rw [rowOf_byte]; exact hB2) 12 rfl (by decide))
  have hS2 := Lib.hid (hS1'.out.ext k2)
  have kk2 : Below W.heap.size W w2 := k1.trans (k2.mono k1.size)
  clear hB2
  go_wp2_with fail
  refine (frame_ok hX2.out (by omega) (by omega)).mono ?_
  rintro e w3 ⟨⟨v3, rfl, hO3⟩, k3⟩
  change Own byteE w3 w2.heap.size v3 (frm twl) at hO3
  obtain ⟨a3, c3, e3, hR3⟩ := hO3.rd
  rw [show (frm twl).length = 14 from rfl] at e3 hR3
  subst e3
  have hR3' := Lib.hid hR3
  have hS3 := Lib.hid (hS2.out.ext k3)
  have kk3 : Below W.heap.size W w3 := kk2.trans (k3.mono kk2.size)
  clear hR3 hO3
  go_wp2_with fail
  have kn : Below w3.heap.size w3 (w3.alloc (.cells #[.int .u8 0, .int .u8 11] 5)) := (Below.refl _ _).alloc (Nat.le_refl _) _
  have hRd : Hid (Rd byteE (w3.alloc (.cells #[.int .u8 0, .int .u8 11] 5)) (some ⟨w3.heap.size, 0, none⟩) 2 2 [0, UInt8.ofNat 11]) := Lib.hid (rd_blk (E := byteE) (X := [0, UInt8.ofNat 11]) (Blk.new w3 5 (0, 0) #[.int .u8 0, .int .u8 11]) 2 rfl (by decide))
  have hS4 := Lib.hid (hS3.out.ext kn)
  have kk4 : Below W.heap.size W (w3.alloc (.cells #[.int .u8 0, .int .u8 11] 5)) := kk3.trans (kn.mono kk3.size)
  generalize w3.alloc (.cells #[.int .u8 0, .int .u8 11] 5) = w4 at *
  refine (feed_bad hS4.out hRd.out (by simp) (frames_short 11 (by omega))).mono ?_
  rintro e w5 ⟨rfl, hS5, g5⟩
  have hS5' := Lib.hid hS5
  have kk5 : Below W.heap.size W w5 := below_grown kk4 g5 (Nat.le_refl _) (Nat.le_refl _)
  clear hS5
  go_wp2_with fail
  refine (feed_broken hS5'.out).mono ?_
  rintro e w6 ⟨rfl, rfl⟩
  go_wp2_with fail
  refine (twelve_any 11 1 w5 (by omega)).mono ?_
  rintro e w6 ⟨rfl, _, k6⟩
  have kk6 : Below W.heap.size W w6 := kk5.trans (k6.mono kk5.size)
  go_wp2_with fail
  refine (frame_short (by omega)).mono ?_
  rintro e w7 ⟨rfl, rfl⟩
  have kk7 : Below W.heap.size W (w6.alloc (.cells CB 5)) := kk6.alloc kk6.size _
  go_wp2_with fail
  refine (frame_long (by omega) (by omega)).mono ?_
  rintro e w7 ⟨rfl, rfl⟩
  generalize w6.alloc (.cells CB 5) = w7 at *
  clear hbig
  go_wp2_with fail
  refine (pnew_yes w7 2 (by omega) (by omega)).mono ?_
  rintro e w8 ⟨rfl, hP8, k8⟩
  have hP8' := Lib.hid hP8
  have hz8 := hP8.lt
  have hz7 := kk7.size
  clear hP8
  go_wp2_with fail
  refine (popen_ok hP8'.out (id := 7) (key := 1) (by decide) (by decide) rfl (by simp) (by omega) (by simp)).mono ?_
  rintro e w9 ⟨rfl, o9, hP9, hn9, t9⟩
  have hP9' : Hid (PipP w9 w7.heap.size o9 2 [(7, 1)] 1) := Lib.hid hP9
  have kk9 : Below w7.heap.size w7 w9 := k8.trans (t9.below (by omega) (fun b _ hb => by rcases hb with h | h | h <;> first | omega | exact absurd h (by simp)))
  clear hP9 hn9 t9
  go_wp2_with fail
  refine (popen_there hP9'.out (id := 7) (key := 2) (v := 1) (by decide) rfl).mono ?_
  rintro e w10 ⟨rfl, rfl⟩
  go_wp2_with fail
  refine (popen_ok hP9'.out (id := 8) (key := 3) (by decide) (by decide) rfl (by simp) (by omega) (by simp)).mono ?_
  rintro e w11 ⟨rfl, o11, hP11, hn11, t11⟩
  have hP11' : Hid (PipP w11 w7.heap.size o11 2 [(7, 1), (8, 3)] 2) := Lib.hid hP11
  have hz9 := hP9'.out.lt
  have kk11 : Below w7.heap.size w7 w11 := kk9.trans (t11.below (by omega) (fun b _ hb => by
    rcases hb with h | h | h
    · omega
    · omega
    · have := (hz9.2 b h).1; omega))
  clear hP11 hn11 t11
  go_wp2_with fail
  refine (popen_full hP11'.out (id := 9) (key := 4) (by decide) rfl rfl).mono ?_
  rintro e w12 ⟨rfl, rfl⟩
  have hP12 : Hid (PipP w11.drew w7.heap.size o11 2 [(7, 1), (8, 3)] 2) := Lib.hid hP11'.out
  have kk12 : Below w7.heap.size w7 w11.drew := kk11.drew
  clear kk11 hP11' hP9' hP8' kk9
  generalize w11.drew = w12 at *
  have hg12 : goodP [(7, 1), (8, 3)] := ⟨by decide, fun p hp => by
    simp at hp
    rcases hp with rfl | rfl <;> exact ⟨by decide, by decide⟩⟩
  have hg12' := Lib.hid hg12
  clear hg12
  go_wp2_with fail
  refine (pkeys hP12.out hg12'.out (by simp)).mono ?_
  rintro e w13 ⟨⟨v13, rfl, hO13⟩, k13⟩
  change Own intE w13 w12.heap.size v13 [1, 3] at hO13
  obtain ⟨a13, c13, e13⟩ := hO13.shape
  change v13 = .slice a13 2 c13 at e13
  subst e13
  have hP13 := Lib.hid (hP12.out.ext k13)
  have kk13 : Below w7.heap.size w7 w13 := kk12.trans (k13.mono kk12.size)
  have hO13' := Lib.hid hO13
  have hz12 := hP12.out.lt
  clear hO13
  go_wp2_with fail
  refine (pclose_yes hP13.out (id := 7) (v := 1) (by decide) rfl (by simp)).mono ?_
  rintro e w14 ⟨rfl, hP14, t14⟩
  have hP14' : Hid (PipP w14 w7.heap.size o11 2 [(8, 3)] 2) := Lib.hid hP14
  have hO14 := Lib.hid (t14.own hO13'.out (fun b hb hf => by
    have h1 := (hO13'.out.lt b hb).1
    rcases hf with h | h | h
    · omega
    · omega
    · have := (hz12.2 b h).2; omega))
  have kk14 : Below w7.heap.size w7 w14 := kk13.trans (t14.below (by have := kk13.size; omega) (fun b _ hb => by
    rcases hb with h | h | h
    · omega
    · omega
    · have := (hz12.2 b h).1; omega))
  clear hP14 t14
  go_wp2_with fail
  refine (pclose_no hP14'.out (id := 7) (by decide) rfl).mono ?_
  rintro e w15 ⟨rfl, k15⟩
  have hP15 := Lib.hid (hP14'.out.ext k15)
  have hO15 := Lib.hid (hO14.out.ext k15)
  have kk15 : Below w7.heap.size w7 w15 := kk14.trans (k15.mono kk14.size)
  go_wp2_with fail
  refine (pnew_no w15 0 (by omega)).mono ?_
  rintro e w16 ⟨rfl, rfl⟩
  go_wp2_with fail
  refine (awake_any w15).mono ?_
  rintro e w16 ⟨rfl, k16⟩
  have hP16 := Lib.hid (hP15.out.ext k16)
  have hO16 := Lib.hid (hO15.out.ext k16)
  have kk16 : Below w7.heap.size w7 w16 := kk15.trans (k16.mono kk15.size)
  go_wp2_with fail
  have kl16 : Below w16.heap.size w16 (w16.alloc (.cells #[.int .i64 1, .int .i64 3] 3)) := (Below.refl _ _).alloc (Nat.le_refl _) _
  have hA : Hid (Rd intE (w16.alloc (.cells #[.int .i64 1, .int .i64 3] 3)) a13 2 c13 [1, 3]) := Lib.hid (by obtain ⟨a', c', e, r⟩ := (hO16.out.ext kl16).rd; cases e; exact r)
  have hB := Lib.hid (rd_lit2 w16 1 3)
  have hP17 := Lib.hid (hP16.out.ext kl16)
  have kk17 : Below w7.heap.size w7 (w16.alloc (.cells #[.int .i64 1, .int .i64 3] 3)) := kk16.trans (kl16.mono kk16.size)
  generalize w16.alloc (.cells #[.int .i64 1, .int .i64 3] 3) = w17 at *
  refine (same_ints hA.out hB.out (by omega) (by omega)).mono ?_
  rw [show decide (([1, 3] : List Int) = [1, 3]) = true by decide]
  rintro e w18 ⟨rfl, k18⟩
  have hP18 := Lib.hid (hP17.out.ext k18)
  have kk18 : Below w7.heap.size w7 w18 := kk17.trans (k18.mono kk17.size)
  have hg18 : Hid (goodP [(8, 3)]) := Lib.hid ⟨by decide, fun p hp => by
    simp at hp
    subst hp
    exact ⟨by decide, by decide⟩⟩
  go_wp2_with fail
  refine (pkeys hP18.out hg18.out (by simp)).mono ?_
  rintro e w19 ⟨⟨v19, rfl, hO19⟩, k19⟩
  change Own intE w19 w18.heap.size v19 [3] at hO19
  obtain ⟨a19, c19, e19⟩ := hO19.shape
  change v19 = .slice a19 1 c19 at e19
  subst e19
  have kk19 : Below w7.heap.size w7 w19 := kk18.trans (k19.mono kk18.size)
  have hO19' := Lib.hid hO19
  clear hO19
  go_wp2_with fail
  have kl19 : Below w19.heap.size w19 (w19.alloc (.cells #[.int .i64 3] 3)) := (Below.refl _ _).alloc (Nat.le_refl _) _
  have hC : Hid (Rd intE (w19.alloc (.cells #[.int .i64 3] 3)) a19 1 c19 [3]) := Lib.hid (by obtain ⟨a', c', e, r⟩ := (hO19'.out.ext kl19).rd; cases e; exact r)
  have hD := Lib.hid (rd_lit1 w19 3)
  have kk20 : Below w7.heap.size w7 (w19.alloc (.cells #[.int .i64 3] 3)) := kk19.trans (kl19.mono kk19.size)
  generalize w19.alloc (.cells #[.int .i64 3] 3) = w20 at *
  refine (same_ints hC.out hD.out (by omega) (by omega)).mono ?_
  rw [show decide (([3] : List Int) = [3]) = true by decide]
  rintro e w21 ⟨rfl, k21⟩
  go_wp2_with fail
  go_ret
  exact ⟨rfl, kk7.trans ((kk20.trans (k21.mono kk20.size)).mono hz7)⟩
theorem streamKnown_law (W : World) : Calls Try.prog 9 #[] W fun e w' => e = .returned (.bool true) ∧ Below W.heap.size W w' := streamKnown_walk W
end Go.Proofs.Ytmimbfikjnfhdaa
