/- The law PickKnown, walked; printed by gen_pickknown.py. -/
import Derived.Test.YtjkeijjfjbcaiaaPkM
namespace Go.Proofs.Ytjkeijjfjbcaiaa
open Go.RowKit
theorem m_field1 (a b c d : Int) (u : World) : (Instr.field 34 (.agg #[.int .u32 a, .int .i64 b, .int .i64 c, .int .i64 d]) 1).run Try.prog u = .ok (.int .i64 b) u := by kernel_rfl
theorem kb_nil : ∀ k ∈ ([] : List Kn), KB k := fun k h => by cases h
theorem kb_cons {k : Kn} {l : List Kn} (h : KB k) (hl : ∀ x ∈ l, KB x) : ∀ x ∈ k :: l, KB x := fun x hx => by
  rcases List.mem_cons.1 hx with rfl | hx
  · exact h
  · exact hl x hx
set_option maxHeartbeats 16000000 in
set_option maxRecDepth 100000 in
theorem pickKnown_law (w0 : World) : Calls Try.prog 8 #[] w0 fun e w' => e = .returned (.bool true) ∧ Below w0.heap.size w0 w' := by
  have hf := fun u => m_field1 2 180 1 3 u
  go_enter Try.func8, Try.ntmps8
  go_wp2_with fail
  refine (newU 2 (by decide) (by decide) w0).mono ?_
  rintro e w1 ⟨rfl, hP⟩
  have hP1 := Lib.hid hP
  clear hP
  have e2 : hrd 2 [] (knGood [] 2 80 0) = [⟨2, 80, 0, 0⟩] := by decide
  go_wp2_with fail
  refine (goodU hP1.out (by decide) (by decide) kb_nil 2 80 0 (by decide) (by decide)).mono ?_
  rintro e w2 ⟨rfl, hP⟩
  have hP2 := Lib.hid (hP.cast e2)
  clear hP e2
  have e3 : waitK [⟨2, 80, 0, 0⟩] 2 = 1 := by decide
  go_wp2_with fail
  refine (waitU hP2.out (by decide) (by decide) (kb_cons (by unfold KB; decide) kb_nil) 2).mono ?_
  rintro e w3 ⟨rfl, -, hP⟩
  rw [e3]
  have hP3 := Lib.hid hP
  clear hP e3
  have e4 : waitK [⟨2, 80, 0, 0⟩] 1 = 1 := by decide
  go_wp2_with fail
  refine (waitU hP3.out (by decide) (by decide) (kb_cons (by unfold KB; decide) kb_nil) 1).mono ?_
  rintro e w4 ⟨rfl, -, hP⟩
  rw [e4]
  have hP4 := Lib.hid hP
  clear hP e4
  have e5 : hrd 2 [⟨2, 80, 0, 0⟩] (knGood [⟨2, 80, 0, 0⟩] 2 160 1) = [⟨2, 90, 0, 1⟩] := by decide
  go_wp2_with fail
  refine (goodU hP4.out (by decide) (by decide) (kb_cons (by unfold KB; decide) kb_nil) 2 160 1 (by decide) (by decide)).mono ?_
  rintro e w5 ⟨rfl, hP⟩
  have hP5 := Lib.hid (hP.cast e5)
  clear hP e5
  have e6 : hrd 2 [⟨2, 90, 0, 1⟩] (knBad [⟨2, 90, 0, 1⟩] 2 1) = [⟨2, 180, 1, 3⟩] := by decide
  go_wp2_with fail
  refine (badU hP5.out (by decide) (by decide) (kb_cons (by unfold KB; decide) kb_nil) 2 1 (by decide)).mono ?_
  rintro e w6 ⟨rfl, hP⟩
  have hP6 := Lib.hid (hP.cast e6)
  clear hP e6
  have e7 : chooseK [⟨2, 180, 1, 3⟩] 1 [1, 2] = 1 := by decide
  have hR6 := Lib.hid (rd_made u32E w6 #[.int .u32 1, .int .u32 2] [1, 2] 2 rfl rfl (by decide))
  go_wp2_with fail
  refine (chooseU (hP6.out.ext (al_below _ _)) (by decide) (by decide) hR6.out 1).mono ?_
  rintro e w7 ⟨rfl, hbk, hP⟩
  rw [e7]
  have hP7 := Lib.hid hP
  clear hP e7 hR6
  have e8 : chooseK [⟨2, 180, 1, 3⟩] 1 [2] = 2 := by decide
  have hR7 := Lib.hid (rd_made u32E w7 #[.int .u32 2] [2] 1 rfl rfl (by decide))
  go_wp2_with fail
  refine (chooseU (hP7.out.ext (al_below _ _)) (by decide) (by decide) hR7.out 1).mono ?_
  rintro e w8 ⟨rfl, hbk, hP⟩
  rw [e8]
  have hP8 := Lib.hid hP
  clear hP e8 hR7
  have e9 : chooseK [⟨2, 180, 1, 3⟩] 3 [1, 2] = 2 := by decide
  have hR8 := Lib.hid (rd_made u32E w8 #[.int .u32 1, .int .u32 2] [1, 2] 2 rfl rfl (by decide))
  go_wp2_with fail
  refine (chooseU (hP8.out.ext (al_below _ _)) (by decide) (by decide) hR8.out 3).mono ?_
  rintro e w9 ⟨rfl, hbk, hP⟩
  rw [e9]
  have hP9 := Lib.hid hP
  clear hP e9 hR8
  go_wp2_with fail
  refine (knownU hP9.out (by decide) (by decide)).mono ?_
  rintro e w10 ⟨⟨a10, c10, rfl, hR⟩, -, hP⟩
  have hP10 := Lib.hid hP
  have hR10 := Lib.hid hR
  clear hP hR
  have e11 : ofD [⟨2, 180, 1, 3⟩] 2 = ⟨2, 180, 1, 3⟩ := by decide
  go_wp2_with fail
  refine (lof13 hR10.out (by decide) 2).mono ?_
  rintro e w11 ⟨rfl, hb⟩
  rw [e11]
  have hP11 := Lib.hid (hP10.out.ext hb)
  unfold knV
  dsimp only
  clear hb e11
  have e12 : hrd 2 [⟨2, 180, 1, 3⟩] (knBad [⟨2, 180, 1, 3⟩] 1 3) = [⟨2, 180, 1, 3⟩, ⟨1, 400, 1, 5⟩] := by decide
  go_wp2_with fail
  refine (badU hP11.out (by decide) (by decide) (kb_cons (by unfold KB; decide) kb_nil) 1 3 (by decide)).mono ?_
  rintro e w12 ⟨rfl, hP⟩
  have hP12 := Lib.hid (hP.cast e12)
  clear hP e12
  have e13 : hrd 2 [⟨2, 180, 1, 3⟩, ⟨1, 400, 1, 5⟩] (knBad [⟨2, 180, 1, 3⟩, ⟨1, 400, 1, 5⟩] 1 4) = [⟨2, 180, 1, 3⟩, ⟨1, 800, 2, 8⟩] := by decide
  go_wp2_with fail
  refine (badU hP12.out (by decide) (by decide) (kb_cons (by unfold KB; decide) (kb_cons (by unfold KB; decide) kb_nil)) 1 4 (by decide)).mono ?_
  rintro e w13 ⟨rfl, hP⟩
  have hP13 := Lib.hid (hP.cast e13)
  clear hP e13
  go_wp2_with fail
  refine (knownU hP13.out (by decide) (by decide)).mono ?_
  rintro e w14 ⟨⟨a14, c14, rfl, hR⟩, -, hP⟩
  have hP14 := Lib.hid hP
  have hR14 := Lib.hid hR
  clear hP hR
  have e15 : ofD [⟨2, 180, 1, 3⟩, ⟨1, 800, 2, 8⟩] 1 = ⟨1, 800, 2, 8⟩ := by decide
  go_wp2_with fail
  refine (lof13 hR14.out (by decide) 1).mono ?_
  rintro e w15 ⟨rfl, hb⟩
  rw [e15]
  have hP15 := Lib.hid (hP14.out.ext hb)
  unfold knV
  dsimp only
  clear hb e15
  obtain ⟨w16, hwB⟩ : ∃ x, w15.alloc (.cells #[.int .u32 1, .int .i64 800, .int .i64 2, .int .i64 8] 34) = x := ⟨_, rfl⟩
  have hP16 : Hid (PkU w0 w16 w0.heap.size 2 [⟨2, 180, 1, 3⟩, ⟨1, 800, 2, 8⟩]) := by rw [← hwB]; exact Lib.hid (hP15.out.ext (al_below w15 _))
  have hN : Hid (Blk w16 w15.heap.size 34 (0, 0) [.int .u32 1, .int .i64 800, .int .i64 2, .int .i64 8]) := by rw [← hwB]; exact Lib.hid (Blk.new w15 34 (0, 0) _)
  obtain ⟨vB, hPB, hq2, hq3, hq4⟩ := hP15.out
  have hvl : Hid (∀ b, vB.ownBlock = some b → b < w15.heap.size) := Lib.hid (fun b h => (hPB.own.lt b h).2)
  have hpl : Hid (w0.heap.size < w15.heap.size) := Lib.hid hPB.blk.lt
  have hPB' := Lib.hid (hPB.ext (al_below w15 (.cells #[.int .u32 1, .int .i64 800, .int .i64 2, .int .i64 8] 34)))
  rw [hwB] at hPB'
  have hq3' := Lib.hid hq3
  have hq4' := Lib.hid hq4
  clear hPB hq2 hq3 hq4
  have e17 : chooseK [⟨2, 180, 1, 3⟩, ⟨1, 800, 2, 8⟩] 5 [1, 2] = 2 := by decide
  have hR16 := Lib.hid (rd_made u32E w16 #[.int .u32 1, .int .u32 2] [1, 2] 2 rfl rfl (by decide))
  go_wp2_with fail
  refine (chooseU (hP16.out.ext (al_below _ _)) (by decide) (by decide) hR16.out 5).mono ?_
  rintro e w17 ⟨rfl, hbk, hP⟩
  rw [e17]
  have hP17 := Lib.hid hP
  clear hP e17 hR16
  have hbk2 : Below w16.heap.size w16 w17 := (al_below _ _).trans (hbk.mono (size_al _ _ ▸ Nat.le_succ _))
  have hN2 := Lib.hid (hN.out.below hbk2 hN.out.lt)
  have hPB2 := Lib.hid (hPB'.out.ext hbk2)
  clear hbk hbk2
  have e18 : hrd 2 [⟨2, 180, 1, 3⟩, ⟨1, 800, 2, 8⟩] (knLame [⟨2, 180, 1, 3⟩, ⟨1, 800, 2, 8⟩] 3 5) = [⟨1, 800, 2, 8⟩, ⟨3, 200, 0, 905⟩] := by decide
  go_wp2_with fail
  refine (lame20 hPB2.out (by decide) (by decide) 3 5 (by decide)).mono ?_
  rintro e w18 ⟨rfl, v', hP', hH⟩
  have hP18 := Lib.hid ((PkU.hd hP17.out.below hq3'.out hq4'.out hP' hH).cast e18)
  have hN3 := Lib.hid (hH.tch.blk hN2.out (fun h => by
    have h1 := hpl.out
    rcases h with h | h
    · omega
    · exact Nat.lt_irrefl _ (hvl.out _ h)))
  clear hP' hH e18
  go_wp2_with fail
  refine (knownU hP18.out (by decide) (by decide)).mono ?_
  rintro e w19 ⟨⟨a19, c19, rfl, hR⟩, hb, hP⟩
  have hP19 := Lib.hid hP
  have hR19 := Lib.hid hR
  have hN4 := Lib.hid (hN3.out.below hb hN3.out.lt)
  clear hP hR hb
  go_wp2_with fail
  refine (new14_no 0 (by decide) w19).mono ?_
  rintro e w20 ⟨rfl, rfl⟩
  go_wp2_with fail
  refine (good_no hP19.out.cell (by decide) 1 (-1) 0 (by decide)).mono ?_
  rintro e w20 ⟨rfl, rfl⟩
  go_wp2_with fail
  refine (chooseU hP19.out (by decide) (by decide) (Rd.nil u32E w19) 0).mono ?_
  rintro e w20 ⟨rfl, hb, hP⟩
  have hP20 := Lib.hid hP
  have hRk := Lib.hid (hR19.out.ext hb)
  have hN5 := Lib.hid (hN4.out.below hb hN4.out.lt)
  clear hb hP
  go_wp2_with fail
  refine (awake9 w20).mono ?_
  rintro e w21 ⟨rfl, hb⟩
  have hP21 := Lib.hid (hP20.out.ext hb)
  obtain ⟨b, o, rfl, _, hc⟩ := rd_kn (hRk.out.ext hb) (by decide)
  obtain ⟨x0, x1, x2, x3⟩ := hc 0 (by decide)
  obtain ⟨y0, y1, y2, y3⟩ := hc 1 (by decide)
  have hN6 := hN5.out.below hb hN5.out.lt
  have n0 := hN6.cell 0
  have n1 := hN6.cell 1
  have n2 := hN6.cell 2
  have n3 := hN6.cell 3
  clear hc hb hN6
  simp only [List.getElem_cons_zero, List.getElem_cons_succ, List.getElem?_cons_zero, List.getElem?_cons_succ, Nat.zero_mul, Nat.one_mul, Nat.add_zero] at x0 x1 x2 x3 y0 y1 y2 y3 n0 n1 n2 n3
  go_wp2_with fail
  go_ret
  exact ⟨rfl, hP21.out.below⟩
end Go.Proofs.Ytjkeijjfjbcaiaa
