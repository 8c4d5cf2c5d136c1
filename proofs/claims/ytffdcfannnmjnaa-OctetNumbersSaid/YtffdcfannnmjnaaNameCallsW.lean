/- NameCalls returns true for any two names and any depth. The walk. -/
import Derived.Test.YtffdcfannnmjnaaNameG
namespace Go.Proofs.Ytffdcfannnmjnaa
open Go.RowKit
/-- names that are told: each in memory of its own -/
def Told (M : Nat) (base : Nat) (w : World) (L : List (Value × Nm)) : Prop := ∀ p ∈ L, OwnT M w base p.1 p.2
theorem Told.nil (M base : Nat) (w : World) : Told M base w [] := fun p hp => by cases hp
theorem Told.ext {M base : Nat} {w w' : World} {L : List (Value × Nm)} (h : Told M base w L) (hb : Below w.heap.size w w') : Told M base w' L := fun p hp => (h p hp).ext hb
theorem Told.cons {M base base' : Nat} {w : World} {L : List (Value × Nm)} {v : Value} {l : Nm} (h : Told M base w L) (ho : OwnT M w base' v l) (hb : base ≤ base') : Told M base w ((v, l) :: L) := fun p hp => by
  rcases List.mem_cons.1 hp with rfl | hp
  · exact ho.mono hb
  · exact h p hp
theorem OwnT.rd' {M : Nat} {w : World} {base : Nat} {a : Option Addr} {n c : Nat} {l : Nm} (h : OwnT M w base (.slice a n c) l) : Rd strE w a n c l := by
  obtain ⟨a', c', e, hr⟩ := h.rd
  simp only [Value.slice.injEq] at e
  obtain ⟨rfl, rfl, rfl⟩ := e
  exact hr
theorem Told.get {M base : Nat} {w : World} {L : List (Value × Nm)} (h : Told M base w L) {a : Option Addr} {n c : Nat} {l : Nm} (i : Nat) (hi : L[i]? = some (.slice a n c, l)) : Rd strE w a n c l :=
  (h _ (List.mem_of_getElem? hi)).rd'
theorem Told.ov {M base : Nat} {w : World} {L : List (Value × Nm)} (h : Told M base w L) {v : Value} {l : Nm} (i : Nat) (hi : L[i]? = some (v, l)) : OvT M w base v :=
  (h _ (List.mem_of_getElem? hi)).ov
theorem rd_pre {α : Type} {E : Enc α} {w : World} {g : Nat} {fz : Nat × Nat} {l r : List α} (h : Blk w g E.e fz (rowOf E (l ++ r))) (n c : Nat) (hn : n = l.length) (hc : c = l.length + r.length) (hm : c ≤ maxLen) : Rd E w (some ⟨g, 0, none⟩) n c l := by
  subst hn hc
  refine ⟨rfl, by omega, hm, fun j hj i hi => ⟨g, 0, rfl, ?_⟩⟩
  rw [h.cell, Nat.zero_add, rowOf_get E (l ++ r) j i (by simp; omega) hi, List.getElem_append_left hj]
theorem wild_join (l : Nm) : wildL l = joinL [[42]] l := by
  by_cases h : checkL l = 0
  · unfold wildL; rw [if_neg (by simp [h])]
  · have h2 : checkL [[42]] = 0 := by decide
    unfold wildL joinL; rw [if_pos h, if_neg (by simp [h2]), if_pos h]
set_option maxHeartbeats 16000000 in
set_option maxRecDepth 100000 in
theorem nameCalls_walk {W : World} {a b : Option Addr} {na ca nb cb : Nat} {la lb : Nm} (h1 : RT W a na ca la) (h2 : RT W b nb cb lb) (d : Int) :
    Calls Try.prog 14 #[.slice a na ca, .slice b nb cb, .int .i64 d] W fun e w' => e = .returned (.bool true) ∧ Below W.heap.size W w' := by
  by_cases fa : fewL la = true
  · by_cases fb : fewL lb = true
    · obtain ⟨hA0, z1⟩ := fewL_nmd h1 fa
      obtain ⟨hB0, z2⟩ := fewL_nmd h2 fb
      have s1 : ∀ s ∈ la, s.length ≤ 300 := fun s hs => by
        unfold fewL at fa; simp only [Bool.and_eq_true, List.all_eq_true, decide_eq_true_eq] at fa; exact fa.1 s hs
      have s2 : ∀ s ∈ lb, s.length ≤ 300 := fun s hs => by
        unfold fewL at fb; simp only [Bool.and_eq_true, List.all_eq_true, decide_eq_true_eq] at fb; exact fb.1 s hs
      have zs : sizeL la ≤ 1152921504606846976 := by
        have := sizeL_bound 300 la s1
        have := hA0.rd.len
        omega
      have hNA := Lib.hid hA0
      have hNB := Lib.hid hB0
      have h1 := Lib.hid h1
      have h2 := Lib.hid h2
      have zs := zs
      have s1 := Lib.hid s1
      have s2 := Lib.hid s2
      clear hA0 hB0
      obtain ⟨pl, pe, hP⟩ : ∃ pl pe, parentL la = (pl, pe) := ⟨_, _, rfl⟩
      obtain ⟨ul, ue, hU⟩ : ∃ pl pe, aboveL la d = (pl, pe) := ⟨_, _, rfl⟩
      obtain ⟨jl, je, hJ⟩ : ∃ pl pe, joinL la lb = (pl, pe) := ⟨_, _, rfl⟩
      obtain ⟨wl, we, hW⟩ : ∃ pl pe, wildL la = (pl, pe) := ⟨_, _, rfl⟩
      obtain ⟨fl, hF⟩ : ∃ fl, la.map foldL = fl := ⟨_, rfl⟩
      have hW2 : joinL [[42]] la = (wl, we) := by rw [← wild_join]; exact hW
      go_enter Try.func14, Try.ntmps14
      go_wp2_with fail
      refine (few_any h1.out.rd h1.out.texts).mono ?_
      rw [fa]
      rintro e w0 ⟨rfl, rfl⟩
      go_wp2_with fail
      refine (few_any h2.out.rd h2.out.texts).mono ?_
      rw [fb]
      rintro e w0 ⟨rfl, rfl⟩
      go_wp2_with fail
      refine (lent_name h1.out.rd (by omega)).mono ?_
      rintro e w1 ⟨rfl, hB1, kb1⟩
      have hB1' := Lib.hid hB1
      clear hB1
      go_wp2_with fail
      refine (lent_name (h2.out.rd.ext kb1) (by omega)).mono ?_
      rintro e w2 ⟨rfl, hB2, kb2⟩
      have hB2' := Lib.hid hB2
      have hB1b := Lib.hid (hB1'.out.below kb2 hB1'.out.lt)
      clear hB2 hB1'
      have hbW : Below W.heap.size W w2 := kb1.trans (kb2.mono kb1.size)
      have hX : Hid (Nms w2 (some ⟨W.heap.size, 0, none⟩) na (na + 3) la) := Lib.hid ⟨⟨rd_pre (E := strE) (l := la) (r := [lentS, lentS, lentS]) hB1b.out na (na + 3) hNA.out.rd.len.symm (by rw [hNA.out.rd.len]; rfl) (by simp [maxLen]; omega), hNA.out.few, hNA.out.short⟩, fun s hs => Nat.le_trans (s1.out s hs) (by omega)⟩
      have hY : Hid (Nms w2 (some ⟨w1.heap.size, 0, none⟩) nb (nb + 3) lb) := Lib.hid ⟨⟨rd_pre (E := strE) (l := lb) (r := [lentS, lentS, lentS]) hB2'.out nb (nb + 3) hNB.out.rd.len.symm (by rw [hNB.out.rd.len]; rfl) (by simp [maxLen]; omega), hNB.out.few, hNB.out.short⟩, fun s hs => Nat.le_trans (s2.out s hs) (by omega)⟩
      have hA : Hid (Nms w2 a na ca la) := Lib.hid ⟨hNA.out.ext hbW, fun s hs => Nat.le_trans (s1.out s hs) (by omega)⟩
      have hB : Hid (Nms w2 b nb cb lb) := Lib.hid ⟨hNB.out.ext hbW, fun s hs => Nat.le_trans (s2.out s hs) (by omega)⟩
      have hxl := hB1b.out.lt
      have hyl := hB2'.out.lt
      have hb2 : Below w2.heap.size w2 w2 := Below.refl _ _
      have ht2 : Hid (Told 300 w2.heap.size w2 []) := Lib.hid (Told.nil _ _ _)
      have z3 : na ≤ 1099511627776 := by omega
      have z1 : na ≤ 8796093022208 := by omega
      have z2 : nb ≤ 8796093022208 := by omega
      generalize hgx : W.heap.size = gx at *
      generalize w1.heap.size = gy at *
      clear hNA hNB h1 h2
      go_wp2_with fail
      refine (check_any (hX.out.ext hb2).nm.rd z1).mono ?_
      rintro e wz ⟨rfl, rfl⟩
      go_wp2_with fail
      refine (rcheck_any (hA.out.ext hb2).nm.rd z1).mono ?_
      rintro e wz ⟨rfl, rfl⟩
      go_wp2_with fail
      refine (size_any (hX.out.ext hb2).nm.rd zs).mono ?_
      rintro e wz ⟨rfl, rfl⟩
      go_wp2_with fail
      refine (rsize_any (hA.out.ext hb2).nm.rd zs).mono ?_
      rintro e wz ⟨rfl, rfl⟩
      go_wp2_with fail
      refine (nm_same (hX.out.ext hb2).nm (hY.out.ext hb2).nm).mono ?_
      rintro e w3 ⟨rfl, k3⟩
      have hb3 : Below w2.heap.size w2 w3 := hb2.trans (k3.mono hb2.size)
      have ht3 := Lib.hid (ht2.out.ext k3)
      clear ht2
      go_wp2_with fail
      refine (rsame (hA.out.ext hb3) (hB.out.ext hb3)).mono ?_
      rintro e w4 ⟨rfl, k4⟩
      have hb4 : Below w2.heap.size w2 w4 := hb3.trans (k4.mono hb3.size)
      have ht4 := Lib.hid (ht3.out.ext k4)
      clear ht3
      go_wp2_with fail
      refine (nm_compare (hX.out.ext hb4).nm (hY.out.ext hb4).nm).mono ?_
      rintro e w5 ⟨rfl, k5⟩
      have hb5 : Below w2.heap.size w2 w5 := hb4.trans (k5.mono hb4.size)
      have ht5 := Lib.hid (ht4.out.ext k5)
      clear ht4
      go_wp2_with fail
      refine (rcompare (hA.out.ext hb5) (hB.out.ext hb5)).mono ?_
      rintro e w6 ⟨rfl, k6⟩
      have hb6 : Below w2.heap.size w2 w6 := hb5.trans (k6.mono hb5.size)
      have ht6 := Lib.hid (ht5.out.ext k6)
      clear ht5
      go_wp2_with fail
      refine (nm_under (hX.out.ext hb6).nm (hY.out.ext hb6).nm).mono ?_
      rintro e w7 ⟨rfl, k7⟩
      have hb7 : Below w2.heap.size w2 w7 := hb6.trans (k7.mono hb6.size)
      have ht7 := Lib.hid (ht6.out.ext k7)
      clear ht6
      go_wp2_with fail
      refine (runder (hA.out.ext hb7) (hB.out.ext hb7)).mono ?_
      rintro e w8 ⟨rfl, k8⟩
      have hb8 : Below w2.heap.size w2 w8 := hb7.trans (k8.mono hb7.size)
      have ht8 := Lib.hid (ht7.out.ext k8)
      clear ht7
      go_wp2_with fail
      refine (nm_common (hX.out.ext hb8).nm (hY.out.ext hb8).nm).mono ?_
      rintro e w9 ⟨rfl, k9⟩
      have hb9 : Below w2.heap.size w2 w9 := hb8.trans (k9.mono hb8.size)
      have ht9 := Lib.hid (ht8.out.ext k9)
      clear ht8
      go_wp2_with fail
      refine (rcommon (hA.out.ext hb9) (hB.out.ext hb9)).mono ?_
      rintro e w10 ⟨rfl, k10⟩
      have hb10 : Below w2.heap.size w2 w10 := hb9.trans (k10.mono hb9.size)
      have ht10 := Lib.hid (ht9.out.ext k10)
      clear ht9
      go_wp2_with fail
      refine (parent_any (M := 300) (by omega) (hX.out.ext hb10).nm.rd z1).mono ?_
      rw [hP]
      dsimp only
      rintro e w11 ⟨⟨v, rfl, ho⟩, k11⟩
      obtain ⟨a_p, c_p, hv, _⟩ := ho.rd
      subst hv
      have hb11 : Below w2.heap.size w2 w11 := hb10.trans (k11.mono hb10.size)
      have ht11 := Lib.hid ((ht10.out.ext k11).cons ho hb10.size)
      clear ht10 ho
      go_wp2_with fail
      refine (rparent (M := 300) (by omega) (hA.out.ext hb11).nm.rd z1).mono ?_
      rw [hP]
      dsimp only
      rintro e w12 ⟨⟨v, rfl, ho⟩, k12⟩
      obtain ⟨a_q, c_q, hv, _⟩ := ho.rd
      subst hv
      have hb12 : Below w2.heap.size w2 w12 := hb11.trans (k12.mono hb11.size)
      have ht12 := Lib.hid ((ht11.out.ext k12).cons ho hb11.size)
      clear ht11 ho
      go_wp2_with fail
      refine (above_any (M := 300) (by omega) (hX.out.ext hb12).nm.rd z1 d).mono ?_
      rw [hU]
      dsimp only
      rintro e w13 ⟨⟨v, rfl, ho⟩, k13⟩
      obtain ⟨a_u, c_u, hv, _⟩ := ho.rd
      subst hv
      have hb13 : Below w2.heap.size w2 w13 := hb12.trans (k13.mono hb12.size)
      have ht13 := Lib.hid ((ht12.out.ext k13).cons ho hb12.size)
      clear ht12 ho
      go_wp2_with fail
      refine (rabove (M := 300) (by omega) (hA.out.ext hb13).nm.rd z1 d).mono ?_
      rw [hU]
      dsimp only
      rintro e w14 ⟨⟨v, rfl, ho⟩, k14⟩
      obtain ⟨a_v, c_v, hv, _⟩ := ho.rd
      subst hv
      have hb14 : Below w2.heap.size w2 w14 := hb13.trans (k14.mono hb13.size)
      have ht14 := Lib.hid ((ht13.out.ext k14).cons ho hb13.size)
      clear ht13 ho
      go_wp2_with fail
      refine (join_any (M := 300) (by omega) (hX.out.ext hb14).nm.rd (hY.out.ext hb14).nm.rd z1 z2).mono ?_
      rw [hJ]
      dsimp only
      rintro e w15 ⟨⟨v, rfl, ho⟩, k15⟩
      obtain ⟨a_j, c_j, hv, _⟩ := ho.rd
      subst hv
      have hb15 : Below w2.heap.size w2 w15 := hb14.trans (k15.mono hb14.size)
      have ht15 := Lib.hid ((ht14.out.ext k15).cons ho hb14.size)
      clear ht14 ho
      go_wp2_with fail
      refine (rjoin (M := 300) (by omega) (hA.out.ext hb15).nm.rd (hB.out.ext hb15).nm.rd z1 z2).mono ?_
      rw [hJ]
      dsimp only
      rintro e w16 ⟨⟨v, rfl, ho⟩, k16⟩
      obtain ⟨a_k, c_k, hv, _⟩ := ho.rd
      subst hv
      have hb16 : Below w2.heap.size w2 w16 := hb15.trans (k16.mono hb15.size)
      have ht16 := Lib.hid ((ht15.out.ext k16).cons ho hb15.size)
      clear ht15 ho
      go_wp2_with fail
      refine (wild_any (M := 300) (by omega) (hX.out.ext hb16).nm.rd z1).mono ?_
      rw [hW]
      dsimp only
      rintro e w17 ⟨⟨v, rfl, ho⟩, k17⟩
      obtain ⟨a_w, c_w, hv, _⟩ := ho.rd
      subst hv
      have hb17 : Below w2.heap.size w2 w17 := hb16.trans (k17.mono hb16.size)
      have ht17 := Lib.hid ((ht16.out.ext k17).cons ho hb16.size)
      clear ht16 ho
      have hl17 := Lib.hid (lit_rd w17 [42])
      have ka17 : Below w17.heap.size w17 (w17.alloc (.cells #[.string { data := #[42] }] 9)) := (Below.refl _ _).alloc (Nat.le_refl _) _
      have hc17 : Below w2.heap.size w2 (w17.alloc (.cells #[.string { data := #[42] }] 9)) := hb17.trans (ka17.mono hb17.size)
      go_wp2_with fail
      refine (rjoin (M := 300) (by omega) hl17.out (hA.out.ext hc17).nm.rd (by decide) z1).mono ?_
      rw [hW2]
      dsimp only
      rintro e w18 ⟨⟨v, rfl, ho⟩, k18⟩
      obtain ⟨a_o, c_o, hv, _⟩ := ho.rd
      subst hv
      have hb18 : Below w2.heap.size w2 w18 := hc17.trans (k18.mono hc17.size)
      have ht18 := Lib.hid (((ht17.out.ext ka17).ext k18).cons ho hc17.size)
      clear ht17 ho
      go_wp2_with fail
      refine (copy_name (M := 300) (hX.out.ext hb18).nm.rd z1 s1.out).mono ?_
      rintro e w19 ⟨⟨v, rfl, ho⟩, k19⟩
      obtain ⟨a_c, c_c, hv, _⟩ := ho.rd
      subst hv
      have hb19 : Below w2.heap.size w2 w19 := hb18.trans (k19.mono hb18.size)
      have ht19 := Lib.hid ((ht18.out.ext k19).cons ho hb18.size)
      clear ht18 ho
      go_wp2_with fail
      refine (foldN_any (M := 300) (hX.out.ext hb19).nm.rd z3 s1.out (hX.out.ext hb19).sh).mono ?_
      rw [hF]
      rintro e w20 ⟨⟨v, rfl, ho⟩, k20⟩
      obtain ⟨a_d, c_d, hv, _⟩ := ho.rd
      subst hv
      have hb20 : Below w2.heap.size w2 w20 := hb19.trans (k20.mono hb19.size)
      have ht20 := Lib.hid ((ht19.out.ext k20).cons ho hb19.size)
      clear ht19 ho
      go_wp2_with fail
      refine (same_name (ht20.out.get 9 rfl) (ht20.out.get 8 rfl)).mono ?_
      rw [beq_self_eq_true]
      rintro e w21 ⟨rfl, k21⟩
      have hb21 : Below w2.heap.size w2 w21 := hb20.trans (k21.mono hb20.size)
      have ht21 := Lib.hid (ht20.out.ext k21)
      clear ht20
      go_wp2_with fail
      refine (same_name (ht21.out.get 7 rfl) (ht21.out.get 6 rfl)).mono ?_
      rw [beq_self_eq_true]
      rintro e w22 ⟨rfl, k22⟩
      have hb22 : Below w2.heap.size w2 w22 := hb21.trans (k22.mono hb21.size)
      have ht22 := Lib.hid (ht21.out.ext k22)
      clear ht21
      go_wp2_with fail
      refine (same_name (ht22.out.get 5 rfl) (ht22.out.get 4 rfl)).mono ?_
      rw [beq_self_eq_true]
      rintro e w23 ⟨rfl, k23⟩
      have hb23 : Below w2.heap.size w2 w23 := hb22.trans (k23.mono hb22.size)
      have ht23 := Lib.hid (ht22.out.ext k23)
      clear ht22
      go_wp2_with fail
      refine (same_name (ht23.out.get 3 rfl) (ht23.out.get 2 rfl)).mono ?_
      rw [beq_self_eq_true]
      rintro e w24 ⟨rfl, k24⟩
      have hb24 : Below w2.heap.size w2 w24 := hb23.trans (k24.mono hb23.size)
      have ht24 := Lib.hid (ht23.out.ext k24)
      clear ht23
      go_wp2_with fail
      refine (same_name (ht24.out.get 1 rfl) (hA.out.ext hb24).nm.rd).mono ?_
      rw [beq_self_eq_true]
      rintro e w25 ⟨rfl, k25⟩
      have hb25 : Below w2.heap.size w2 w25 := hb24.trans (k25.mono hb24.size)
      have ht25 := Lib.hid (ht24.out.ext k25)
      clear ht24
      go_wp2_with fail
      refine (rfoldN_any (M := 300) (hA.out.ext hb25).nm.rd z3 s1.out (hA.out.ext hb25).sh).mono ?_
      rw [hF]
      rintro e w26 ⟨⟨v, rfl, ho⟩, k26⟩
      obtain ⟨a_r, c_r, hv, _⟩ := ho.rd
      subst hv
      have hb26 : Below w2.heap.size w2 w26 := hb25.trans (k26.mono hb25.size)
      have ht26 := Lib.hid ((ht25.out.ext k26).cons ho hb25.size)
      clear ht25 ho
      go_wp2_with fail
      refine (same_name (ht26.out.get 1 rfl) (ht26.out.get 0 rfl)).mono ?_
      rw [beq_self_eq_true]
      rintro e w27 ⟨rfl, k27⟩
      have hb27 : Below w2.heap.size w2 w27 := hb26.trans (k27.mono hb26.size)
      have ht27 := Lib.hid (ht26.out.ext k27)
      clear ht26
      have hO := Lib.hid (fun (j : Nat) (v : Value) (hv : [Value.slice a_p pl.length c_p, Value.slice a_u ul.length c_u, Value.slice a_j jl.length c_j, Value.slice a_w wl.length c_w, Value.slice a_c la.length c_c, Value.slice a_d fl.length c_d][j]? = some v) => (show OvT 300 w27 w2.heap.size v from by
        match j, hv with
        | 0, hv => cases hv; exact ht27.out.ov 10 rfl
        | 1, hv => cases hv; exact ht27.out.ov 8 rfl
        | 2, hv => cases hv; exact ht27.out.ov 6 rfl
        | 3, hv => cases hv; exact ht27.out.ov 4 rfl
        | 4, hv => cases hv; exact ht27.out.ov 2 rfl
        | 5, hv => cases hv; exact ht27.out.ov 1 rfl
        | j + 6, hv => simp at hv))
      have hBt := Blk.new w27 49 (0, 0) #[Value.slice a_p pl.length c_p, Value.slice a_u ul.length c_u, Value.slice a_j jl.length c_j, Value.slice a_w wl.length c_w, Value.slice a_c la.length c_c, Value.slice a_d fl.length c_d]
      have kw : Below w27.heap.size w27 (w27.alloc (.cells #[Value.slice a_p pl.length c_p, Value.slice a_u ul.length c_u, Value.slice a_j jl.length c_j, Value.slice a_w wl.length c_w, Value.slice a_c la.length c_c, Value.slice a_d fl.length c_d] 49)) := (Below.refl _ _).alloc (Nat.le_refl _) _
      go_wp2_with fail
      generalize hW28 : w27.alloc (.cells #[Value.slice a_p pl.length c_p, Value.slice a_u ul.length c_u, Value.slice a_j jl.length c_j, Value.slice a_w wl.length c_w, Value.slice a_c la.length c_c, Value.slice a_d fl.length c_d] 49) = w28 at *
      generalize hvals : [Value.slice a_p pl.length c_p, Value.slice a_u ul.length c_u, Value.slice a_j jl.length c_j, Value.slice a_w wl.length c_w, Value.slice a_c la.length c_c, Value.slice a_d fl.length c_d] = vals at *
      have hlen : vals.length = 6 := by rw [← hvals]; rfl
      have hb28 : Below w2.heap.size w2 w28 := hb27.trans (kw.mono hb27.size)
      have hO28 := Lib.hid (fun (j : Nat) (v : Value) (hv : vals[j]? = some v) => (hO.out j v hv).keep kw)
      have hBt' : Hid (Blk w28 w27.heap.size 49 (0, 0) vals) := Lib.hid hBt
      have hbt : w2.heap.size ≤ w27.heap.size := hb27.size
      generalize w27.heap.size = bt at *
      have hL := Lib.hid hlen
      clear hO hBt hlen hvals hW28 ht27
      go_loopw [28] (fun i wr => ∃ t : Nat, t ≤ 6 ∧ i = .int .i64 t ∧ Blk wr bt 49 (0, 0) vals ∧ (∀ (j : Nat) (v : Value), vals[j]? = some v → OvT (300 + t) wr w2.heap.size v) ∧ Below w2.heap.size w2 wr)
        (fun i _ => 6 - (intOf i).toNat)
      case atStart => exact ⟨0, by omega, rfl, hBt'.out, hO28.out, hb28⟩
      case round =>
        clear hO28 hBt' hb28
        obtain ⟨t, ht, rfl, hBr, hOr, hbr⟩ := hrel
        have hBr' := Lib.hid hBr
        have hOr' := Lib.hid hOr
        clear hOr
        by_cases hlt : t < 6
        · have hv : vals[t]? = some (vals[t]'(by have := hL.out; omega)) := List.getElem?_eq_getElem _
          have hcell : wr.cell? ⟨bt, t, none⟩ = some (vals[t]'(by have := hL.out; omega)) := by rw [hBr.cell]; exact hv
          have hov := Lib.hid (hOr'.out t _ hv)
          clear hBr hv
          generalize (vals[t]'(by have := hL.out; omega)) = v at *
          go_wp2_with fail
          refine (over_texts (by omega) hov.out).mono ?_
          rintro e wn ⟨rfl, hov2, hgr, hg⟩
          have hBn : Hid (Blk wn bt 49 (0, 0) vals) := Lib.hid ((hgr.block bt hBr'.out.lt (fun e => by
            obtain ⟨_, C, hC⟩ := hg bt e.symm
            have := hC.symm.trans hBr'.out
            simp at this)).trans hBr'.out)
          have hbn : Below w2.heap.size w2 wn := hbr.grown hgr hbr.size (fun k hk => (hg k hk).1)
          have hOn := Lib.hid (fun (j : Nat) (u : Value) (hu : vals[j]? = some u) => hov2 u (hOr'.out j u hu))
          clear hov2 hgr hg
          go_wp2_with fail
          go_roundw
          case rel => exact ⟨t + 1, by omega, by go_num, hBn.out, hOn.out, hbn⟩
          case measure => simp [intOf]; omega
        · have ht6 : t = 6 := by omega
          subst ht6
          clear hBr
          have rx : Rd strE wr (some ⟨gx, 0, none⟩) (na + 3) (na + 3) (lentT la) := rd_blk (E := strE) (hB1b.out.below hbr hxl) _ (by rw [lentT_length, hA.out.nm.rd.len]) (by simp [maxLen]; omega)
          have rx' := Lib.hid rx
          clear rx
          go_wp2_with fail
          refine (kept_name (n := na) rx'.out (hA.out.ext hbr).nm.rd z3 rfl).mono ?_
          rw [beq_self_eq_true]
          rintro e wn ⟨rfl, kn⟩
          have hbn : Below w2.heap.size w2 wn := hbr.trans (kn.mono hbr.size)
          have ry : Rd strE wn (some ⟨gy, 0, none⟩) (nb + 3) (nb + 3) (lentT lb) := rd_blk (E := strE) (hB2'.out.below hbn hyl) _ (by rw [lentT_length, hB.out.nm.rd.len]) (by simp [maxLen]; omega)
          have ry' := Lib.hid ry
          clear ry
          go_wp2_with fail
          refine (kept_name (n := nb) ry'.out (hB.out.ext hbn).nm.rd (by omega) rfl).mono ?_
          rw [beq_self_eq_true]
          rintro e wm ⟨rfl, km⟩
          have hbm : Below w2.heap.size w2 wm := hbn.trans (km.mono hbn.size)
          go_wp2_with fail
          go_ret
          exact ⟨rfl, by rw [hgx]; exact hbW.trans (hbm.mono (by omega))⟩
    · have fb : fewL lb = false := by simpa using fb
      have h1 := Lib.hid h1
      have h2 := Lib.hid h2
      go_enter Try.func14, Try.ntmps14
      go_wp2_with fail
      refine (few_any h1.out.rd h1.out.texts).mono ?_
      rw [fa]
      rintro e w0 ⟨rfl, rfl⟩
      go_wp2_with fail
      refine (few_any h2.out.rd h2.out.texts).mono ?_
      rw [fb]
      rintro e w0 ⟨rfl, rfl⟩
      go_wp2_with fail
      go_ret
      exact ⟨rfl, Below.refl _ _⟩
  · have fa : fewL la = false := by simpa using fa
    have h1 := Lib.hid h1
    go_enter Try.func14, Try.ntmps14
    go_wp2_with fail
    refine (few_any h1.out.rd h1.out.texts).mono ?_
    rw [fa]
    rintro e w0 ⟨rfl, rfl⟩
    go_wp2_with fail
    go_ret
    exact ⟨rfl, Below.refl _ _⟩
theorem nameCalls_law {W : World} (a : Option Addr) (na ca : Nat) (la : Nm) (h1 : RT W a na ca la) (b : Option Addr) (nb cb : Nat) (lb : Nm) (h2 : RT W b nb cb lb) (d : Int) (_ : (Lit.int .i64 d).wf = true) (_ : World) :
    Calls Try.prog 14 #[.slice a na ca, .slice b nb cb, .int .i64 d] W fun e w' => e = .returned (.bool true) ∧ Below W.heap.size W w' := nameCalls_walk h1 h2 d
end Go.Proofs.Ytffdcfannnmjnaa
