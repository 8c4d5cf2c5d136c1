/- NameOrder returns true for any three names. The walk. -/
import Derived.Test.YtffdcfannnmjnaaNameB
import Derived.Test.YtffdcfannnmjnaaOpenS
namespace Go.Proofs.Ytffdcfannnmjnaa
open Go.RowKit
section
variable {W w : World} {a a' : Option Addr} {n c n' c' : Nat} {l l' : Nm}
theorem nc_compare (h : Nmd W a n c l) (h' : Nmd W a' n' c' l') (hb : Below W.heap.size W w) :
    Calls Try.prog 36 #[.slice a n c, .slice a' n' c'] w fun e w' => e = .returned (.int .i64 (cmpL l l')) ∧ Below W.heap.size W w' :=
  (nm_compare (h.ext hb) (h'.ext hb)).mono fun _ _ ⟨e, k⟩ => ⟨e, hb.trans (k.mono hb.size)⟩
theorem nc_under (h : Nmd W a n c l) (h' : Nmd W a' n' c' l') (hb : Below W.heap.size W w) :
    Calls Try.prog 38 #[.slice a n c, .slice a' n' c'] w fun e w' => e = .returned (.bool (underL l l')) ∧ Below W.heap.size W w' :=
  (nm_under (h.ext hb) (h'.ext hb)).mono fun _ _ ⟨e, k⟩ => ⟨e, hb.trans (k.mono hb.size)⟩
theorem nc_same (h : Nmd W a n c l) (h' : Nmd W a' n' c' l') (hb : Below W.heap.size W w) :
    Calls Try.prog 37 #[.slice a n c, .slice a' n' c'] w fun e w' => e = .returned (.bool (sameL l l')) ∧ Below W.heap.size W w' :=
  (nm_same (h.ext hb) (h'.ext hb)).mono fun _ _ ⟨e, k⟩ => ⟨e, hb.trans (k.mono hb.size)⟩
theorem nc_common (h : Nmd W a n c l) (h' : Nmd W a' n' c' l') (hb : Below W.heap.size W w) :
    Calls Try.prog 39 #[.slice a n c, .slice a' n' c'] w fun e w' => e = .returned (.int .i64 (comL l l')) ∧ Below W.heap.size W w' :=
  (nm_common (h.ext hb) (h'.ext hb)).mono fun _ _ ⟨e, k⟩ => ⟨e, hb.trans (k.mono hb.size)⟩
end
theorem fewL_nmd {w : World} {a : Option Addr} {n c : Nat} {l : Nm} (h : RT w a n c l) (hf : fewL l = true) : Nmd w a n c l ∧ n ≤ 300 := by
  unfold fewL at hf
  simp only [Bool.and_eq_true, List.all_eq_true, decide_eq_true_eq] at hf
  have hl := h.rd.len
  exact ⟨⟨h.rd, by omega, fun s hs => Nat.le_trans (hf.1 s hs) (by decide)⟩, by omega⟩
theorem lit_nmd (w : World) (s : List UInt8) (hs : s.length ≤ 300) : Nmd (w.alloc (.cells #[.string (mk s)] 9)) (some ⟨w.heap.size, 0, none⟩) 1 1 [s] := by
  refine ⟨⟨rfl, Nat.le_refl _, by decide, fun j hj i hi => ⟨w.heap.size, 0, rfl, ?_⟩⟩, by decide, fun t ht => by simp at ht; subst ht; omega⟩
  have h1 : j = 0 := by simp at hj; exact hj
  have h2 : i = 0 := by have : strE.k = 1 := rfl; omega
  subst h1 h2
  rw [World.cell?_alloc_mark]; rfl
theorem compare_lit {W w : World} (hb : Below W.heap.size W w) : Calls Try.prog 36 #[.slice (some ⟨w.heap.size, 0, none⟩) 1 1, .slice (some ⟨w.heap.size + 1, 0, none⟩) 1 1] ((w.alloc (.cells #[.string { data := #[97] }] 9)).alloc (.cells #[.string { data := #[66] }] 9)) fun e w' =>
    e = .returned (.int .i64 (-1)) ∧ Below W.heap.size W w' := by
  have h1 := (lit_nmd w [97] (by decide)).ext ((Below.refl _ _).alloc (Nat.le_refl _) (.cells #[.string { data := #[66] }] 9))
  have h2 := lit_nmd (w.alloc (.cells #[.string { data := #[97] }] 9)) [66] (by decide)
  rw [World.size_alloc] at h2
  refine (nm_compare h1 h2).mono fun e w' ⟨he, hk⟩ => ⟨he.trans (ret_int (by decide)), ?_⟩
  have hb2 := (hb.alloc hb.size (.cells #[.string { data := #[97] }] 9)).alloc (by rw [World.size_alloc]; have := hb.size; omega) (.cells #[.string { data := #[66] }] 9)
  exact hb2.trans (hk.mono hb2.size)
theorem cmpL_range (a b : Nm) : -1 ≤ cmpL a b ∧ cmpL a b ≤ 1 := by
  have := cR_range (rv a) (rv b); unfold cmpL; omega
set_option maxHeartbeats 8000000 in
set_option maxRecDepth 100000 in
theorem nameOrder_walk {W : World} {a b c : Option Addr} {na ca nb cb nc cc : Nat} {la lb lc : Nm} (h1 : RT W a na ca la) (h2 : RT W b nb cb lb) (h3 : RT W c nc cc lc) :
    Calls Try.prog 6 #[.slice a na ca, .slice b nb cb, .slice c nc cc] W fun e w' => e = .returned (.bool true) ∧ Below W.heap.size W w' := by
  by_cases fa : fewL la = true
  · by_cases fb : fewL lb = true
    · by_cases fc : fewL lc = true
      · obtain ⟨hA, za⟩ := fewL_nmd h1 fa
        obtain ⟨hB, zb⟩ := fewL_nmd h2 fb
        obtain ⟨hC, zc⟩ := fewL_nmd h3 fc
        have hA := Lib.hid hA
        have hB := Lib.hid hB
        have hC := Lib.hid hC
        have h1 := Lib.hid h1
        have h2 := Lib.hid h2
        have h3 := Lib.hid h3
        have hl := h1.out.rd.len
        go_enter Try.func6, Try.ntmps6
        go_wp2_with fail
        refine (few_any h1.out.rd h1.out.texts).mono ?_
        rw [fa]
        rintro e w0 ⟨rfl, rfl⟩
        go_wp2_with fail
        refine (few_any h2.out.rd h2.out.texts).mono ?_
        rw [fb]
        rintro e w0 ⟨rfl, rfl⟩
        go_wp2_with fail
        refine (few_any h3.out.rd h3.out.texts).mono ?_
        rw [fc]
        rintro e w0 ⟨rfl, rfl⟩
        obtain ⟨o1, o2, o3, o4, o5, o6⟩ := order_law la lb lc
        have r1 := cmpL_range la lb
        have r2 := cmpL_range lb lc
        have r3 := cmpL_range la lc
        have o1' : cmpL lb la = - cmpL la lb := by omega
        have o4' : underL lb la = true → cmpL la lb ≤ 0 := o4
        have o5' := Lib.hid o5
        rw [hl] at o5'
        have o6' := Lib.hid o6
        have o3' := Lib.hid o3
        have o2' := Lib.hid o2
        clear o1 o2 o3 o4 o5 o6 hl
        go_wp2_with fail
        refine (nc_compare hA.out hB.out (Below.refl _ _)).mono ?_
        rintro e w1 ⟨rfl, hb1⟩
        go_wp2_with fail
        refine (nc_compare hB.out hC.out hb1).mono ?_
        rintro e w2 ⟨rfl, hb2⟩
        go_wp2_with fail
        refine (nc_compare hA.out hC.out hb2).mono ?_
        rintro e w3 ⟨rfl, hb3⟩
        go_wp2_with fail
        refine (nc_compare hB.out hA.out hb3).mono ?_
        rw [o1']
        rintro e w4 ⟨rfl, hb4⟩
        clear o1'
        generalize cmpL la lb = X at *
        generalize cmpL lb lc = Y at *
        generalize cmpL la lc = Z at *
        have q0 : (X == 0) = sameL la lb := by rw [← o2'.out, Bool.eq_iff_iff]; simp
        clear o2'
        go_wp2_with fail
        refine (nc_same hA.out hB.out hb4).mono ?_
        rw [← q0]
        clear q0
        rintro e w5 ⟨rfl, hb5⟩
        by_cases p1 : 0 < X
        · have hu : underL lb la = false := by
            cases hu : underL lb la
            · rfl
            · have := o4' hu; omega
          clear o4'
          have q5 : ((comL lb la : Int) == (na : Int)) = false := by rw [beq_cast, ← o5'.out, hu]
          go_wp2_with fail
          refine (compare_lit hb5).mono ?_
          rintro e w6 ⟨rfl, hb6⟩
          go_wp2_with fail
          refine (nc_under hB.out hA.out hb6).mono ?_
          rw [hu]
          rintro e w7 ⟨rfl, hb7⟩
          go_wp2_with fail
          refine (nc_under hB.out hA.out hb7).mono ?_
          rw [hu]
          rintro e w8 ⟨rfl, hb8⟩
          go_wp2_with fail
          refine (nc_common hB.out hA.out hb8).mono ?_
          rintro e w9 ⟨rfl, hb9⟩
          go_wp2_with fail
          go_ret
          exact ⟨rfl, hb9⟩
        · by_cases p2 : 0 < Y
          · clear o4'
            cases hu : underL lb la
            · have q5 : ((comL lb la : Int) == (na : Int)) = false := by rw [beq_cast, ← o5'.out, hu]
              go_wp2_with fail
              refine (compare_lit hb5).mono ?_
              rintro e w6 ⟨rfl, hb6⟩
              go_wp2_with fail
              refine (nc_under hB.out hA.out hb6).mono ?_
              rw [hu]
              rintro e w7 ⟨rfl, hb7⟩
              go_wp2_with fail
              refine (nc_under hB.out hA.out hb7).mono ?_
              rw [hu]
              rintro e w8 ⟨rfl, hb8⟩
              go_wp2_with fail
              refine (nc_common hB.out hA.out hb8).mono ?_
              rintro e w9 ⟨rfl, hb9⟩
              go_wp2_with fail
              go_ret
              exact ⟨rfl, hb9⟩
            · have q5 : ((comL lb la : Int) == (na : Int)) = true := by rw [beq_cast, ← o5'.out, hu]
              go_wp2_with fail
              refine (compare_lit hb5).mono ?_
              rintro e w6 ⟨rfl, hb6⟩
              go_wp2_with fail
              refine (nc_under hB.out hA.out hb6).mono ?_
              rw [hu]
              rintro e w7 ⟨rfl, hb7⟩
              go_wp2_with fail
              refine (nc_under hB.out hA.out hb7).mono ?_
              rw [hu]
              rintro e w8 ⟨rfl, hb8⟩
              go_wp2_with fail
              refine (nc_common hB.out hA.out hb8).mono ?_
              rintro e w9 ⟨rfl, hb9⟩
              go_wp2_with fail
              go_ret
              exact ⟨rfl, hb9⟩
          · clear o4'
            have p3 : Z ≤ 0 := o3'.out (by omega) (by omega)
            have o7 := o6'.out (by omega) (by omega)
            cases hv : underL lc la
            · cases hu : underL lb la
              · have q5 : ((comL lb la : Int) == (na : Int)) = false := by rw [beq_cast, ← o5'.out, hu]
                go_wp2_with fail
                refine (compare_lit hb5).mono ?_
                rintro e w6 ⟨rfl, hb6⟩
                go_wp2_with fail
                refine (nc_under hB.out hA.out hb6).mono ?_
                rw [hu]
                rintro e w7 ⟨rfl, hb7⟩
                go_wp2_with fail
                refine (nc_under hB.out hA.out hb7).mono ?_
                rw [hu]
                rintro e w8 ⟨rfl, hb8⟩
                go_wp2_with fail
                refine (nc_common hB.out hA.out hb8).mono ?_
                rintro e w9 ⟨rfl, hb9⟩
                go_wp2_with fail
                refine (nc_under hC.out hA.out hb9).mono ?_
                rw [hv]
                rintro e w10 ⟨rfl, hb10⟩
                go_wp2_with fail
                go_ret
                exact ⟨rfl, hb10⟩
              · have q5 : ((comL lb la : Int) == (na : Int)) = true := by rw [beq_cast, ← o5'.out, hu]
                go_wp2_with fail
                refine (compare_lit hb5).mono ?_
                rintro e w6 ⟨rfl, hb6⟩
                go_wp2_with fail
                refine (nc_under hB.out hA.out hb6).mono ?_
                rw [hu]
                rintro e w7 ⟨rfl, hb7⟩
                go_wp2_with fail
                refine (nc_under hB.out hA.out hb7).mono ?_
                rw [hu]
                rintro e w8 ⟨rfl, hb8⟩
                go_wp2_with fail
                refine (nc_common hB.out hA.out hb8).mono ?_
                rintro e w9 ⟨rfl, hb9⟩
                go_wp2_with fail
                refine (nc_under hC.out hA.out hb9).mono ?_
                rw [hv]
                rintro e w10 ⟨rfl, hb10⟩
                go_wp2_with fail
                go_ret
                exact ⟨rfl, hb10⟩
            · have hu := o7 hv
              have q5 : ((comL lb la : Int) == (na : Int)) = true := by rw [beq_cast, ← o5'.out, hu]
              go_wp2_with fail
              refine (compare_lit hb5).mono ?_
              rintro e w6 ⟨rfl, hb6⟩
              go_wp2_with fail
              refine (nc_under hB.out hA.out hb6).mono ?_
              rw [hu]
              rintro e w7 ⟨rfl, hb7⟩
              go_wp2_with fail
              refine (nc_under hB.out hA.out hb7).mono ?_
              rw [hu]
              rintro e w8 ⟨rfl, hb8⟩
              go_wp2_with fail
              refine (nc_common hB.out hA.out hb8).mono ?_
              rintro e w9 ⟨rfl, hb9⟩
              go_wp2_with fail
              refine (nc_under hC.out hA.out hb9).mono ?_
              rw [hv]
              rintro e w10 ⟨rfl, hb10⟩
              go_wp2_with fail
              refine (nc_under hB.out hA.out hb10).mono ?_
              rw [hu]
              rintro e w11 ⟨rfl, hb11⟩
              go_wp2_with fail
              go_ret
              exact ⟨rfl, hb11⟩
      · have fc : fewL lc = false := by simpa using fc
        have h1 := Lib.hid h1
        have h2 := Lib.hid h2
        have h3 := Lib.hid h3
        go_enter Try.func6, Try.ntmps6
        go_wp2_with fail
        refine (few_any h1.out.rd h1.out.texts).mono ?_
        rw [fa]
        rintro e w0 ⟨rfl, rfl⟩
        go_wp2_with fail
        refine (few_any h2.out.rd h2.out.texts).mono ?_
        rw [fb]
        rintro e w0 ⟨rfl, rfl⟩
        go_wp2_with fail
        refine (few_any h3.out.rd h3.out.texts).mono ?_
        rw [fc]
        rintro e w0 ⟨rfl, rfl⟩
        go_wp2_with fail
        go_ret
        exact ⟨rfl, Below.refl _ _⟩
    · have fb : fewL lb = false := by simpa using fb
      have h1 := Lib.hid h1
      have h2 := Lib.hid h2
      have h3 := Lib.hid h3
      go_enter Try.func6, Try.ntmps6
      go_wp2_with fail
      refine (few_any h1.out.rd h1.out.texts).mono ?_
      rw [fa]
      rintro e w0 ⟨rfl, rfl⟩
      go_wp2_with fail
      refine (few_any h2.out.rd h2.out.texts).mono ?_
      rw [fb]
      rintro e w0 ⟨rfl, rfl⟩
      go_wp2_with fail
      go_ret
      exact ⟨rfl, Below.refl _ _⟩
  · have fa : fewL la = false := by simpa using fa
    have h1 := Lib.hid h1
    have h2 := Lib.hid h2
    have h3 := Lib.hid h3
    go_enter Try.func6, Try.ntmps6
    go_wp2_with fail
    refine (few_any h1.out.rd h1.out.texts).mono ?_
    rw [fa]
    rintro e w0 ⟨rfl, rfl⟩
    go_wp2_with fail
    go_ret
    exact ⟨rfl, Below.refl _ _⟩
theorem nameOrder_law {W : World} (a : Option Addr) (na ca : Nat) (la : Nm) (h1 : RT W a na ca la) (b : Option Addr) (nb cb : Nat) (lb : Nm) (h2 : RT W b nb cb lb) (c : Option Addr) (nc cc : Nat) (lc : Nm) (h3 : RT W c nc cc lc) (_ : World) :
    Calls Try.prog 6 #[.slice a na ca, .slice b nb cb, .slice c nc cc] W fun e w' => e = .returned (.bool true) ∧ Below W.heap.size W w' := nameOrder_walk h1 h2 h3
end Go.Proofs.Ytffdcfannnmjnaa
