/- ClockDrop: the walk. -/
import Derived.Test.YtckimjmidbdalaaOrdLaw
namespace Go.Proofs.Ytckimjmidbdalaa
open Go.RowKit
def k4 (i : Nat) : Int := ((i % 4 : Nat) : Int)
/-- those of other keys, alone -/
def aloneL (key : Int) (ms : List Int) : Nat → List Tk
  | 0 => []
  | k + 1 => if k4 k = key then aloneL key ms k else if okM (ms.getD k 0) then aloneL key ms k ++ [(ms.getD k 0, k4 k)] else aloneL key ms k
/-- how many have the key -/
def cntL (key : Int) (ms : List Int) : Nat → Nat
  | 0 => 0
  | k + 1 => if okM (ms.getD k 0) = true ∧ k4 k = key then cntL key ms k + 1 else cntL key ms k
theorem cntL_le (key : Int) (ms : List Int) : ∀ k, cntL key ms k ≤ k
  | 0 => Nat.le_refl _
  | k + 1 => by have := cntL_le key ms k; unfold cntL; split <;> omega
theorem drop_alone (key : Int) (ms : List Int) : ∀ k, (ordL k4 ms k).filter (fun t => decide (t.2 ≠ key)) = aloneL key ms k ∧ (ordL k4 ms k).length - (aloneL key ms k).length = cntL key ms k ∧ (aloneL key ms k).length ≤ (ordL k4 ms k).length
  | 0 => ⟨rfl, rfl, Nat.le_refl _⟩
  | k + 1 => by
    obtain ⟨h1, h2, h3⟩ := drop_alone key ms k
    unfold ordL aloneL cntL
    by_cases ho : okM (ms.getD k 0) = true
    · by_cases hk : k4 k = key
      · simp only [ho, hk, if_true, and_self, List.filter_append, h1]
        refine ⟨by simp, ?_, ?_⟩ <;> simp <;> omega
      · simp only [ho, hk, if_true, if_false, and_false, List.filter_append, h1]
        refine ⟨by simp [hk], ?_, ?_⟩ <;> simp <;> omega
    · by_cases hk : k4 k = key
      · simp only [ho, hk, if_true, if_false, false_and, Bool.false_eq_true]; exact ⟨h1, h2, h3⟩
      · simp only [ho, hk, if_false, false_and, Bool.false_eq_true]; exact ⟨h1, h2, h3⟩
theorem aloneL_len (key : Int) (ms : List Int) (k : Nat) : (aloneL key ms k).length ≤ k := Nat.le_trans (drop_alone key ms k).2.2 (ordL_len _ _ _)
theorem and3 (i : Nat) (h : i < 1000) : bits BinOp.and IntKind.i64 (i : Int) 3 = k4 i := by
  have k : ∀ n : Fin 1000, bits BinOp.and IntKind.i64 (n.val : Int) 3 = k4 n.val := by decide +kernel
  exact k ⟨i, h⟩
/-- of a clock and of another one: what the one's calls turn, the other's blocks are not -/
structure Two2 (w : World) (c c' : Nat) (o o' : Option Nat) : Prop where
  ne : c ≠ c'
  a : o' ≠ some c
  b : o ≠ some c'
  d : ∀ k, o = some k → o' ≠ some k
theorem Two2.left {w w' : World} {c c' : Nat} {o o' o1 : Option Nat} (h : Two2 w c c' o o') (hn : Newer w o o1) (h1 : c' < w.heap.size) (h2 : ∀ k, o' = some k → k < w.heap.size) : Two2 w' c c' o1 o' :=
  ⟨h.ne, h.a, fun e => by rcases hn _ e with e2 | e2
                          · exact h.b e2
                          · omega, fun k e e3 => by rcases hn _ e with e2 | e2
                                                    · exact h.d k e2 e3
                                                    · have := h2 k e3; omega⟩
theorem Two2.any {w w' : World} {c c' : Nat} {o o' : Option Nat} (h : Two2 w c c' o o') : Two2 w' c c' o o' := ⟨h.ne, h.a, h.b, h.d⟩
theorem Two2.swap {w : World} {c c' : Nat} {o o' : Option Nat} (h : Two2 w c c' o o') : Two2 w c' c o' o := ⟨h.ne.symm, h.b, h.a, fun k e e2 => h.d k e2 e⟩
theorem Clk.other {w w' : World} {c c' : Nat} {o o' : Option Nat} {now : Int} {L : List Tk} {m : Nat} (h : Clk w c' o' now L m) (t : Two2 w c c' o o') (hT : Tn w w' c o) : Clk w' c' o' now L m :=
  h.keep (hT.block c' h.lt t.ne.symm t.b) fun k hk => hT.block k (h.own k hk).2 (fun e => t.a (by rw [hk, e])) (fun e => t.d k e hk)
set_option maxHeartbeats 8000000 in
set_option maxRecDepth 100000 in
theorem clockDrop_walk {W : World} (key : Int) {a : Option Addr} {n c : Nat} {l : List Int} (h : Rd intE W a n c l) :
    Calls Try.prog 8 #[.slice a n c, .int .i64 key] W fun e w' => e = .returned (.bool true) ∧ Below W.heap.size W w' := by
  have hl := h.len
  subst hl
  have hH := Lib.hid h; clear h
  by_cases h60 : l.length ≤ 60
  · go_enter Try.func8, Try.ntmps8
    go_wp2_with fail
    refine awake_any.mono ?_
    rintro e W1 ⟨rfl, hb0⟩
    have hb1 := Lib.hid hb0
    have hz0 := hb0.size
    clear hb0
    go_wp2_with fail
    refine clk_new.mono ?_
    rintro e W2 ⟨rfl, hC, hb⟩
    have hC2 := Lib.hid hC
    have hb2 := Lib.hid (hb1.out.trans (hb.mono hz0))
    have hz1 := hC.lt
    clear hC hb
    go_wp2_with fail
    refine clk_new.mono ?_
    rintro e W3 ⟨rfl, hA, hb⟩
    have hA3 := Lib.hid hA
    have hC3 := Lib.hid (hC2.out.ext hb hz1 (fun j hj => by cases hj))
    have hz2 := hb2.out.size
    have hb3 := Lib.hid (hb2.out.trans (hb.mono hz2))
    have ht3 : Hid (Two2 W3 W1.heap.size W2.heap.size none none) := Lib.hid ⟨by omega, by simp, by simp, by simp⟩
    clear hA hb hC2 hb2
    go_wp2_with fail
    generalize hcc : W1.heap.size = cc at *
    generalize hca : W2.heap.size = ca at *
    clear hcc hca
    go_loopw [8, 9] (fun v i wr => ∃ k : Nat, k ≤ l.length ∧ i = .int .i64 k ∧ v = .int .i64 ((cntL key l k : Nat) : Int) ∧ Below W.heap.size W wr ∧ ∃ o o', Clk wr cc o 0 (ordL k4 l k) k ∧ Clk wr ca o' 0 (aloneL key l k) k ∧ Two2 wr cc ca o o')
      (fun _ i _ => l.length - (intOf i).toNat)
    case atStart => exact ⟨0, Nat.zero_le _, rfl, rfl, hb3.out, none, none, hC3.out, hA3.out, ht3.out⟩
    case round =>
      clear hC3 hA3 ht3 hb3
      obtain ⟨k, hk, rfl, rfl, hb, o, o', hC, hA, ht⟩ := hrel
      have hCC := Lib.hid hC
      have hAA := Lib.hid hA
      have htt := Lib.hid ht
      clear hC hA ht
      by_cases hlt : k < l.length
      · obtain ⟨b, of, rfl, hbl, hcs⟩ := rd_i64 hH.out (by omega)
        have hc := hcs k hlt
        have hc' := cell_below hb hc
        have hgd : l.getD k 0 = l[k] := getD_at l k 0 hlt
        have hox : ordL k4 l (k + 1) = if okM (l.getD k 0) then ordL k4 l k ++ [(l.getD k 0, k4 k)] else ordL k4 l k := rfl
        have hax : aloneL key l (k + 1) = if k4 k = key then aloneL key l k else if okM (l.getD k 0) then aloneL key l k ++ [(l.getD k 0, k4 k)] else aloneL key l k := rfl
        have hnx : cntL key l (k + 1) = if okM (l.getD k 0) = true ∧ k4 k = key then cntL key l k + 1 else cntL key l k := rfl
        have hnl : cntL key l k ≤ 60 := Nat.le_trans (cntL_le _ _ _) (by omega)
        rw [hgd] at hox hax hnx
        have had := and3 k (by omega)
        generalize hx : l[k] = x at *
        have hcW := Lib.hid hc
        clear hcs hx hgd hc
        generalize cntL key l k = N at *
        have hk1 : (k : Int) < 60 := by omega
        by_cases hok : okM x = true
        · simp only [hok, if_true, true_and] at hox hax hnx
          unfold okM at hok
          simp only [Bool.and_eq_true, decide_eq_true_eq] at hok
          obtain ⟨x0, x1⟩ := hok
          have hoo := Lib.hid hox
          clear hox
          go_wp2_with fail
          refine (clk_add_yes hCC.out x (k4 k) x0 x1 (by omega)).mono ?_
          rintro e w5 ⟨rfl, o1, hC, hT, hN⟩
          have hb5 := hCC.out.below hT hb hz0
          have hz5 := hb5.size
          have hc5 := cell_below hb5 hcW.out
          have hC5 := Lib.hid hC
          have hA5 := Lib.hid (hAA.out.other htt.out hT)
          have ht5 : Hid (Two2 w5 cc ca o1 o') := Lib.hid (htt.out.left hN hAA.out.lt (fun j hj => (hAA.out.own j hj).2))
          clear hC hT hN hCC hAA htt hb
          by_cases hkk : k4 k = key
          · have hkb : (k4 k == key) = true := by rw [hkk]; simp
            rw [if_pos hkk] at hax hnx
            have haa := Lib.hid hax
            have hnn := Lib.hid hnx
            clear hax hnx hkk
            generalize k4 k = kk at *
            go_wp2_with fail
            go_roundw
            case rel => exact ⟨k + 1, by omega, by go_num, by rw [hnn.out]; go_num, hb5, o1, o', by rw [hoo.out]; exact hC5.out, by rw [haa.out]; exact hA5.out.mono (by omega), ht5.out⟩
            case measure => simp [intOf]; omega
          · have hkb : (k4 k == key) = false := beq_eq_false_iff_ne.2 hkk
            rw [if_neg hkk] at hax hnx
            have haa := Lib.hid hax
            have hnn := Lib.hid hnx
            clear hax hnx hkk
            generalize k4 k = kk at *
            go_wp2_with fail
            refine (clk_add_yes hA5.out x kk x0 x1 (by omega)).mono ?_
            rintro e w6 ⟨rfl, o2, hA, hT, hN⟩
            have hb6 := hA5.out.below hT hb5 hz2
            have hA6 := Lib.hid hA
            have hC6 := Lib.hid (hC5.out.other ht5.out.swap hT)
            have ht6 : Hid (Two2 w6 cc ca o1 o2) := Lib.hid ((ht5.out.swap.left (w' := w6) hN hC5.out.lt (fun j hj => (hC5.out.own j hj).2)).swap)
            clear hA hT hN hC5 hA5 ht5
            go_wp2_with fail
            go_roundw
            case rel => exact ⟨k + 1, by omega, by go_num, by rw [hnn.out], hb6, o1, o2, by rw [hoo.out]; exact hC6.out, by rw [haa.out]; exact hA6.out, ht6.out⟩
            case measure => simp [intOf]; omega
        · rw [if_neg hok] at hox hax
          rw [if_neg (fun e => hok e.1)] at hnx
          simp only [ite_self] at hax
          have hoo := Lib.hid hox
          have haa := Lib.hid hax
          have hnn := Lib.hid hnx
          clear hox hax hnx
          have hno : x < 0 ∨ mx < x := by unfold okM at hok; simp at hok; omega
          go_wp2_with fail
          refine (clk_add_no hCC.out x (k4 k) hno).mono ?_
          rintro e w5 ⟨rfl, rfl⟩
          by_cases hkk : k4 k = key
          · have hkb : (k4 k == key) = true := by rw [hkk]; simp
            clear hkk
            generalize k4 k = kk at *
            go_wp2_with fail
            go_roundw
            case rel => exact ⟨k + 1, by omega, by go_num, by rw [hnn.out], hb, o, o', by rw [hoo.out]; exact hCC.out.mono (by omega), by rw [haa.out]; exact hAA.out.mono (by omega), htt.out⟩
            case measure => simp [intOf]; omega
          · have hkb : (k4 k == key) = false := beq_eq_false_iff_ne.2 hkk
            clear hkk
            generalize k4 k = kk at *
            go_wp2_with fail
            refine (clk_add_no hAA.out x kk hno).mono ?_
            rintro e w6 ⟨rfl, rfl⟩
            go_wp2_with fail
            go_roundw
            case rel => exact ⟨k + 1, by omega, by go_num, by rw [hnn.out], hb, o, o', by rw [hoo.out]; exact hCC.out.mono (by omega), by rw [haa.out]; exact hAA.out.mono (by omega), htt.out⟩
            case measure => simp [intOf]; omega
      · have hkk : k = l.length := by omega
        subst hkk
        obtain ⟨d1, d2, d3⟩ := drop_alone key l l.length
        have hdr := clk_drop hCC.out key (by omega)
        rw [d1, d2] at hdr
        have hdd := Lib.hid hdr
        clear hdr d1 d2 d3
        have hnl : cntL key l l.length ≤ 60 := Nat.le_trans (cntL_le _ _ _) (by omega)
        generalize aloneL key l l.length = R at *
        generalize cntL key l l.length = N at *
        go_wp2_with fail
        refine hdd.out.mono ?_
        rintro e w5 ⟨rfl, o1, hC, hT, hN⟩
        have hb5 := hCC.out.below hT hb hz0
        have hC5 := Lib.hid hC
        have hA5 := Lib.hid (hAA.out.other htt.out hT)
        have ht5 : Hid (Two2 w5 cc ca o1 o') := Lib.hid (htt.out.left hN hAA.out.lt (fun j hj => (hAA.out.own j hj).2))
        clear hC hT hN hCC hAA htt hb hdd
        go_wp2_with fail
        refine (clk_go_yes hC5.out 1099511627776 (by decide) (by decide)).mono ?_
        rintro e w6 ⟨rfl, hC, hT⟩
        have hb6 := hC5.out.below hT hb5 hz0
        have hC6 := Lib.hid hC
        have hA6 := Lib.hid (hA5.out.other ht5.out.any hT)
        clear hC hT hC5 hA5 hb5
        go_wp2_with fail
        refine (clk_go_yes hA6.out 1099511627776 (by decide) (by decide)).mono ?_
        rintro e w7 ⟨rfl, hA, hT⟩
        have hb7 := hA6.out.below hT hb6 hz2
        have hA7 := Lib.hid hA
        have hC7 := Lib.hid (hC6.out.other ht5.out.any.swap hT)
        clear hA hT hC6 hA6 hb6
        go_wp2_with fail
        go_loopw [10] (fun i wq => ∃ k : Nat, k ≤ l.length + 1 ∧ i = .int .i64 k ∧ Below W.heap.size W wq ∧ ∃ R, Clk wq cc o1 1099511627776 R l.length ∧ Clk wq ca o' 1099511627776 R l.length)
          (fun i _ => l.length + 1 - (intOf i).toNat)
        case atStart => exact ⟨0, Nat.zero_le _, rfl, hb7, R, hC7.out, hA7.out⟩
        case round =>
          clear hC7 hA7 hb7
          obtain ⟨k, hk, rfl, hb, R, hC, hA⟩ := hrel
          have hCC := Lib.hid hC
          have hAA := Lib.hid hA
          clear hC hA
          by_cases hlt : k ≤ l.length
          · go_wp2_with fail
            refine (clk_pop hCC.out (by omega)).mono ?_
            rintro e w8 ⟨rfl, hC, hT⟩
            have hb8 := hCC.out.below hT hb hz0
            have hC8 := Lib.hid hC
            have hA8 := Lib.hid (hAA.out.other ht5.out.any hT)
            clear hC hT hCC hAA hb
            generalize hp : popR 1099511627776 R = pr
            have hpp := Lib.hid hp
            clear hp
            obtain ⟨pa, pb⟩ := pr
            go_wp2_with fail
            refine (clk_pop hA8.out (by omega)).mono ?_
            rintro e w9 ⟨rfl, hA, hT⟩
            rw [hpp.out]
            have hb9 := hA8.out.below hT hb8 hz2
            have hA9 := Lib.hid hA
            have hC9 := Lib.hid (hC8.out.other ht5.out.any.swap hT)
            clear hA hT hC8 hA8 hb8
            go_wp2_with fail
            go_roundw
            case rel => exact ⟨k + 1, by omega, by go_num, hb9, _, hC9.out, hA9.out⟩
            case measure => simp [intOf]; omega
          · have hkk : k = l.length + 1 := by omega
            subst hkk
            go_wp2_with fail
            go_ret
            exact ⟨rfl, hb⟩
  · go_enter Try.func8, Try.ntmps8
    go_wp2_with fail
    refine awake_any.mono ?_
    rintro e W1 ⟨rfl, hb0⟩
    have hb1 := Lib.hid hb0
    clear hb0
    go_wp2_with fail
    go_ret
    exact ⟨rfl, hb1.out⟩
section
open Go.ChangeShapes Go.WideShapes
variable {H : Type} {enc : TypeId × Value → H}
theorem clockDrop_law {W : World} {ts : List TypeId} {ds : List (DataW H)} (v : Value) (d : DataW H) (p : List MemPlace) (h : DataW.Trod enc Try.prog W 0 (fun _ => true) true 34 v d p) {r : Reach} {b0 : Nat} (hv : Value.okWide Try.prog W r b0 34 v) (_ : (DataW.weightsEach Try.prog ts ds).all (· ≤ reachBytes) = true) (key : Int) (_ : (Lit.int .i64 key).wf = true) (_ : World) :
    Calls Try.prog 8 #[v, .int .i64 key] W fun e w' => e = .returned (.bool true) ∧ Below W.heap.size W w' := by
  obtain ⟨a, n, c, l, rfl, hr⟩ := open_i64s hv h
  exact clockDrop_walk key hr
end
end Go.Proofs.Ytckimjmidbdalaa
