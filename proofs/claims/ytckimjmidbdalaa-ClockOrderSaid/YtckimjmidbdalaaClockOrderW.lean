/- ClockOrder: the walk. -/
import Derived.Test.YtckimjmidbdalaaOrdLaw
namespace Go.Proofs.Ytckimjmidbdalaa
open Go.RowKit
def ordI (ms : List Int) (k : Nat) : List Tk := ordL (fun i => (i : Int)) ms k
set_option maxHeartbeats 8000000 in
set_option maxRecDepth 100000 in
theorem clockOrder_walk {W : World} {a : Option Addr} {n c : Nat} {l : List Int} (h : Rd intE W a n c l) :
    Calls Try.prog 5 #[.slice a n c] W fun e w' => e = .returned (.bool true) ∧ Below W.heap.size W w' := by
  have hl := h.len
  subst hl
  have hH := Lib.hid h; clear h
  by_cases h60 : l.length ≤ 60
  · go_enter Try.func5, Try.ntmps5
    go_wp2_with fail
    refine awake_any.mono ?_
    rintro e W1 ⟨rfl, hb0⟩
    have hb1 := Lib.hid hb0
    have hz0 := hb0.size
    clear hb0
    go_wp2_with fail
    refine clk_new.mono ?_
    rintro e W2 ⟨rfl, hC, hb⟩
    have hC2 := Lib.hid hC
    have hb2 := Lib.hid (hb1.out.trans (hb.mono hz0))
    clear hC hb
    go_wp2_with fail
    generalize hcc : W1.heap.size = cc at *
    clear hcc
    go_loopw [5, 6] (fun v i wr => ∃ k : Nat, k ≤ l.length ∧ i = .int .i64 k ∧ v = .int .i64 ((ordI l k).length : Nat) ∧ Below W.heap.size W wr ∧ ∃ o, Clk wr cc o 0 (ordI l k) k)
      (fun _ i _ => l.length - (intOf i).toNat)
    case atStart => exact ⟨0, Nat.zero_le _, rfl, rfl, hb2.out, none, hC2.out⟩
    case round =>
      obtain ⟨k, hk, rfl, rfl, hb, o, hC⟩ := hrel
      have hCC := Lib.hid hC
      clear hC hC2 hb2
      by_cases hlt : k < l.length
      · obtain ⟨b, of, rfl, hbl, hcs⟩ := rd_i64 hH.out (by omega)
        have hc := hcs k hlt
        have hc' := cell_below hb hc
        have hgd : l.getD k 0 = l[k] := getD_at l k 0 hlt
        have hox : ordI l (k + 1) = if okM (l.getD k 0) then ordI l k ++ [(l.getD k 0, (k : Int))] else ordI l k := rfl
        rw [hgd] at hox
        have hll : Hid ((ordI l k).length ≤ k) := Lib.hid (ordL_len _ _ _)
        generalize hx : l[k] = x at *
        clear hcs hx hgd hc
        by_cases hok : okM x = true
        · rw [if_pos hok] at hox
          unfold okM at hok
          simp only [Bool.and_eq_true, decide_eq_true_eq] at hok
          obtain ⟨x0, x1⟩ := hok
          have hoo := Lib.hid hox
          clear hox
          go_wp2_with fail
          refine (clk_add_yes hCC.out x k x0 x1 (by omega)).mono ?_
          rintro e w5 ⟨rfl, o', hC, hT, hN⟩
          have hb5 := hCC.out.below hT hb hz0
          have hc5 := cell_below hb5 (show W.cell? _ = _ from (World.cell?_of_block (hb.block _ hbl)).symm.trans hc')
          have hC5 := Lib.hid hC
          clear hC hT hN
          unfold mx at x1
          have hkl : (ordI l k).length ≤ 60 := by have := hll.out; omega
          generalize ordI l k = R at *
          go_wp2_with fail
          go_roundw
          case rel => exact ⟨k + 1, by omega, by go_num, by rw [hoo.out]; simp, hb5, o', by rw [hoo.out]; exact hC5.out⟩
          case measure => simp [intOf]; omega
        · rw [if_neg hok] at hox
          have hoo := Lib.hid hox
          clear hox
          have hno : x < 0 ∨ mx < x := by unfold okM at hok; simp at hok; omega
          go_wp2_with fail
          refine (clk_add_no hCC.out x k hno).mono ?_
          rintro e w5 ⟨rfl, rfl⟩
          unfold mx at hno
          generalize ordI l k = R at *
          by_cases hx0 : x < 0
          · clear hno
            go_wp2_with fail
            go_roundw
            case rel => exact ⟨k + 1, by omega, by go_num, by rw [hoo.out], hb, o, by rw [hoo.out]; exact hCC.out.mono (by omega)⟩
            case measure => simp [intOf]; omega
          · have hx1 : 1099511627776 < x := by omega
            clear hno
            go_wp2_with fail
            go_roundw
            case rel => exact ⟨k + 1, by omega, by go_num, by rw [hoo.out], hb, o, by rw [hoo.out]; exact hCC.out.mono (by omega)⟩
            case measure => simp [intOf]; omega
      · have hkk : k = l.length := by omega
        subst hkk
        have hI := Lib.hid (ordL_inv l l.length (Nat.le_refl _)).1
        have hln : (ordI l l.length).length ≤ 60 := Nat.le_trans (ordL_len _ _ _) h60
        generalize hR : ordI l l.length = R at *
        have hRR : Hid (ordL (fun i => (i : Int)) l l.length = R) := Lib.hid hR
        clear hR
        go_wp2_with (go_at_call 19; refine (clk_len hCC.out).mono ?_; rintro e w7 ⟨rfl, rfl⟩)
        clear hI
        have hI2 := Lib.hid (ordL_inv l l.length (Nat.le_refl _)).1
        rw [hRR.out] at hI2
        go_loopw [8, 9, 10] (fun va vk vs wq => ∃ (R' : List Tk) (la ke now : Int), va = .int .i64 la ∧ vk = .int .i64 ke ∧ vs = .int .i64 ((R.length : Int) - (R'.length : Nat)) ∧ R'.length ≤ R.length ∧ OrdInv l R' la ke ∧ Clk wq cc o now R' l.length ∧ Below W.heap.size W wq)
          (fun _ _ vs _ => R.length + 1 - (intOf vs).toNat)
        case atStart => exact ⟨R, -1, -1, 0, rfl, rfl, by simp, Nat.le_refl _, hI2.out, hCC.out, hb⟩
        case round =>
          clear hb hCC hI2
          obtain ⟨R', la, ke, now, rfl, rfl, rfl, hle, hI', hC, hb⟩ := hrel
          have hC5 := Lib.hid hC
          clear hC
          by_cases h0 : 0 < R'.length
          · obtain ⟨i, f1, f2, f3⟩ := hI'.step h0
            have hxm := getD_mem R' i (0, 0) f2
            obtain ⟨j, m1, m2, m3, m4, m5⟩ := hI'.mem _ hxm
            obtain ⟨hlo1, hlo2⟩ := hI'.lo _ hxm
            have hn := nxt_of f1
            have hpw := fun now h => popR_wait (now := now) f1 h
            have hpd := fun now h => popR_due (now := now) f1 h
            rw [getD_at l j 0 m2] at m3
            obtain ⟨b, of, rfl, hbl, hcs⟩ := rd_i64 hH.out (by omega)
            have hcj := hcs j m2
            rw [← m3] at hcj
            rw [m1] at hlo2 f3
            simp only [m1] at hpd
            generalize (R'.getD i (0, 0)).1 = at_ at *
            clear hxm m1 hcs m3 f1 hI'
            have hcW := Lib.hid hcj
            clear hcj
            go_wp2_with fail
            refine (clk_next hC5.out).mono ?_
            rintro e w6 ⟨rfl, rfl⟩
            rw [hn]
            clear hn
            by_cases hw : now < at_
            · go_wp2_with (go_at_call 21; refine (clk_now hC5.out).mono ?_; rintro e w6 ⟨rfl, rfl⟩)
              refine (clk_pop hC5.out (by omega)).mono ?_
              rintro e w6 ⟨rfl, hC, hT⟩
              have q := hpw now hw
              rw [q.1]
              rw [q.2] at hC
              clear q
              have hb6 := Lib.hid (hC5.out.below hT hb hz0)
              have hC6 := Lib.hid hC
              clear hC hT hb
              go_wp2_with fail
              refine (clk_go_yes hC6.out at_ (by omega) m5).mono ?_
              rintro e w7 ⟨rfl, hC, hT⟩
              have hb8 := Lib.hid (hC6.out.below hT hb6.out hz0)
              have hC8 := Lib.hid hC
              clear hC hT
              go_wp2_with fail
              refine (clk_pop hC8.out (by omega)).mono ?_
              rintro e w9 ⟨rfl, hC, hT⟩
              have q := hpd at_ (Int.le_refl _)
              rw [q.1]
              rw [q.2] at hC
              clear q
              have hb7 := Lib.hid (hC8.out.below hT hb8.out hz0)
              have hC7 := Lib.hid hC
              have hc9 := cell_below hb7.out hcW.out
              clear hC hT hpd hpw
              have hs1 : ((R.length : Int) - R'.length + 1) = (R.length : Int) - ((R'.eraseIdx i).length : Nat) := by rw [List.length_eraseIdx, if_pos f2]; omega
              have hs2 : R'.length ≤ R.length := hle
              have hs3 : 0 < R'.length := h0
              have hse := Lib.hid hs1
              clear hs1
              by_cases e : la = at_
              · subst e
                have hkj := hlo2 rfl
                go_wp2_with fail
                go_roundw
                case rel => exact ⟨R'.eraseIdx i, la, j, _, rfl, rfl, by rw [← hse.out], by have := hse.out; omega, f3, hC7.out, hb7.out⟩
                case measure => simp [intOf]; omega
              · have hne : (at_ == la) = false := beq_eq_false_iff_ne.2 (fun e2 => e e2.symm)
                go_wp2_with fail
                go_roundw
                case rel => exact ⟨R'.eraseIdx i, at_, j, _, rfl, rfl, by rw [← hse.out], by have := hse.out; omega, f3, hC7.out, hb7.out⟩
                case measure => simp [intOf]; omega
            · go_wp2_with (go_at_call 21; refine (clk_now hC5.out).mono ?_; rintro e w6 ⟨rfl, rfl⟩)
              refine (clk_pop hC5.out (by omega)).mono ?_
              rintro e w9 ⟨rfl, hC, hT⟩
              have q := hpd now (by omega)
              rw [q.1]
              rw [q.2] at hC
              clear q
              have hb7 := Lib.hid (hC5.out.below hT hb hz0)
              have hC7 := Lib.hid hC
              have hc9 := cell_below hb7.out hcW.out
              clear hC hT hpd hpw hb
              have hs1 : ((R.length : Int) - R'.length + 1) = (R.length : Int) - ((R'.eraseIdx i).length : Nat) := by rw [List.length_eraseIdx, if_pos f2]; omega
              have hs2 : R'.length ≤ R.length := hle
              have hs3 : 0 < R'.length := h0
              have hse := Lib.hid hs1
              clear hs1
              by_cases e : la = at_
              · subst e
                have hkj := hlo2 rfl
                go_wp2_with fail
                go_roundw
                case rel => exact ⟨R'.eraseIdx i, la, j, _, rfl, rfl, by rw [← hse.out], by have := hse.out; omega, f3, hC7.out, hb7.out⟩
                case measure => simp [intOf]; omega
              · have hne : (at_ == la) = false := beq_eq_false_iff_ne.2 (fun e2 => e e2.symm)
                go_wp2_with fail
                go_roundw
                case rel => exact ⟨R'.eraseIdx i, at_, j, _, rfl, rfl, by rw [← hse.out], by have := hse.out; omega, f3, hC7.out, hb7.out⟩
                case measure => simp [intOf]; omega
          · have hR0 : R' = [] := List.eq_nil_of_length_eq_zero (by omega)
            subst hR0
            go_wp2_with fail
            refine (clk_next hC5.out).mono ?_
            rintro e w6 ⟨rfl, rfl⟩
            rw [nxt_nil]
            go_wp2_with (go_at_call 19; refine (clk_len hC5.out).mono ?_; rintro e w7 ⟨rfl, rfl⟩)
            go_ret
            exact ⟨rfl, hb⟩
  · go_enter Try.func5, Try.ntmps5
    go_wp2_with fail
    refine awake_any.mono ?_
    rintro e W1 ⟨rfl, hb0⟩
    have hb1 := Lib.hid hb0
    clear hb0
    go_wp2_with fail
    go_ret
    exact ⟨rfl, hb1.out⟩
section
open Go.ChangeShapes Go.WideShapes
variable {H : Type} {enc : TypeId × Value → H}
theorem clockOrder_law {W : World} {ts : List TypeId} {ds : List (DataW H)} (v : Value) (d : DataW H) (p : List MemPlace) (h : DataW.Trod enc Try.prog W 0 (fun _ => true) true 34 v d p) {r : Reach} {b0 : Nat} (hv : Value.okWide Try.prog W r b0 34 v) (_ : (DataW.weightsEach Try.prog ts ds).all (· ≤ reachBytes) = true) (_ : World) :
    Calls Try.prog 5 #[v] W fun e w' => e = .returned (.bool true) ∧ Below W.heap.size W w' := by
  obtain ⟨a, n, c, l, rfl, hr⟩ := open_i64s hv h
  exact clockOrder_walk hr
end
end Go.Proofs.Ytckimjmidbdalaa
