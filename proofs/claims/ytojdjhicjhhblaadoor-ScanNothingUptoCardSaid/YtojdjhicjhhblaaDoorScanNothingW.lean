/- ScanNothing: the walk. -/
import Derived.Test.YtojdjhicjhhblaaDoorJnG
import Derived.Test.YtojdjhicjhhblaaDoorSpm
import Derived.Test.YtojdjhicjhhblaaDoorPlB
namespace Go.Proofs.YtojdjhicjhhblaaDoor
open Go Go.ChangeShapes Go.WideShapes Go.RowKit Go.Deep
theorem lt_of_cell0 {w : World} {v : Value} (h : w.cell? ⟨0, 0, none⟩ = some v) : 0 < w.heap.size := by
  rcases Nat.eq_zero_or_pos w.heap.size with h0 | h0
  · have : w.heap[0]? = none := Array.getElem?_eq_none (by omega)
    simp [World.cell?, this] at h
  · exact h0
set_option maxHeartbeats 1600000 in
set_option maxRecDepth 100000 in
theorem snothing_walk {w : World} {a : Option Addr} {n c : Nat} {L : List Ent} {s : List UInt8} {m : Int} (hm : w.cell? ⟨0, 0, none⟩ = some (.int .i64 m)) (h : RdEn w a n c L) (hz : esum L ≤ 1048576) (hs : s.length ≤ 1048576) :
    Calls Tryd.prog 3 #[.slice a n c, .string (mk s)] w fun e w' => e = .returned (.bool true) ∧ Below w.heap.size w w' := by
  have hl := h.len
  have hsI : (s.length : Int) ≤ 1048576 := by omega
  have hnI : (n : Int) ≤ 1048576 := by have := tlen_esum L; omega
  have hS := Lib.hid hs
  have hM := Lib.hid (And.intro hm (lt_of_cell0 hm))
  have hH := Lib.hid h
  have hL1 := Lib.hid hl
  have hZ := Lib.hid hz
  clear h hl hz hs hm
  go_enter Tryd.func3, Tryd.ntmps3
  go_wp2_with fail
  refine (awake_any _).mono ?_
  rintro e w1 ⟨rfl, k1⟩
  have h1 := hH.out.ext k1
  replace k1 := Lib.hid k1
  go_wp2_with fail
  refine (small_any h1 hZ.out).mono ?_
  rintro e w2 ⟨bv, rfl, rfl, hsm⟩
  cases bv with
  | false =>
    clear hsm h1
    go_wp2_with fail
    go_ret
    exact ⟨rfl, k1.out⟩
  | true =>
    obtain ⟨h30, h2k, h66⟩ := hsm rfl
    have hF : Hid (Fits L) := Lib.hid (fits_of (n := 30) (m := 66) (t := 2000) (by have := hL1.out; omega) h66 h2k (by decide) (by decide) (by decide) (by decide))
    have hN40 : Hid (s.length ≤ 300 → (ntext s L).length ≤ 40000) := Lib.hid (fun hr => ntext_fits (by have := hL1.out; omega) h66 h2k hr)
    replace h1 := Lib.hid h1
    have h30I : (n : Int) ≤ 30 := by omega
    replace h30 := Lib.hid h30
    clear hsm h2k h66 hnI
    go_wp2_with fail
    refine (plain_any _ s hS.out).mono ?_
    rintro e w3 ⟨bp, rfl, hpl, k3⟩
    replace h1 := Lib.hid (h1.out.ext k3)
    replace k3 := Lib.hid (k1.out.trans (k3.mono k1.out.size))
    clear k1
    cases bp with
    | false =>
      clear hpl
      go_wp2_with fail
      go_ret
      exact ⟨rfl, k3.out⟩
    | true =>
      obtain ⟨p300, p10⟩ := hpl rfl
      have hNl := Lib.hid (hN40.out p300)
      have hp10 := Lib.hid p10
      have hp300 := Lib.hid p300
      have hsI3 : (s.length : Int) ≤ 300 := by omega
      clear hpl p300 p10 hN40
      go_wp2_with fail
      refine (pjoin_any h1.out hF.out).mono ?_
      rintro e w4 ⟨rfl, k4⟩
      replace h1 := Lib.hid (h1.out.ext k4)
      replace k4 := Lib.hid (k3.out.trans (k4.mono k3.out.size))
      clear k3
      by_cases hj : (joinR L).2 = 0
      rotate_left
      · obtain ⟨J, hJ⟩ : ∃ J, joinR L = J := ⟨_, rfl⟩
        rw [hJ] at hj ⊢
        clear hJ
        obtain ⟨JT, JC⟩ := J
        have hjc : ¬ JC = 0 := hj
        clear hj hF hH hZ hL1 h1
        go_wp2_with fail
        go_ret
        exact ⟨rfl, k4.out⟩
      obtain ⟨hj1, hok⟩ := joinR_ok hj
      rw [hj1]
      have hJl : Hid ((jtext L).length ≤ 65536) := Lib.hid (Nat.le_trans hF.out.all (by decide))
      have hrd := ntext_read hp10.out L hok (by have := hNl.out; omega)
      have hM4 : Hid (w4.cell? ⟨0, 0, none⟩ = some (.int .i64 m)) := Lib.hid ((k4.out.cell (p := ⟨0, 0, none⟩) hM.out.2).trans hM.out.1)
      replace hok := Lib.hid hok
      obtain ⟨zz, hzz⟩ : ∃ z : Int, z = 0 := ⟨_, rfl⟩
      have hrd : Hid (pEnt (ntext s L) = (nlines 1 L, (zz, zz))) := Lib.hid (by rw [hrd, hzz])
      replace hzz := Lib.hid hzz
      clear hj hj1 hF hH hZ
      go_wp2_with fail
      refine (trim_any _ L hJl.out).mono ?_
      rintro e w5 ⟨rfl, hw5⟩
      rw [hw5]
      clear hw5
      go_wp2_with fail
      refine (split_any w4 L hM4.out hok.out hJl.out).mono ?_
      rintro e w6 ⟨nl, C, rfl, hLP, k6, hB⟩
      replace hB := Lib.hid hB
      replace h1 := Lib.hid (h1.out.ext k6)
      replace hLP := Lib.hid hLP
      have hnlI : (n : Int) ≤ nl := by have := hLP.out.ge; have := hL1.out; omega
      have hnlI2 : (nl : Int) ≤ 31 := by have := hLP.out.le; have := hL1.out; omega
      replace k6 := Lib.hid (k4.out.trans (k6.mono k4.out.size))
      clear k4 hM4 hM
      go_wp2_with fail
      go_loop [9, 10, 11] (fun x i _ => ∃ k : Nat, k ≤ n ∧ i = .int .i64 k ∧ x = .string (mk (ntext s (L.take k)))) (fun _ i _ => n - (intOf i).toNat)
      case atStart => exact ⟨0, Nat.zero_le _, rfl, rfl⟩
      case round =>
        obtain ⟨k, hk, rfl, rfl⟩ := hrel
        by_cases hlt : k < n
        · have hltI : (k : Int) < n := by omega
          have hklI : (k : Int) < nl := by omega
          obtain ⟨en, hen, hmem⟩ := at_ex (L := L) (k := k) (by have := hL1.out; omega)
          obtain ⟨b, o, wa, wn, wc, rfl, -, -, a1, -, -⟩ := h1.out.at_ hlt en hen
          have c1 : w6.cell? ⟨w4.heap.size, k, none⟩ = some (.string (mk (ltext en))) := (hB.out.cell k).trans (hLP.out.at_ k en hen)
          have hA : (ntext s (L.take k)).length ≤ 40000 := Nat.le_trans (ntext_take s L k) hNl.out
          have hE : (ltext en).length ≤ 65536 := Nat.le_trans (ltext_len hmem) hJl.out
          have hnext : Hid (ntext s (L.take (k + 1)) = ntext s (L.take k) ++ nz en s) := Lib.hid (by rw [at_take hen, ntext_app])
          obtain ⟨el, eb, ew⟩ := en
          dsimp only at a1
          obtain ⟨A, hAe⟩ : ∃ A, ntext s (L.take k) = A := ⟨_, rfl⟩
          rw [hAe] at hA hnext ⊢
          obtain ⟨E, hEe⟩ : ∃ E, ltext ⟨el, eb, ew⟩ = E := ⟨_, rfl⟩
          rw [hEe] at hE c1
          have hAI : (A.length : Int) ≤ 40000 := by omega
          have hEI : (E.length : Int) ≤ 65536 := by omega
          cases eb with
          | true =>
            have hN : Hid (mk A ++ (((((((mk [32] ++ ⟨#[40, 32]⟩) ++ mk E) ++ ⟨#[32, 59]⟩) ++ mk s) ++ ⟨#[10, 10, 32, 41, 32, 32, 59]⟩) ++ mk s) ++ ⟨#[10, 10]⟩) = mk (ntext s (L.take (k + 1)))) := Lib.hid (by rw [noisy_add, hnext.out]; unfold nz; rw [hEe]; rfl)
            clear hen hmem hA hE hnext hAe hEe hlt
            go_wp2_with fail
            go_round
            case rel => exact ⟨k + 1, by omega, by push_cast; rfl, by rw [← hN.out]; rfl⟩
            case measure => simp only [intOf]; omega
          | false =>
            have hN : Hid (mk A ++ (((((((mk [] ++ ⟨#[40, 32]⟩) ++ mk E) ++ ⟨#[32, 59]⟩) ++ mk s) ++ ⟨#[10, 10, 32, 41, 32, 32, 59]⟩) ++ mk s) ++ ⟨#[10, 10]⟩) = mk (ntext s (L.take (k + 1)))) := Lib.hid (by rw [noisy_add, hnext.out]; unfold nz; rw [hEe]; rfl)
            clear hen hmem hA hE hnext hAe hEe hlt
            go_wp2_with fail
            go_round
            case rel => exact ⟨k + 1, by omega, by push_cast; rfl, by rw [← hN.out]; rfl⟩
            case measure => simp only [intOf]; omega
        · obtain rfl : k = n := by omega
          have hTL : L.take k = L := List.take_of_length_le (by have := hL1.out; omega)
          rw [hTL]
          have hNI : ((ntext s L).length : Int) ≤ 9223372036854775807 := by have := hNl.out; omega
          obtain ⟨NT, hNT⟩ : ∃ NT, ntext s L = NT := ⟨_, rfl⟩
          rw [hNT] at hNI hrd ⊢
          have hNI2 := Lib.hid hNI
          clear hNT hTL hlt hNI hNl hnlI hnlI2 hLP hB hsI hsI3
          go_wp2_with fail
          refine (entries_any w6 NT hNI2.out).mono ?_
          rw [hrd.out]
          rintro e w7 ⟨k7, oa, on, oc, eds, m7, rfl, ho, hol, hen, hm7⟩
          have O1 : OwnL w7 w6.heap.size oa on oc (nlines 1 L) := ⟨_, _, ho, hol, hen, hm7⟩
          clear ho hol hen hm7 hrd hNI2
          obtain rfl : on = k := by have h1 := O1.len; rw [nlines_len] at h1; have h2 := hL1.out; omega
          obtain ⟨W8, hW8⟩ : ∃ W, w7.alloc (.cells #[.int .i64 zz, .int .i64 zz] 36) = W := ⟨_, rfl⟩
          have kw : Below w7.heap.size w7 W8 := by rw [← hW8]; exact alloc_bel _ _
          have B8 : Hid (Blk W8 w7.heap.size 36 (0, 0) [.int .i64 zz, .int .i64 zz]) := Lib.hid (by rw [← hW8]; exact Blk.new w7 36 (0, 0) #[.int .i64 zz, .int .i64 zz])
          replace O1 := Lib.hid (O1.ext kw).rd
          have kk : Below w6.heap.size w6 W8 := k7.trans (kw.mono k7.size)
          replace h1 := Lib.hid (h1.out.ext kk)
          have k8 := Lib.hid (k6.out.trans (kk.mono k6.out.size))
          clear k7 kw k6 kk
          go_upto_region 18 with (fail)
          clear hW8
          obtain rfl := hzz.out
          clear hzz
          have d0 : W8.cell? ⟨w7.heap.size, 0, none⟩ = some (.int .i64 0) := (B8.out.cell 0).trans rfl
          have d1 : W8.cell? ⟨w7.heap.size, 1, none⟩ = some (.int .i64 0) := (B8.out.cell 1).trans rfl
          clear B8
          go_wp2_with fail
          go_loopw [14] (fun i wr => ∃ j : Nat, j ≤ on ∧ i = .int .i64 j ∧ Hid (∃ q, wr = W8.drewN q)) (fun i _ => on - (intOf i).toNat)
          case atStart => exact ⟨0, Nat.zero_le _, rfl, Lib.hid ⟨0, rfl⟩⟩
          case round =>
            obtain ⟨j, hj, rfl, hq⟩ := hrel
            obtain ⟨q, hq0⟩ := hq.out
            by_cases hlt : j < on
            · have hltI : (j : Int) < on := by omega
              obtain ⟨en, hen, hmem⟩ := at_ex (L := L) (k := j) (by have := hL1.out; omega)
              obtain ⟨z, hz⟩ := nlines_get L 1 j en hen
              obtain ⟨b, o, xa, xn, xc, rfl, -, -, x1, x2, xw⟩ := (h1.out.drewN q).at_ hlt en hen
              obtain ⟨b', o', ya, yn, yc, rfl, -, -, y1, y2, yw⟩ := (O1.out.drewN q).at_ hlt _ hz
              rw [← hq0] at x1 x2 y1 y2 xw yw
              have hcall : ∀ m, Hid (Calls Tryd.prog 11 #[.slice ya yn yc, .slice xa xn xc] (wr.drewN m) fun e w'' => e = .returned (.bool true) ∧ ∃ m', w'' = wr.drewN m') := fun m => Lib.hid (by
                have h := Calls.quiet_of (words_any (yw.drewN m) (xw.drewN m))
                rw [beq_self_eq_true] at h
                exact h)
              have f2 := Lib.hid (fun nq => (⟨q + nq, by rw [hq0, drewN_drewN]⟩ : ∃ q, wr.drewN nq = W8.drewN q))
              obtain ⟨el, eb, ew⟩ := en
              dsimp only at x1 y1
              clear hen hmem hz hq0 xw yw hlt
              cases eb with
              | true =>
                go_wp2_with fail
                go_quiet ((go_at_call 11; exact (hcall _).out))
                go_wp2_with fail
                exact ⟨⟨j + 1, by omega, by push_cast; rfl, Lib.hid (f2.out _)⟩, by simp only [intOf]; omega⟩
              | false =>
                go_wp2_with fail
                go_quiet ((go_at_call 11; exact (hcall _).out))
                go_wp2_with fail
                exact ⟨⟨j + 1, by omega, by push_cast; rfl, Lib.hid (f2.out _)⟩, by simp only [intOf]; omega⟩
            · obtain rfl : j = on := by omega
              have k9 := Lib.hid (k8.out.trans ((bel_drewN (Below.refl W8.heap.size W8) q).mono k8.out.size))
              rw [← hq0] at k9
              clear hlt hq0
              go_wp2_with fail
              go_ret
              exact ⟨rfl, k9.out⟩
end Go.Proofs.YtojdjhicjhhblaaDoor
