/- ScanBack. -/
import Derived.Test.YtojdjhicjhhblaaJnG
namespace Go.Proofs.Ytojdjhicjhhblaa
open Go Go.ChangeShapes Go.WideShapes Go.RowKit Go.Deep
set_option maxHeartbeats 1600000 in
set_option maxRecDepth 100000 in
theorem sback_walk {w : World} {a : Option Addr} {n c : Nat} {L : List Ent} {s : List UInt8} (h : RdEn w a n c L) (hz : esum L ≤ 1048576) (hs : s.length ≤ 1048576) :
    Calls Try.prog 4 #[.slice a n c, .string (mk s)] w fun e w' => e = .returned (.bool true) ∧ Below w.heap.size w w' := by
  have hl := h.len
  have hsI : (s.length : Int) ≤ 1048576 := by omega
  have hnI : (n : Int) ≤ 1048576 := by have := tlen_esum L; omega
  have hH := Lib.hid h
  have hL1 := Lib.hid hl
  have hZ := Lib.hid hz
  clear h hl hz hs
  go_enter Try.func4, Try.ntmps4
  go_wp2_with fail
  refine (awake_any _).mono ?_
  rintro e w1 ⟨rfl, k1⟩
  have h1 := hH.out.ext k1
  replace k1 := Lib.hid k1
  go_wp2_with fail
  refine (small_any h1 hZ.out).mono ?_
  rintro e w2 ⟨bv, rfl, rfl, hsm⟩
  cases bv with
  | false =>
    clear hsm h1
    go_wp2_with fail
    go_ret
    exact ⟨rfl, k1.out⟩
  | true =>
    obtain ⟨h30, h2k, h66⟩ := hsm rfl
    have hF : Hid (Fits L) := Lib.hid (fits_of (n := 30) (m := 66) (t := 2000) (by have := hL1.out; omega) h66 h2k (by decide) (by decide) (by decide) (by decide))
    have hws : Hid (∀ e ∈ L, e.words.length ≤ 3000) := Lib.hid (fun e he => by have := h66 e he; omega)
    replace h1 := Lib.hid h1
    replace h30 := Lib.hid h30
    have h30I : (n : Int) ≤ 30 := by have := h30.out; omega
    clear hsm h2k h66 hnI
    by_cases h3 : 3000 < s.length
    · have h3I : (3000 : Int) < s.length := by omega
      clear h3
      go_wp2_with fail
      go_ret
      exact ⟨rfl, k1.out⟩
    have h3I : ¬ (3000 : Int) < s.length := by omega
    have h3' : Hid (s.length ≤ 3000) := Lib.hid (by omega)
    clear h3
    go_wp2_with fail
    refine (pjoin_any h1.out hF.out).mono ?_
    rintro e w3 ⟨rfl, k3⟩
    replace h1 := Lib.hid (h1.out.ext k3)
    replace k3 := Lib.hid (k1.out.trans (k3.mono k1.out.size))
    clear k1
    by_cases hj : (joinR L).2 = 0
    rotate_left
    · obtain ⟨J, hJ⟩ : ∃ J, joinR L = J := ⟨_, rfl⟩
      rw [hJ] at hj ⊢
      clear hJ
      obtain ⟨JT, JC⟩ := J
      have hjc : ¬ JC = 0 := hj
      clear hj
      clear hF hws h30 hH hZ hL1 h1
      go_wp2_with fail
      have hent := Lib.hid (entries_any w3 s (by have := h3'.out; omega))
      have htold := Lib.hid (pEnt_told s (by have := h3'.out; omega))
      have hsl5 : 5 * s.length ≤ 15000 := by have := h3'.out; omega
      have hsl6 := Lib.hid hsl5
      clear hsl5
      obtain ⟨R, hR⟩ : ∃ R, pEnt s = R := ⟨_, rfl⟩
      rw [hR] at hent htold
      clear hR
      refine hent.out.mono ?_
      rintro e w7 ⟨k7, oa7, on7, oc7, eds7, m7, rfl, ho7, hol7, hen7, hm7⟩
      have O7 : OwnL w7 w3.heap.size oa7 on7 oc7 R.1 := ⟨_, _, ho7, hol7, hen7, hm7⟩
      have kk7 := Lib.hid (k3.out.trans (k7.mono k3.out.size))
      clear ho7 hol7 hen7 hm7 hent k7
      obtain ⟨R1, f1, f2⟩ := R
      dsimp only at O7
      obtain ⟨W8, hW8⟩ : ∃ W, w7.alloc (.cells #[.int .i64 f1, .int .i64 f2] 36) = W := ⟨_, rfl⟩
      have k8 : Below w7.heap.size w7 W8 := by rw [← hW8]; exact alloc_bel _ _
      have B8 : Hid (Blk W8 w7.heap.size 36 (0, 0) [.int .i64 f1, .int .i64 f2]) := Lib.hid (by rw [← hW8]; exact Blk.new w7 36 (0, 0) #[.int .i64 f1, .int .i64 f2])
      replace O7 := Lib.hid (O7.ext k8)
      have kk8 := Lib.hid (kk7.out.trans (k8.mono kk7.out.size))
      clear k8 kk7
      go_upto_region 15 with (fail)
      clear hW8
      have d0 : W8.cell? ⟨w7.heap.size, 0, none⟩ = some (.int .i64 f1) := (B8.out.cell 0).trans rfl
      have d1 : W8.cell? ⟨w7.heap.size, 1, none⟩ = some (.int .i64 f2) := (B8.out.cell 1).trans rfl
      clear B8
      rcases htold.out with ⟨t1, t2, t3⟩ | ⟨t1, t2, t3, t4⟩
      rotate_left
      · clear htold
        dsimp only at t1 t2 t3 t4
        subst t1
        obtain rfl : on7 = 0 := by have := O7.out.len; simp at this; omega
        have hcall : ∀ m, Hid (Calls Try.prog 13 #[.string (mk s)] (W8.drewN m) fun e w'' => e = .returned (.int .i64 (linesOf s)) ∧ ∃ m', w'' = W8.drewN m') := fun m => Lib.hid (Calls.quiet_of_same (lines_q (W8.drewN m) s (by have := h3'.out; omega)))
        obtain ⟨LS, hLS⟩ : ∃ LS, linesOf s = LS := ⟨_, rfl⟩
        simp only [hLS] at hcall
        rw [hLS] at t4
        have b2 : Hid (∀ nq, Below w.heap.size w (W8.drewN nq)) := Lib.hid (fun nq => bel_drewN kk8.out nq)
        clear hLS O7
        rcases t2 with rfl | rfl
        · go_wp2_with fail
          go_quiet ((go_at_call 13; exact (hcall _).out))
          go_wp2_with fail
          go_ret
          exact ⟨rfl, b2.out _⟩
        · go_wp2_with fail
          go_quiet ((go_at_call 13; exact (hcall _).out))
          go_wp2_with fail
          go_ret
          exact ⟨rfl, b2.out _⟩
      dsimp only at t1 t2 t3
      obtain rfl : f1 = 0 := congrArg Prod.fst t1
      obtain rfl : f2 = 0 := congrArg Prod.snd t1
      have hFm : Hid (Fits R1) := Lib.hid (fits_read t2 (by have := hsl6.out; omega))
      have hjr := joinR_of t2
      obtain ⟨JM, hJM⟩ : ∃ JM, jtext R1 = JM := ⟨_, rfl⟩
      have hJl : JM.length ≤ 65536 := by rw [← hJM]; exact Nat.le_trans hFm.out.all (by decide)
      have hpe := jtext_read R1 t2 (by rw [hJM]; exact hJl)
      obtain ⟨zz, hzz⟩ : ∃ z : Int, z = 0 := ⟨_, rfl⟩
      have hpe : pEnt (jtext R1) = (relin 1 R1, (zz, zz)) := by rw [hpe, hzz]
      replace hzz := Lib.hid hzz
      rw [hJM] at hjr hpe
      have hlen7 : on7 ≤ 16000 := by have := O7.out.len; have := hFm.out.n; omega
      have hlen7I : (on7 : Int) ≤ 16000 := by omega
      have hJ2 := Lib.hid hJl
      have hP2 := Lib.hid hpe
      have hjr2 := Lib.hid hjr
      clear t1 t2 t3 htold hjr hpe hJM hJl hsl6 h3' h3I hsI
      go_wp2_with fail
      refine (pjoin_any O7.out.rd hFm.out).mono ?_
      rintro e w9 ⟨rfl, k9⟩
      rw [hjr2.out]
      clear hjr2
      replace O7 := Lib.hid (O7.out.ext k9)
      have kk9 := Lib.hid (kk8.out.trans (k9.mono kk8.out.size))
      clear k9 kk8 d0 d1
      go_wp2_with fail
      refine (entries_any w9 JM (by have := hJ2.out; omega)).mono ?_
      rw [hP2.out]
      rintro e w10 ⟨k10, oa10, on10, oc10, eds10, m10, rfl, ho10, hol10, hen10, hm10⟩
      have O10 : OwnL w10 w9.heap.size oa10 on10 oc10 (relin 1 R1) := ⟨_, _, ho10, hol10, hen10, hm10⟩
      clear ho10 hol10 hen10 hm10 hP2
      obtain rfl : on10 = on7 := by have h1 := O10.len; have h2 := O7.out.len; rw [relin_len] at h1; omega
      obtain ⟨W11, hW11⟩ : ∃ W, w10.alloc (.cells #[.int .i64 zz, .int .i64 zz] 36) = W := ⟨_, rfl⟩
      have k11 : Below w10.heap.size w10 W11 := by rw [← hW11]; exact alloc_bel _ _
      have B11 : Hid (Blk W11 w10.heap.size 36 (0, 0) [.int .i64 zz, .int .i64 zz]) := Lib.hid (by rw [← hW11]; exact Blk.new w10 36 (0, 0) #[.int .i64 zz, .int .i64 zz])
      replace O10 := Lib.hid (O10.ext k11)
      have kk11 : Hid (Below w9.heap.size w9 W11) := Lib.hid (k10.trans (k11.mono k10.size))
      clear k11 k10
      go_upto_region 21 with (fail)
      clear hW11
      obtain rfl := hzz.out
      clear hzz
      go_wp2_with fail
      go_loopw [18] (fun iv wr => ∃ i : Nat, iv = .int .i64 i ∧ i ≤ on10 ∧ Hid (OwnL wr w9.heap.size oa10 on10 oc10 (R1.take i ++ (relin 1 R1).drop i)) ∧ Hid (Below w9.heap.size w9 wr) ∧ Hid (Blk wr w10.heap.size 36 (0, 0) [.int .i64 0, .int .i64 0])) (fun iv _ => on10 - (intOf iv).toNat)
      case atStart => exact ⟨0, rfl, Nat.zero_le _, O10, kk11, B11⟩
      case round =>
        obtain ⟨i, rfl, hin, hO, hb, hB⟩ := hrel
        by_cases hlt : i < on10
        · have hltI : (i : Int) < on10 := by omega
          obtain ⟨en, hen, hmem⟩ := at_ex (L := R1) (k := i) (by have := O7.out.len; omega)
          obtain ⟨ab, ao, wa, wn, wc, rfl, -, a0, -, -, -⟩ := (O7.out.rd.ext hb.out).at_ hlt en hen
          obtain ⟨g, rfl, hg1, hg2, ⟨x0, c0⟩, fz0, ⟨CC, hCC⟩, hO2⟩ := hO.out.step (relin_like R1 1).symm hen
          obtain ⟨el, eb, ew⟩ := en
          dsimp only at a0 hO2
          have own9 := Lib.hid hO2
          have hgr : wr.grownBy (wr.setCell ⟨g, i * 3, none⟩ (.int .i64 el)) (some g) := grown_set _ _ _ _
          have bel9 : Hid (Below w9.heap.size w9 (wr.setCell ⟨g, i * 3, none⟩ (.int .i64 el))) := Lib.hid (hb.out.grown hgr hb.out.size (fun k hk => by cases hk; exact hg1))
          have B9 : Hid (Blk (wr.setCell ⟨g, i * 3, none⟩ (.int .i64 el)) w10.heap.size 36 (0, 0) [.int .i64 0, .int .i64 0]) := Lib.hid (blk_store hB.out hCC (by decide) hgr)
          clear hen hmem hO hb hB hO2 hgr hg1 hg2 hCC hlt
          go_wp2_with fail
          exact ⟨⟨i + 1, by push_cast; rfl, by omega, own9, bel9, B9⟩, by simp only [intOf]; omega⟩
        · obtain rfl : i = on10 := by omega
          have hlr : R1.length = i := O7.out.len
          have hO2 := hO.out
          rw [List.take_of_length_le (by omega), List.drop_eq_nil_of_le (by rw [relin_len]; omega), List.append_nil] at hO2
          have h7 := Lib.hid (O7.out.rd.ext hb.out)
          have hO3 := Lib.hid hO2.rd
          have kk12 := Lib.hid (kk9.out.trans (hb.out.mono kk9.out.size))
          have d0 : wr.cell? ⟨w10.heap.size, 0, none⟩ = some (.int .i64 0) := (hB.out.cell 0).trans rfl
          have d1 : wr.cell? ⟨w10.heap.size, 1, none⟩ = some (.int .i64 0) := (hB.out.cell 1).trans rfl
          clear hlt hO hO2 hb hB hlr
          go_wp2_with fail
          refine (same_any hO3.out h7.out).mono ?_
          rintro e w12 ⟨rfl, k12⟩
          have kk13 := Lib.hid (kk12.out.trans (k12.mono kk12.out.size))
          clear k12 kk12 h7 hO3
          rw [sameE_refl]
          go_wp2_with fail
          go_ret
          exact ⟨rfl, kk13.out⟩
    obtain ⟨hj1, hok⟩ := joinR_ok hj
    rw [hj1]
    obtain ⟨JT, hJT⟩ : ∃ JT, jtext L = JT := ⟨_, rfl⟩
    have hJl : JT.length ≤ 65536 := by rw [← hJT]; exact Nat.le_trans hF.out.all (by decide)
    have hpe := jtext_read L hok (by rw [hJT]; exact hJl)
    obtain ⟨zz, hzz⟩ : ∃ z : Int, z = 0 := ⟨_, rfl⟩
    have hpe : Hid (pEnt (jtext L) = (relin 1 L, (zz, zz))) := Lib.hid (by rw [hpe, hzz])
    replace hzz := Lib.hid hzz
    rw [hJT] at hpe ⊢
    have hJ2 := Lib.hid hJl
    clear hj hj1 hok hJT hJl hF
    go_wp2_with fail
    refine (entries_any w3 JT (by have := hJ2.out; omega)).mono ?_
    rw [hpe.out]
    rintro e w4 ⟨k4, oa, on, oc, eds, m, rfl, ho, hol, hen, hm⟩
    have O1 : OwnL w4 w3.heap.size oa on oc (relin 1 L) := ⟨_, _, ho, hol, hen, hm⟩
    clear ho hol hen hm hpe hJ2
    obtain ⟨W4, hW4⟩ : ∃ W, w4.alloc (.cells #[.int .i64 zz, .int .i64 zz] 36) = W := ⟨_, rfl⟩
    have kw : Below w4.heap.size w4 W4 := by rw [← hW4]; exact alloc_bel _ _
    have B4 : Hid (Blk W4 w4.heap.size 36 (0, 0) [.int .i64 zz, .int .i64 zz]) := Lib.hid (by rw [← hW4]; exact Blk.new w4 36 (0, 0) #[.int .i64 zz, .int .i64 zz])
    replace O1 := Lib.hid (O1.ext kw).rd
    replace h1 := Lib.hid (h1.out.ext (k4.trans (kw.mono k4.size)))
    have kk4 := Lib.hid (k3.out.trans ((k4.trans (kw.mono k4.size)).mono k3.out.size))
    clear k4 kw k3
    go_upto_region 7 with (fail)
    clear hW4
    obtain rfl := hzz.out
    clear hzz
    go_wp2_with fail
    refine (copy_any h1.out (by have := h30.out; omega) hws.out).mono ?_
    rintro e w5 ⟨k5, oa5, on5, oc5, rfl, O5⟩
    obtain rfl : on5 = n := by have h2 := O5.rd.len; have h3 := hL1.out; omega
    replace O5 := Lib.hid O5.toL
    replace k5 := Lib.hid k5
    go_wp2_with fail
    go_loopw [11] (fun iv wr => ∃ i : Nat, iv = .int .i64 i ∧ i ≤ on5 ∧ Hid (OwnL wr W4.heap.size oa5 on5 oc5 ((relin 1 L).take i ++ L.drop i)) ∧ Hid (Below W4.heap.size W4 wr)) (fun iv _ => on5 - (intOf iv).toNat)
    case atStart => exact ⟨0, rfl, Nat.zero_le _, O5, k5⟩
    case round =>
      obtain ⟨i, rfl, hin, hO, hb⟩ := hrel
      by_cases hlt : i < on5
      · have hltI : (i : Int) < on5 := by omega
        obtain ⟨en, hen, hmem⟩ := at_ex (L := relin 1 L) (k := i) (by rw [relin_len]; have := hL1.out; omega)
        have hline : en.line = (i : Int) + 1 := by
          rw [relin_get] at hen
          obtain ⟨q, hq, hq2⟩ := Option.map_eq_some_iff.1 hen
          rw [← hq2]; show 1 + (i : Int) = _; omega
        obtain ⟨g, rfl, hg1, hg2, ⟨x0, c0⟩, fz0, -, hO2⟩ := hO.out.step (relin_like L 1) hen
        rw [hline] at hO2
        have own9 := Lib.hid hO2
        have hgr : wr.grownBy (wr.setCell ⟨g, i * 3, none⟩ (.int .i64 ((i : Int) + 1))) (some g) := grown_set _ _ _ _
        have bel9 : Hid (Below W4.heap.size W4 (wr.setCell ⟨g, i * 3, none⟩ (.int .i64 ((i : Int) + 1)))) := Lib.hid (hb.out.grown hgr hb.out.size (fun k hk => by cases hk; exact hg1))
        clear hen hmem hO hb hO2 hgr hg1 hg2 hline hlt
        go_wp2_with fail
        exact ⟨⟨i + 1, by push_cast; rfl, by omega, own9, bel9⟩, by simp only [intOf]; omega⟩
      · obtain rfl : i = on5 := by omega
        have hlr : L.length = i := hL1.out
        have hO2 := hO.out
        rw [List.take_of_length_le (by rw [relin_len]; omega), List.drop_eq_nil_of_le (by omega), List.append_nil] at hO2
        have h7 := Lib.hid (O1.out.ext hb.out)
        have hO3 := Lib.hid hO2.rd
        have kk5 := Lib.hid (kk4.out.trans (hb.out.mono kk4.out.size))
        have hB := Lib.hid ((hb.out.block _ B4.out.lt).trans B4.out)
        have e0 : wr.cell? ⟨w4.heap.size, 0, none⟩ = some (.int .i64 0) := (Blk.cell (C := [.int .i64 0, .int .i64 0]) hB.out 0).trans rfl
        have e1 : wr.cell? ⟨w4.heap.size, 1, none⟩ = some (.int .i64 0) := (Blk.cell (C := [.int .i64 0, .int .i64 0]) hB.out 1).trans rfl
        clear hlt hO hO2 hb hB hlr B4 kk4 O1 h1 O5 k5
        go_wp2_with fail
        refine (same_any h7.out hO3.out).mono ?_
        rintro e w6 ⟨rfl, k6⟩
        have kk6 := Lib.hid (kk5.out.trans (k6.mono kk5.out.size))
        clear k6 kk5 h7 hO3 e0 e1
        rw [sameE_refl]
        go_wp2_with fail
        have hent := Lib.hid (entries_any w6 s (by have := h3'.out; omega))
        have htold := Lib.hid (pEnt_told s (by have := h3'.out; omega))
        have hsl5 : 5 * s.length ≤ 15000 := by have := h3'.out; omega
        have hsl6 := Lib.hid hsl5
        clear hsl5
        obtain ⟨R, hR⟩ : ∃ R, pEnt s = R := ⟨_, rfl⟩
        rw [hR] at hent htold
        clear hR
        refine hent.out.mono ?_
        rintro e w7 ⟨k7, oa7, on7, oc7, eds7, m7, rfl, ho7, hol7, hen7, hm7⟩
        have O7 : OwnL w7 w6.heap.size oa7 on7 oc7 R.1 := ⟨_, _, ho7, hol7, hen7, hm7⟩
        have kk7 := Lib.hid (kk6.out.trans (k7.mono kk6.out.size))
        clear ho7 hol7 hen7 hm7 hent k7
        obtain ⟨R1, f1, f2⟩ := R
        dsimp only at O7
        obtain ⟨W8, hW8⟩ : ∃ W, w7.alloc (.cells #[.int .i64 f1, .int .i64 f2] 36) = W := ⟨_, rfl⟩
        have k8 : Below w7.heap.size w7 W8 := by rw [← hW8]; exact alloc_bel _ _
        have B8 : Hid (Blk W8 w7.heap.size 36 (0, 0) [.int .i64 f1, .int .i64 f2]) := Lib.hid (by rw [← hW8]; exact Blk.new w7 36 (0, 0) #[.int .i64 f1, .int .i64 f2])
        replace O7 := Lib.hid (O7.ext k8)
        have kk8 := Lib.hid (kk7.out.trans (k8.mono kk7.out.size))
        clear k8 kk7
        go_upto_region 15 with (fail)
        clear hW8
        have d0 : W8.cell? ⟨w7.heap.size, 0, none⟩ = some (.int .i64 f1) := (B8.out.cell 0).trans rfl
        have d1 : W8.cell? ⟨w7.heap.size, 1, none⟩ = some (.int .i64 f2) := (B8.out.cell 1).trans rfl
        clear B8
        rcases htold.out with ⟨t1, t2, t3⟩ | ⟨t1, t2, t3, t4⟩
        rotate_left
        · clear htold
          dsimp only at t1 t2 t3 t4
          subst t1
          obtain rfl : on7 = 0 := by have := O7.out.len; simp at this; omega
          have hcall : ∀ m, Hid (Calls Try.prog 13 #[.string (mk s)] (W8.drewN m) fun e w'' => e = .returned (.int .i64 (linesOf s)) ∧ ∃ m', w'' = W8.drewN m') := fun m => Lib.hid (Calls.quiet_of_same (lines_q (W8.drewN m) s (by have := h3'.out; omega)))
          obtain ⟨LS, hLS⟩ : ∃ LS, linesOf s = LS := ⟨_, rfl⟩
          simp only [hLS] at hcall
          rw [hLS] at t4
          have b2 : Hid (∀ nq, Below w.heap.size w (W8.drewN nq)) := Lib.hid (fun nq => bel_drewN kk8.out nq)
          clear hLS O7
          rcases t2 with rfl | rfl
          · go_wp2_with fail
            go_quiet ((go_at_call 13; exact (hcall _).out))
            go_wp2_with fail
            go_ret
            exact ⟨rfl, b2.out _⟩
          · go_wp2_with fail
            go_quiet ((go_at_call 13; exact (hcall _).out))
            go_wp2_with fail
            go_ret
            exact ⟨rfl, b2.out _⟩
        dsimp only at t1 t2 t3
        obtain rfl : f1 = 0 := congrArg Prod.fst t1
        obtain rfl : f2 = 0 := congrArg Prod.snd t1
        have hFm : Hid (Fits R1) := Lib.hid (fits_read t2 (by have := hsl6.out; omega))
        have hjr := joinR_of t2
        obtain ⟨JM, hJM⟩ : ∃ JM, jtext R1 = JM := ⟨_, rfl⟩
        have hJl : JM.length ≤ 65536 := by rw [← hJM]; exact Nat.le_trans hFm.out.all (by decide)
        have hpe := jtext_read R1 t2 (by rw [hJM]; exact hJl)
        obtain ⟨zz, hzz⟩ : ∃ z : Int, z = 0 := ⟨_, rfl⟩
        have hpe : pEnt (jtext R1) = (relin 1 R1, (zz, zz)) := by rw [hpe, hzz]
        replace hzz := Lib.hid hzz
        rw [hJM] at hjr hpe
        have hlen7 : on7 ≤ 16000 := by have := O7.out.len; have := hFm.out.n; omega
        have hlen7I : (on7 : Int) ≤ 16000 := by omega
        have hJ2 := Lib.hid hJl
        have hP2 := Lib.hid hpe
        have hjr2 := Lib.hid hjr
        clear t1 t2 t3 htold hjr hpe hJM hJl hsl6 h3' h3I hsI
        go_wp2_with fail
        refine (pjoin_any O7.out.rd hFm.out).mono ?_
        rintro e w9 ⟨rfl, k9⟩
        rw [hjr2.out]
        clear hjr2
        replace O7 := Lib.hid (O7.out.ext k9)
        have kk9 := Lib.hid (kk8.out.trans (k9.mono kk8.out.size))
        clear k9 kk8 d0 d1
        go_wp2_with fail
        refine (entries_any w9 JM (by have := hJ2.out; omega)).mono ?_
        rw [hP2.out]
        rintro e w10 ⟨k10, oa10, on10, oc10, eds10, m10, rfl, ho10, hol10, hen10, hm10⟩
        have O10 : OwnL w10 w9.heap.size oa10 on10 oc10 (relin 1 R1) := ⟨_, _, ho10, hol10, hen10, hm10⟩
        clear ho10 hol10 hen10 hm10 hP2
        obtain rfl : on10 = on7 := by have h1 := O10.len; have h2 := O7.out.len; rw [relin_len] at h1; omega
        obtain ⟨W11, hW11⟩ : ∃ W, w10.alloc (.cells #[.int .i64 zz, .int .i64 zz] 36) = W := ⟨_, rfl⟩
        have k11 : Below w10.heap.size w10 W11 := by rw [← hW11]; exact alloc_bel _ _
        have B11 : Hid (Blk W11 w10.heap.size 36 (0, 0) [.int .i64 zz, .int .i64 zz]) := Lib.hid (by rw [← hW11]; exact Blk.new w10 36 (0, 0) #[.int .i64 zz, .int .i64 zz])
        replace O10 := Lib.hid (O10.ext k11)
        have kk11 : Hid (Below w9.heap.size w9 W11) := Lib.hid (k10.trans (k11.mono k10.size))
        clear k11 k10
        go_upto_region 21 with (fail)
        clear hW11
        obtain rfl := hzz.out
        clear hzz
        go_wp2_with fail
        go_loopw [18] (fun iv wr => ∃ i : Nat, iv = .int .i64 i ∧ i ≤ on10 ∧ Hid (OwnL wr w9.heap.size oa10 on10 oc10 (R1.take i ++ (relin 1 R1).drop i)) ∧ Hid (Below w9.heap.size w9 wr) ∧ Hid (Blk wr w10.heap.size 36 (0, 0) [.int .i64 0, .int .i64 0])) (fun iv _ => on10 - (intOf iv).toNat)
        case atStart => exact ⟨0, rfl, Nat.zero_le _, O10, kk11, B11⟩
        case round =>
          obtain ⟨i, rfl, hin, hO, hb, hB⟩ := hrel
          by_cases hlt : i < on10
          · have hltI : (i : Int) < on10 := by omega
            obtain ⟨en, hen, hmem⟩ := at_ex (L := R1) (k := i) (by have := O7.out.len; omega)
            obtain ⟨ab, ao, wa, wn, wc, rfl, -, a0, -, -, -⟩ := (O7.out.rd.ext hb.out).at_ hlt en hen
            obtain ⟨g, rfl, hg1, hg2, ⟨x0, c0⟩, fz0, ⟨CC, hCC⟩, hO2⟩ := hO.out.step (relin_like R1 1).symm hen
            obtain ⟨el, eb, ew⟩ := en
            dsimp only at a0 hO2
            have own9 := Lib.hid hO2
            have hgr : wr.grownBy (wr.setCell ⟨g, i * 3, none⟩ (.int .i64 el)) (some g) := grown_set _ _ _ _
            have bel9 : Hid (Below w9.heap.size w9 (wr.setCell ⟨g, i * 3, none⟩ (.int .i64 el))) := Lib.hid (hb.out.grown hgr hb.out.size (fun k hk => by cases hk; exact hg1))
            have B9 : Hid (Blk (wr.setCell ⟨g, i * 3, none⟩ (.int .i64 el)) w10.heap.size 36 (0, 0) [.int .i64 0, .int .i64 0]) := Lib.hid (blk_store hB.out hCC (by decide) hgr)
            clear hen hmem hO hb hB hO2 hgr hg1 hg2 hCC hlt
            go_wp2_with fail
            exact ⟨⟨i + 1, by push_cast; rfl, by omega, own9, bel9, B9⟩, by simp only [intOf]; omega⟩
          · obtain rfl : i = on10 := by omega
            have hlr : R1.length = i := O7.out.len
            have hO2 := hO.out
            rw [List.take_of_length_le (by omega), List.drop_eq_nil_of_le (by rw [relin_len]; omega), List.append_nil] at hO2
            have h7 := Lib.hid (O7.out.rd.ext hb.out)
            have hO3 := Lib.hid hO2.rd
            have kk12 := Lib.hid (kk9.out.trans (hb.out.mono kk9.out.size))
            have d0 : wr.cell? ⟨w10.heap.size, 0, none⟩ = some (.int .i64 0) := (hB.out.cell 0).trans rfl
            have d1 : wr.cell? ⟨w10.heap.size, 1, none⟩ = some (.int .i64 0) := (hB.out.cell 1).trans rfl
            clear hlt hO hO2 hb hB hlr
            go_wp2_with fail
            refine (same_any hO3.out h7.out).mono ?_
            rintro e w12 ⟨rfl, k12⟩
            have kk13 := Lib.hid (kk12.out.trans (k12.mono kk12.out.size))
            clear k12 kk12 h7 hO3
            rw [sameE_refl]
            go_wp2_with fail
            go_ret
            exact ⟨rfl, kk13.out⟩
section
variable {H : Type} {enc : TypeId × Value → H}
theorem open_entsB {w : World} {v : Value} {d : DataW H} {p : List MemPlace} {r : Reach} {b0 : Nat} (hv : Value.okWide Try.prog w r b0 22 v) (h : DataW.Trod enc Try.prog w 0 (fun _ => true) true 22 v d p) (hz : Sz Try.prog 22 d) :
    ∃ a n c L, v = .slice a n c ∧ RdEn w a n c L ∧ esum L + 1 ≤ Rows.uptoBulk d := by
  obtain ⟨a0, n0, c0, rfl⟩ := okWide_slice Try.underlying22 hv
  obtain ⟨fuel, hf⟩ := h
  exact in_ents (y := (d, p)) (by simpa only [Value.cells] using hf) hz
theorem scanBack_law {W : World} {r : Reach} {b0 : Nat} {ts : List TypeId} {ds : List (DataW H)} (v0 : Value) (d0 : DataW H) (p0 : List MemPlace) (h0 : DataW.Trod enc Try.prog W 0 (fun _ => true) true 22 v0 d0 p0) (hv0 : Value.okWide Try.prog W r b0 22 v0)
    (_ : (DataW.weightsEach Try.prog ts ds).all (· ≤ reachBytes) = true) {x : Nat} (hb : Rows.uptoBulk d0 + x ≤ 1048576) (z0 : Sz Try.prog 22 d0) (l : List UInt8) (zl : l.length ≤ 1048576) (_ : World) : Calls Try.prog 4 #[v0, .string (mk l)] W fun e w' => e = .returned (.bool true) ∧ Below W.heap.size W w' := by
  obtain ⟨a, n, c, L, rfl, hR, hs⟩ := open_entsB hv0 h0 z0
  exact sback_walk hR (by omega) zl
end
end Go.Proofs.Ytojdjhicjhhblaa
