/- ScanKnown. -/
import Derived.Test.YtojdjhicjhhblaaJnG
import Derived.Test.YtojdjhicjhhblaaShelf
namespace Go.Proofs.Ytojdjhicjhhblaa
open Go Go.RowKit
theorem kn0 : readsB [97, 32, 40, 98, 10, 99, 41, 32, 100] [⟨1, false, [([97], false), ([98], false), ([99], false), ([100], false)]⟩] = true := by decide +kernel
theorem kn1 : readsB [97, 32, 34, 98, 59, 99, 34, 32, 34, 34] [⟨1, false, [([97], false), ([98, 59, 99], true), ([], true)]⟩] = true := by decide +kernel
theorem kn2 : readsB [92, 59, 32, 97, 92, 59, 98] [⟨1, false, [([92, 59], false), ([97, 92, 59, 98], false)]⟩] = true := by decide +kernel
theorem kn3 : readsB [59, 120] [] = true := by decide +kernel
theorem kn4 : readsB [] [] = true := by decide +kernel
def badS : List (List UInt8) := [[97, 34, 98], [34, 97], [40, 97], [97, 41], [34, 97, 34, 98], [92], [34, 97, 10, 98, 34]]
theorem bad_read : ∀ s ∈ badS, pEnt s = ([], (230, 1)) ∧ s.length ≤ 3000 := by
  have h : badS.all (fun s => (pEnt s).1.isEmpty && (pEnt s).2 == (230, 1) && decide (s.length ≤ 3000)) = true := by decide +kernel
  intro s hs
  have h1 := List.all_eq_true.1 h s hs
  rw [Bool.and_eq_true, Bool.and_eq_true, decide_eq_true_eq, beq_iff_eq, List.isEmpty_iff] at h1
  exact ⟨Prod.ext h1.1.1 h1.1.2, h1.2⟩
theorem long_read : pEnt ([120, 10] ++ Lib.repeatL [97, 32] 65) = ([], (3, 2)) ∧ ([120, 10] ++ Lib.repeatL [97, 32] 65).length ≤ 3000 := by
  have h : ((fun s => (pEnt s).1.isEmpty && (pEnt s).2 == (3, 2) && decide (s.length ≤ 3000)) ([120, 10] ++ Lib.repeatL [97, 32] 65)) = true := by decide +kernel
  dsimp only at h
  rw [Bool.and_eq_true, Bool.and_eq_true, decide_eq_true_eq, beq_iff_eq, List.isEmpty_iff] at h
  exact ⟨Prod.ext h.1.1 h.1.2, h.2⟩
theorem ln1 : linesOf [97, 10] = 1 := by decide
theorem ln2 : linesOf [97, 10, 98] = 2 := by decide
theorem ln3 : linesOf [] = 0 := by decide
theorem jn0 : joinR [⟨0, false, []⟩] = ([], 230) := rfl
theorem blk_keep {w w' : World} {b : Nat} {t : TypeId} {C : List Value} (k : Below w.heap.size w w') (h : Hid (Blk w b t (0, 0) C)) : Hid (Blk w' b t (0, 0) C) := Lib.hid ((k.block _ h.out.lt).trans h.out)
theorem rdEn_nil (w : World) : RdEn w none 0 0 [] := ⟨[], Rd.nil _ _, rfl, fun j d e h => by simp at h⟩
theorem rep65 (w : World) {A : List UInt8} (hA : Lib.repeatL [97, 32] 65 = A) : Calls Try.prog 16 #[.string (mk [97, 32]), .int .i64 65] w fun e w' => e = .returned (.string (mk A)) ∧ Below w.heap.size w w' := by
  subst hA
  exact Try.strings_Repeat (mk [97, 32]) 65 w (by decide) (by decide)
theorem rep64k (w : World) {A : List UInt8} (hA : Lib.repeatL [97] 65537 = A) : Calls Try.prog 16 #[.string (mk [97]), .int .i64 65537] w fun e w' => e = .returned (.string (mk A)) ∧ Below w.heap.size w w' := by
  subst hA
  exact Try.strings_Repeat (mk [97]) 65537 w (by decide) (by decide)
theorem rep_len : ∀ (n : Nat), (Lib.repeatL ([97] : List UInt8) n).length = n := by
  intro n
  first
  | (rw [Lib.repeatL_length]; simp)
  | (rw [Lib.length_repeatL]; simp)
  | (induction n with
     | zero => rfl
     | succ n ih => simp only [Lib.repeatL] at *; simp_all)
theorem long2_read {A : List UInt8} (hA : Lib.repeatL [97] 65537 = A) : pEnt A = ([], (3, 0)) := by
  have h : A.length = 65537 := by rw [← hA]; exact rep_len _
  unfold pEnt; rw [if_pos (by omega)]
set_option maxHeartbeats 16000000 in
set_option maxRecDepth 100000 in
theorem sknown_walk (w : World) : Calls Try.prog 5 #[] w fun e w' => e = .returned (.bool true) ∧ Below w.heap.size w w' := by
  obtain ⟨A1, hA1⟩ : ∃ A, Lib.repeatL [97, 32] 65 = A := ⟨_, rfl⟩
  obtain ⟨A2, hA2⟩ : ∃ A, Lib.repeatL [97] 65537 = A := ⟨_, rfl⟩
  have hL1 := long_read
  rw [hA1] at hL1
  have hL1 := Lib.hid hL1
  have hL2 := Lib.hid (long2_read hA2)
  have hl2 : Hid (A2.length = 65537) := Lib.hid (by rw [← hA2]; exact rep_len _)
  have hA1 := Lib.hid hA1
  have hA2 := Lib.hid hA2
  have kk := Lib.hid (Below.refl w.heap.size w)
  go_enter Try.func5, Try.ntmps5
  go_wp2_with fail
  refine (t_lit w _ [[97], [98], [99], [100]] rfl (by decide) (by decide) (by decide)).mono ?_
  rintro e w1 ⟨k1, oa, oc, rfl, h1⟩
  replace kk := Lib.hid (kk.out.trans (k1.mono kk.out.size))
  replace h1 := Lib.hid h1
  clear k1
  go_wp2_with fail
  refine (rds_lit (eds := [⟨1, false, oa, 4, oc⟩]) (W := [⟨1, false, [([97], false), ([98], false), ([99], false), ([100], false)]⟩]) rfl rfl rfl (by
    intro j d e hd he
    match j with
    | 0 => simp at hd he; subst hd; subst he; exact ⟨rfl, rfl, h1.out⟩
    | j + 1 => simp at hd) kn0 (Nat.le_of_ble_eq_true rfl)).mono ?_
  rintro e w2 ⟨rfl, k1⟩
  replace kk := Lib.hid (kk.out.trans (k1.mono kk.out.size))
  clear k1 h1
  go_wp2_with fail
  refine (t_lit w2 _ [[97], [34, 98, 59, 99, 34], [34, 34]] rfl (by decide) (by decide) (by decide)).mono ?_
  rintro e w3 ⟨k1, oa, oc, rfl, h1⟩
  replace kk := Lib.hid (kk.out.trans (k1.mono kk.out.size))
  replace h1 := Lib.hid h1
  clear k1
  go_wp2_with fail
  refine (rds_lit (eds := [⟨1, false, oa, 3, oc⟩]) (W := [⟨1, false, [([97], false), ([98, 59, 99], true), ([], true)]⟩]) rfl rfl rfl (by
    intro j d e hd he
    match j with
    | 0 => simp at hd he; subst hd; subst he; exact ⟨rfl, rfl, h1.out⟩
    | j + 1 => simp at hd) kn1 (Nat.le_of_ble_eq_true rfl)).mono ?_
  rintro e w4 ⟨rfl, k1⟩
  replace kk := Lib.hid (kk.out.trans (k1.mono kk.out.size))
  clear k1 h1
  go_wp2_with fail
  refine (t_lit w4 _ [[92, 59], [97, 92, 59, 98]] rfl (by decide) (by decide) (by decide)).mono ?_
  rintro e w5 ⟨k1, oa, oc, rfl, h1⟩
  replace kk := Lib.hid (kk.out.trans (k1.mono kk.out.size))
  replace h1 := Lib.hid h1
  clear k1
  go_wp2_with fail
  refine (rds_lit (eds := [⟨1, false, oa, 2, oc⟩]) (W := [⟨1, false, [([92, 59], false), ([97, 92, 59, 98], false)]⟩]) rfl rfl rfl (by
    intro j d e hd he
    match j with
    | 0 => simp at hd he; subst hd; subst he; exact ⟨rfl, rfl, h1.out⟩
    | j + 1 => simp at hd) kn2 (Nat.le_of_ble_eq_true rfl)).mono ?_
  rintro e w6 ⟨rfl, k1⟩
  replace kk := Lib.hid (kk.out.trans (k1.mono kk.out.size))
  clear k1 h1
  go_wp2_with fail
  refine (reads_any (s := [59, 120]) (rdEn_nil w6) (by decide)).mono ?_
  rintro e w7 ⟨rfl, k1⟩
  rw [kn3]
  replace kk := Lib.hid (kk.out.trans (k1.mono kk.out.size))
  clear k1
  go_wp2_with fail
  refine (reads_any (s := []) (rdEn_nil w7) (by decide)).mono ?_
  rintro e w8 ⟨rfl, k1⟩
  rw [kn4]
  replace kk := Lib.hid (kk.out.trans (k1.mono kk.out.size))
  clear k1
  go_wp2_with fail
  go_loopw [40] (fun iv wr => ∃ i : Nat, iv = .int .i64 i ∧ i ≤ 7 ∧ Hid (Rd strE wr (some ⟨w8.heap.size, 0, none⟩) 7 7 badS) ∧ Hid (Below w.heap.size w wr)) (fun iv _ => 7 - (intOf iv).toNat)
  case atStart => exact ⟨0, rfl, Nat.zero_le _, Lib.hid (rd_litL strE w8 9 _ badS rfl (by decide)), Lib.hid (kk.out.trans ((alloc_bel _ _).mono kk.out.size))⟩
  case round =>
    obtain ⟨i, rfl, hin, hR, hb⟩ := hrel
    by_cases hlt : i < 7
    · have hltI : (i : Int) < 7 := by omega
      obtain ⟨s, hs, hsm⟩ := at_ex (L := badS) (k := i) (by show i < 7; omega)
      obtain ⟨hpe, hsl⟩ := bad_read s hsm
      have c0 : wr.cell? ⟨w8.heap.size, i, none⟩ = some (.string (mk s)) := by
        obtain ⟨b, o, e1, -, hc⟩ := hR.out.addr (by decide)
        have hil : i < badS.length := hlt
        have h1 := hc i hil 0 (by decide)
        rw [List.getElem?_eq_getElem hil] at hs
        rw [Option.some.inj hs] at h1
        simp only [Option.some.injEq, Addr.mk.injEq] at e1
        obtain ⟨rfl, rfl, _⟩ := e1
        simpa [strE] using h1
      have hent := Lib.hid (entries_any wr s (by omega))
      rw [hpe] at hent
      clear hs hsm hpe hlt hL1 hL2 hl2 hA1 hA2
      go_wp2_with fail
      refine hent.out.mono ?_
      rintro e w9 ⟨k9, oa, on, oc, eds, m, rfl, ho, hol, hen, hm⟩
      obtain ⟨W9, hW9⟩ : ∃ W, w9.alloc (.cells #[.int .i64 230, .int .i64 1] 36) = W := ⟨_, rfl⟩
      have kw : Below w9.heap.size w9 W9 := by rw [← hW9]; exact alloc_bel _ _
      have B9 : Hid (Blk W9 w9.heap.size 36 (0, 0) [.int .i64 230, .int .i64 1]) := Lib.hid (by rw [← hW9]; exact Blk.new w9 36 (0, 0) #[.int .i64 230, .int .i64 1])
      have kk9 := Lib.hid (k9.trans (kw.mono k9.size))
      replace hR := Lib.hid (hR.out.ext kk9.out)
      replace hb := Lib.hid (hb.out.trans (kk9.out.mono hb.out.size))
      clear ho hol hen hm hent kw k9 kk9 c0
      go_upto_region 6 with (fail)
      clear hW9
      have d0 : W9.cell? ⟨w9.heap.size, 0, none⟩ = some (.int .i64 230) := (B9.out.cell 0).trans rfl
      have d1 : W9.cell? ⟨w9.heap.size, 1, none⟩ = some (.int .i64 1) := (B9.out.cell 1).trans rfl
      clear B9
      go_wp2_with fail
      exact ⟨⟨i + 1, by push_cast; rfl, by omega, hR, hb⟩, by simp only [intOf]; omega⟩
    obtain rfl : i = 7 := by omega
    clear hlt hR kk
    have kk := hb
    clear hb
    go_wp2_with fail
    refine (rep65 wr hA1.out).mono ?_
    rintro e w20 ⟨rfl, k1⟩
    replace kk := Lib.hid (kk.out.trans (k1.mono kk.out.size))
    clear k1
    have hA1I : (A1.length : Int) ≤ 3000 := by have h := hL1.out.2; rw [List.length_append] at h; omega
    have hent := Lib.hid (entries_any w20 ([120, 10] ++ A1) (by have := hL1.out.2; omega))
    rw [hL1.out.1] at hent
    go_wp2_with fail
    refine hent.out.mono ?_
    rintro e w21 ⟨k9, oa, on, oc, eds, m, rfl, ho, hol, hen, hm⟩
    obtain ⟨W7, hW⟩ : ∃ W, w21.alloc (.cells #[.int .i64 3, .int .i64 2] 36) = W := ⟨_, rfl⟩
    have kw : Below w21.heap.size w21 W7 := by rw [← hW]; exact alloc_bel _ _
    have B7 : Hid (Blk W7 w21.heap.size 36 (0, 0) [.int .i64 3, .int .i64 2]) := Lib.hid (by rw [← hW]; exact Blk.new w21 36 (0, 0) #[.int .i64 3, .int .i64 2])
    have kk9 := Lib.hid (k9.trans (kw.mono k9.size))
    replace kk := Lib.hid (kk.out.trans (kk9.out.mono kk.out.size))
    clear ho hol hen hm hent kw k9
    go_upto_region 10 with (fail)
    clear hW
    go_wp2_with fail
    refine (rep64k W7 hA2.out).mono ?_
    rintro e w22 ⟨rfl, k1⟩
    replace kk := Lib.hid (kk.out.trans (k1.mono kk.out.size))
    replace B7 := blk_keep k1 B7
    clear k1
    have hent := Lib.hid (entries_any w22 A2 (by have := hl2.out; omega))
    obtain ⟨zz, hzz⟩ : ∃ z : Int, z = 0 := ⟨_, rfl⟩
    have hL3 : pEnt A2 = ([], (3, zz)) := by rw [hL2.out, hzz]
    replace hzz := Lib.hid hzz
    rw [hL3] at hent
    clear hL3
    go_wp2_with fail
    refine hent.out.mono ?_
    rintro e w23 ⟨k9, oa, on, oc, eds, m, rfl, ho, hol, hen, hm⟩
    obtain ⟨W9, hW⟩ : ∃ W, w23.alloc (.cells #[.int .i64 3, .int .i64 zz] 36) = W := ⟨_, rfl⟩
    have kw : Below w23.heap.size w23 W9 := by rw [← hW]; exact alloc_bel _ _
    have B9 : Hid (Blk W9 w23.heap.size 36 (0, 0) [.int .i64 3, .int .i64 zz]) := Lib.hid (by rw [← hW]; exact Blk.new w23 36 (0, 0) #[.int .i64 3, .int .i64 zz])
    have kk9 := Lib.hid (k9.trans (kw.mono k9.size))
    replace kk := Lib.hid (kk.out.trans (kk9.out.mono kk.out.size))
    replace B7 := blk_keep kk9.out B7
    clear ho hol hen hm hent kw k9
    go_upto_region 11 with (fail)
    clear hW
    obtain rfl := hzz.out
    clear hzz
    go_wp2_with fail
    refine (pjoin_any (L := [⟨0, false, []⟩]) ⟨[⟨0, false, none, 0, 0⟩], rd_litL enE W9 25 _ [⟨0, false, none, 0, 0⟩] rfl (by decide), rfl, fun j d e hd he => by
      match j with
      | 0 => simp at hd he; subst hd; subst he; exact ⟨rfl, rfl, Rd.nil _ _⟩
      | j + 1 => simp at hd⟩ ⟨by decide, by decide, by decide, by decide⟩).mono ?_
    rintro e w24 ⟨rfl, k1⟩
    rw [jn0]
    have k2 : Below W9.heap.size W9 w24 := (alloc_bel _ _).trans (k1.mono (alloc_bel _ _).size)
    replace kk := Lib.hid (kk.out.trans (k2.mono kk.out.size))
    replace B7 := blk_keep k2 B7
    replace B9 := blk_keep k2 B9
    clear k1 k2
    go_wp2_with fail
    refine (lines_any w24 [97, 10] (by decide)).mono ?_
    rintro e w25 ⟨rfl, k1⟩
    rw [ln1]
    replace kk := Lib.hid (kk.out.trans (k1.mono kk.out.size))
    replace B7 := blk_keep k1 B7
    replace B9 := blk_keep k1 B9
    clear k1
    go_wp2_with fail
    refine (lines_any w25 [97, 10, 98] (by decide)).mono ?_
    rintro e w26 ⟨rfl, k1⟩
    rw [ln2]
    replace kk := Lib.hid (kk.out.trans (k1.mono kk.out.size))
    replace B7 := blk_keep k1 B7
    replace B9 := blk_keep k1 B9
    clear k1
    go_wp2_with fail
    refine (lines_any w26 [] (by decide)).mono ?_
    rintro e w27 ⟨rfl, k1⟩
    rw [ln3]
    replace kk := Lib.hid (kk.out.trans (k1.mono kk.out.size))
    replace B7 := blk_keep k1 B7
    replace B9 := blk_keep k1 B9
    clear k1
    go_wp2_with fail
    refine (awake_any w27).mono ?_
    rintro e w30 ⟨rfl, k1⟩
    replace kk := Lib.hid (kk.out.trans (k1.mono kk.out.size))
    replace B7 := blk_keep k1 B7
    replace B9 := blk_keep k1 B9
    clear k1
    have d0 : w30.cell? ⟨w21.heap.size, 0, none⟩ = some (.int .i64 3) := (Blk.cell (C := [.int .i64 3, .int .i64 2]) B7.out 0).trans rfl
    have d1 : w30.cell? ⟨w21.heap.size, 1, none⟩ = some (.int .i64 2) := (Blk.cell (C := [.int .i64 3, .int .i64 2]) B7.out 1).trans rfl
    have d2 : w30.cell? ⟨w23.heap.size, 0, none⟩ = some (.int .i64 3) := (Blk.cell (C := [.int .i64 3, .int .i64 0]) B9.out 0).trans rfl
    have d3 : w30.cell? ⟨w23.heap.size, 1, none⟩ = some (.int .i64 0) := (Blk.cell (C := [.int .i64 3, .int .i64 0]) B9.out 1).trans rfl
    clear B7 B9
    go_wp2_with fail
    go_ret
    exact ⟨rfl, kk.out⟩
end Go.Proofs.Ytojdjhicjhhblaa
