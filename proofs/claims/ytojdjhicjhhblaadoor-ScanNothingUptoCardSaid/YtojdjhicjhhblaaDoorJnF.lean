/- What the statements share: awake 10, small 11. -/
import Derived.Test.YtojdjhicjhhblaaDoorJnE
namespace Go.Proofs.YtojdjhicjhhblaaDoor
open Go Go.RowKit
theorem rd_blkL {α : Type} {E : Enc α} {w : World} {k : Nat} {ty : TypeId} {C : List Value} {l : List α} (h : Blk w k ty (0, 0) C) (hC : C = rowOf E l) (hm : l.length ≤ maxLen) : Rd E w (some ⟨k, 0, none⟩) l.length l.length l :=
  ⟨rfl, Nat.le_refl _, hm, fun j hj i hi => ⟨k, 0, rfl, by rw [h.cell, hC, Nat.zero_add, rowOf_get E l j i hj hi]⟩⟩
theorem rd_litL {α : Type} (E : Enc α) (w : World) (ty : TypeId) (C : Array Value) (l : List α) (hC : C.toList = rowOf E l) (hm : l.length ≤ maxLen) : Rd E (w.alloc (.cells C ty)) (some ⟨w.heap.size, 0, none⟩) l.length l.length l :=
  rd_blkL (Blk.new w ty (0, 0) C) hC hm
theorem t_lit (w : World) (C : Array Value) (l : List (List UInt8)) {n : Nat} (hC : C.toList = rowOf strE l) (hn : l.length = n) (hm : n ≤ 3000) (hl : ∀ s ∈ l, s.length ≤ 3000) :
    Calls Tryd.prog 13 #[.slice (some ⟨w.heap.size, 0, none⟩) n n] (w.alloc (.cells C 9)) fun e w' => Below w.heap.size w w' ∧ ∃ oa oc, e = .returned (.slice oa n oc) ∧ Rd trE w' oa n oc (l.map termOf) := by
  subst hn
  refine (t_any (rd_litL strE w 9 C l hC (by simp only [maxLen]; omega)) hm hl).mono ?_
  rintro e w' ⟨k, oa, oc, rfl, ho⟩
  have k0 : Below w.heap.size w (w.alloc (.cells C 9)) := alloc_bel _ _
  refine ⟨k0.trans (k.mono k0.size), oa, oc, rfl, (own_rd_at ho).1⟩
theorem rds_lit {w : World} {s : List UInt8} {C : Array Value} {n : Nat} {eds : List ED} {W : List Ent} (hC : C.toList = rowOf enE eds) (hn : eds.length = n) (hw : eds.length = W.length)
    (h : ∀ (j : Nat) (d : ED) (e : Ent), eds[j]? = some d → W[j]? = some e → d.line = e.line ∧ d.blank = e.blank ∧ Rd trE w d.wa d.wn d.wc e.words) (hr : readsB s W = true) (hs : s.length + n ≤ 3000) :
    Calls Tryd.prog 12 #[.string (mk s), .slice (some ⟨w.heap.size, 0, none⟩) n n] (w.alloc (.cells C 34)) fun e w' => e = .returned (.bool true) ∧ Below w.heap.size w w' := by
  subst hn
  have k0 : Below w.heap.size w (w.alloc (.cells C 34)) := alloc_bel _ _
  refine (reads_any (s := s) (W := W) ⟨eds, rd_litL enE w 34 C eds hC (by simp only [maxLen]; omega), hw, fun j d e hd he => ⟨(h j d e hd he).1, (h j d e hd he).2.1, (h j d e hd he).2.2.ext k0⟩⟩ (by omega)).mono ?_
  rintro e w' ⟨rfl, k⟩
  exact ⟨by rw [hr], k0.trans (k.mono k0.size)⟩
theorem aw1 : readsB [97, 32, 98, 59, 32, 99] [⟨1, false, [([97], false), ([98], false)]⟩] = true := by decide +kernel
theorem aw2 : readsB [32, 120, 10, 121] [⟨1, true, [([120], false)]⟩, ⟨2, false, [([121], false)]⟩] = true := by decide +kernel
set_option maxHeartbeats 8000000 in
set_option maxRecDepth 100000 in
theorem awake_any (w : World) : Calls Tryd.prog 4 #[] w fun e w' => e = .returned (.bool true) ∧ Below w.heap.size w w' := by
  go_enter Tryd.func4, Tryd.ntmps4
  go_wp2_with fail
  refine (t_lit w _ [[97], [98]] rfl (by decide) (by decide) (by decide)).mono ?_
  rintro e w1 ⟨k1, oa, oc, rfl, h1⟩
  replace k1 := Lib.hid k1
  replace h1 := Lib.hid h1
  go_wp2_with fail
  refine (rds_lit (eds := [⟨1, false, oa, 2, oc⟩]) (W := [⟨1, false, [([97], false), ([98], false)]⟩]) rfl rfl rfl (by
    intro j d e hd he
    match j with
    | 0 => simp at hd he; subst hd; subst he; exact ⟨rfl, rfl, h1.out⟩
    | j + 1 => simp at hd) aw1 (Nat.le_of_ble_eq_true rfl)).mono ?_
  rintro e w2 ⟨rfl, k2⟩
  replace k2 := Lib.hid (k1.out.trans (k2.mono k1.out.size))
  clear h1 k1
  go_wp2_with fail
  refine (t_lit w2 _ [[120]] rfl (by decide) (by decide) (by decide)).mono ?_
  rintro e w3 ⟨k3, oa3, oc3, rfl, h3⟩
  replace h3 := Lib.hid h3
  replace k3 := Lib.hid (k2.out.trans (k3.mono k2.out.size))
  clear k2
  go_wp2_with fail
  refine (t_lit w3 _ [[121]] rfl (by decide) (by decide) (by decide)).mono ?_
  rintro e w4 ⟨k4, oa4, oc4, rfl, h4⟩
  replace h3 := Lib.hid (h3.out.ext k4)
  replace h4 := Lib.hid h4
  replace k4 := Lib.hid (k3.out.trans (k4.mono k3.out.size))
  clear k3
  go_wp2_with fail
  refine (rds_lit (eds := [⟨1, true, oa3, 1, oc3⟩, ⟨2, false, oa4, 1, oc4⟩]) (W := [⟨1, true, [([120], false)]⟩, ⟨2, false, [([121], false)]⟩]) rfl rfl rfl (by
    intro j d e hd he
    match j with
    | 0 => simp at hd he; subst hd; subst he; exact ⟨rfl, rfl, h3.out⟩
    | 1 => simp at hd he; subst hd; subst he; exact ⟨rfl, rfl, h4.out⟩
    | j + 2 => simp at hd) aw2 (Nat.le_of_ble_eq_true rfl)).mono ?_
  rintro e w5 ⟨rfl, k5⟩
  replace k5 := Lib.hid (k4.out.trans (k5.mono k4.out.size))
  clear h3 h4 k4
  go_wp2_with fail
  go_ret
  exact ⟨rfl, k5.out⟩
set_option maxHeartbeats 8000000 in
set_option maxRecDepth 100000 in
theorem small_any {w : World} {a : Option Addr} {n c : Nat} {L : List Ent} (h : RdEn w a n c L) (hz : esum L ≤ 1048576) :
    Calls Tryd.prog 5 #[.slice a n c] w fun e w' => ∃ bv, e = .returned (.bool bv) ∧ w' = w ∧ (bv = true → n ≤ 30 ∧ tlen L ≤ 2000 ∧ ∀ e ∈ L, e.words.length ≤ 66) := by
  have hl := h.len
  have hte := tlen_esum L
  have hnI : (n : Int) ≤ 1048576 := by omega
  have hH := Lib.hid h
  have hL1 := Lib.hid hl
  have hZ := Lib.hid hz
  have hT := Lib.hid hte
  clear h hl hz hte
  go_enter Tryd.func5, Tryd.ntmps5
  go_wp2_with fail
  go_loopw [3, 4] (fun nv iv wr => ∃ i : Nat, nv = .int .i64 (tlen (L.take i) : Nat) ∧ iv = .int .i64 i ∧ i ≤ n ∧ Hid (w = wr) ∧ Hid (∀ e ∈ L.take i, e.words.length ≤ 66)) (fun _ iv _ => n - (intOf iv).toNat)
  case atStart => exact ⟨0, rfl, rfl, Nat.zero_le _, Lib.hid rfl, Lib.hid (fun e he => by simp at he)⟩
  case round =>
    obtain ⟨i, rfl, rfl, hin, hw, hall⟩ := hrel
    have hw2 := hw.out
    subst hw2
    clear hw
    by_cases hlt : i < n
    · have hltI : (i : Int) < n := by omega
      obtain ⟨en, hen, hmem⟩ := at_ex (L := L) (k := i) (by have := hL1.out; omega)
      have hE := Lib.hid hen
      have hTk : Hid (tlen (L.take (i + 1)) = tlen (L.take i) + tw en.words) := Lib.hid (by rw [at_take hen, tlen_app]; simp [tlen])
      have hTb : tlen (L.take (i + 1)) ≤ 1048576 := by have h1 := tlen_take L (i + 1); have h2 := hT.out; have h3 := hZ.out; omega
      have hwb : en.words.length ≤ 1048576 := by have h1 := wsum_mem hmem; have h2 := tw_wsum en.words; have h3 := hZ.out; omega
      have hwlI : (en.words.length : Int) ≤ 1048576 := by omega
      have hall2 : Hid (en.words.length ≤ 66 → ∀ e ∈ L.take (i + 1), e.words.length ≤ 66) := Lib.hid (fun h e he => by
        rw [at_take hen, List.mem_append, List.mem_singleton] at he
        rcases he with he | rfl
        · exact hall.out e he
        · exact h)
      obtain ⟨ab, ao, wa, wn, wc, rfl, -, a0, a1, a2, hwd⟩ := hH.out.at_ hlt en hen
      have hwl := hwd.len
      obtain rfl : wn = en.words.length := hwl.symm
      have hw0 := Lib.hid hwd
      obtain ⟨T0, hT0⟩ : ∃ T0, tlen (L.take i) = T0 := ⟨_, rfl⟩
      rw [hT0] at hTk ⊢
      have hTb2 : T0 + tw en.words ≤ 1048576 := by rw [← hTk.out]; exact hTb
      clear hen hmem hwl hwd a0 a1 hT0 hTb hall
      go_wp2_with fail
      go_loopw [3, 5] (fun nv kv wr => ∃ k : Nat, nv = .int .i64 (T0 + tw (en.words.take k) : Nat) ∧ kv = .int .i64 k ∧ k ≤ en.words.length ∧ Hid (w = wr)) (fun _ kv _ => en.words.length - (intOf kv).toNat)
      case atStart => exact ⟨0, by simp [tw], rfl, Nat.zero_le _, Lib.hid rfl⟩
      case round =>
        obtain ⟨k, rfl, rfl, hkn, hw⟩ := hrel
        have hw2 := hw.out
        subst hw2
        clear hw
        by_cases hk : k < en.words.length
        · have hkI : (k : Int) < en.words.length := by omega
          obtain ⟨x, hx, hxm⟩ := at_ex hk
          obtain ⟨wb, wo, rfl, -, x0, x1⟩ := rd_tr hw0.out hk x hx
          have hS : Hid (tw (en.words.take (k + 1)) = tw (en.words.take k) + x.1.length) := Lib.hid (by rw [at_take hx, tw_app]; simp [tw])
          have hb1 : T0 + tw (en.words.take k) + x.1.length ≤ 1048576 := by have h1 := tw_take en.words (k + 1); rw [hS.out] at h1; omega
          obtain ⟨T1, hT1⟩ : ∃ T1, T0 + tw (en.words.take k) = T1 := ⟨_, rfl⟩
          have hS2 : Hid (T0 + tw (en.words.take (k + 1)) = T1 + x.1.length) := Lib.hid (by rw [hS.out, ← hT1]; omega)
          rw [hT1] at hb1 ⊢
          obtain ⟨xt, xq⟩ := x
          dsimp only at x0 x1 hb1 hS2
          have hbI : (T1 : Int) + xt.length ≤ 1048576 := by omega
          have hbJ : (T1 : Int) ≤ 1048576 := by omega
          clear hx hxm hS hT1
          go_wp2_with fail
          refine ⟨⟨k + 1, by rw [hS2.out]; push_cast; rfl, by push_cast; rfl, by omega, (by first | exact Lib.hid rfl | exact Lib.hid trivial)⟩, by simp only [intOf]; omega⟩
        · obtain rfl : k = en.words.length := by omega
          have hfin : Hid (T0 + tw (en.words.take en.words.length) = tlen (L.take (i + 1))) := Lib.hid (by rw [List.take_length, hTk.out])
          clear hk
          rw [hfin.out]
          by_cases h70 : 66 < en.words.length
          · have hI : (66 : Int) < en.words.length := by omega
            clear h70
            go_wp2_with fail
            go_ret
            first | exact ⟨false, rfl, rfl, fun h => by simp at h⟩ | exact Or.inl ⟨rfl, rfl⟩
          · have hI : ¬ (66 : Int) < en.words.length := by omega
            have hall3 := Lib.hid (hall2.out (by omega))
            clear h70 hall2
            go_wp2_with fail
            refine ⟨⟨i + 1, rfl, by push_cast; rfl, by omega, (by first | exact Lib.hid rfl | exact Lib.hid trivial), hall3⟩, by simp only [intOf]; omega⟩
    · obtain rfl : i = n := by omega
      have hall2 : Hid (∀ e ∈ L, e.words.length ≤ 66) := Lib.hid (by have h := hall.out; rw [List.take_of_length_le (by have := hL1.out; omega)] at h; exact h)
      have hTt : Hid (tlen (L.take i) = tlen L) := Lib.hid (by rw [List.take_of_length_le (by have := hL1.out; omega)])
      rw [hTt.out]
      clear hlt hall
      have hTb : (tlen L : Int) ≤ 1048576 := by have h2 := hT.out; have h3 := hZ.out; omega
      by_cases h40 : i ≤ 30
      · have hI : (i : Int) ≤ 30 := by omega
        have h40' := Lib.hid h40
        clear h40
        by_cases h3k : tlen L ≤ 2000
        · have hJ : (tlen L : Int) ≤ 2000 := by omega
          have h3k' := Lib.hid h3k
          clear h3k
          go_wp2_with fail
          go_ret
          first | exact ⟨true, rfl, rfl, fun _ => ⟨h40'.out, h3k'.out, hall2.out⟩⟩ | exact Or.inr ⟨rfl, rfl, h40'.out, h3k'.out, hall2.out⟩
        · have hJ : ¬ (tlen L : Int) ≤ 2000 := by omega
          clear h3k
          go_wp2_with fail
          go_ret
          first | exact ⟨false, rfl, rfl, fun h => by simp at h⟩ | exact Or.inl ⟨rfl, rfl⟩
      · have hI : ¬ (i : Int) ≤ 30 := by omega
        clear h40
        go_wp2_with fail
        go_ret
        first | exact ⟨false, rfl, rfl, fun h => by simp at h⟩ | exact Or.inl ⟨rfl, rfl⟩

end Go.Proofs.YtojdjhicjhhblaaDoor
