/- The program's Join 7. -/
import Derived.Test.YtojdjhicjhhblaaJnB
import Derived.Test.YtojdjhicjhhblaaBld
namespace Go.Proofs.Ytojdjhicjhhblaa
open Go Go.RowKit
/-- the builder at work -/
structure JS (w0 : World) (g B : Nat) (X : List UInt8) (w : World) : Prop where
  bld : Bld B w g X
  bel : Below w0.heap.size w0 w
  hB : B ≤ w.heap.size
  hg : g < B
  h0 : w0.heap.size ≤ g
theorem JS.ext {w0 w w' : World} {g B : Nat} {X : List UInt8} (h : JS w0 g B X w) (hb : Below w.heap.size w w') : JS w0 g B X w' :=
  ⟨h.bld.ext hb, h.bel.trans (hb.mono h.bel.size), Nat.le_trans h.hB hb.size, h.hg, h.h0⟩
theorem JS.put {w0 w w' : World} {g B : Nat} {X Y : List UInt8} (h : JS w0 g B X w) (hb : Bld B w' g Y) (he : Ex B g w w') : JS w0 g B Y w' :=
  ⟨hb, h.bel.trans (he.below (Nat.le_trans h.h0 (Nat.le_of_lt h.hg)) h.h0), Nat.le_trans h.hB he.size, h.hg, h.h0⟩
theorem ne_g {w : World} {g B ge : Nat} {X : List UInt8} {C : List Value} (hb : Bld B w g X) (he : Blk w ge 25 (0, 0) C) : ge ≠ g := by
  rintro rfl
  obtain ⟨p, v, _, hh, _⟩ := hb
  exact absurd (blk_type (fz := (0, 0)) (fz' := (0, 0)) (C := [p, v]) hh he) (by decide)
theorem wtext_put {ws : List Trm} {k : Nat} {x : Trm} (h : ws[k]? = some x) (hk : ¬ k = 0) : wtext (ws.take (k + 1)) = (wtext (ws.take k) ++ [32]) ++ shownL x := by
  have hne : (ws.take k).isEmpty = false := by
    have hkl : k < ws.length := by
      rcases Nat.lt_or_ge k ws.length with h2 | h2
      · exact h2
      · rw [List.getElem?_eq_none h2] at h; cases h
    rw [List.isEmpty_eq_false_iff]
    intro h
    have h1 := congrArg List.length h
    rw [List.length_take] at h1
    simp only [List.length_nil] at h1
    omega
  rw [at_take h, wtext_app, hne]
  simp
theorem wtext_put0 {ws : List Trm} {k : Nat} {x : Trm} (h : ws[k]? = some x) (hk : k = 0) : wtext (ws.take (k + 1)) = wtext (ws.take k) ++ shownL x := by
  subst hk
  rw [at_take h, wtext_app]
  simp [wtext]
theorem manyL_take {L : List Ent} {i : Nat} {e : Ent} (h : L[i]? = some e) : manyL (L.take (i + 1)) = (manyL (L.take i) || decide (64 < e.words.length)) := by
  rw [at_take h]; unfold manyL; rw [List.any_append]; simp
set_option maxHeartbeats 8000000 in
set_option maxRecDepth 100000 in
theorem pjoin_any {w : World} {a : Option Addr} {n c : Nat} {L : List Ent} (h : RdEn w a n c L) (hF : Fits L) :
    Calls Try.prog 7 #[.slice a n c] w fun e w' => e = .returned (.tuple #[.string (mk (joinR L).1), .int .i64 (joinR L).2]) ∧ Below w.heap.size w w' := by
  have hL := h.len
  have hn := hF.n
  have hnI : (n : Int) ≤ 16000 := by omega
  have hH := Lib.hid h
  have hF1 := Lib.hid hF
  have hL1 := Lib.hid hL
  obtain ⟨JR, hJ⟩ : ∃ JR, joinR L = JR := ⟨_, rfl⟩
  rw [hJ]
  have hJ1 := Lib.hid hJ
  clear h hF hL hn hJ
  obtain ⟨W0, hW0⟩ : ∃ W, w.alloc (.cells #[.pointer none, .slice none 0 0] 48) = W := ⟨_, rfl⟩
  have J0 : Hid (JS w w.heap.size W0.heap.size [] W0) := Lib.hid ⟨by rw [← hW0]; exact Bld.new _ w, by rw [← hW0]; exact alloc_bel _ _, Nat.le_refl _, by rw [← hW0, World.size_alloc]; omega, Nat.le_refl _⟩
  obtain ⟨g, hg⟩ : ∃ g, w.heap.size = g := ⟨_, rfl⟩
  rw [hg] at J0
  obtain ⟨B, hBB⟩ : ∃ B, W0.heap.size = B := ⟨_, rfl⟩
  rw [hBB] at J0
  clear hBB
  have hgH := Lib.hid hg
  clear hg
  go_enter Try.func7, Try.ntmps7
  go_upto_region 3 with (fail)
  rw [show w.heap.size = g from hgH.out]
  clear hW0
  go_wp2_with fail
  go_loopw [19] (fun iv wr => ∃ i : Nat, iv = .int .i64 i ∧ i ≤ n ∧ Hid (JS w g B [] wr)) (fun iv _ => n - (intOf iv).toNat)
  case atStart => exact ⟨0, rfl, Nat.zero_le _, J0⟩
  case round =>
    clear J0
    obtain ⟨i, rfl, hin, hJS⟩ := hrel
    by_cases hlt : i < n
    · have hltI : (i : Int) < n := by omega
      obtain ⟨en, hen, hmem⟩ := at_ex (L := L) (k := i) (by have := hL1.out; omega)
      have hE := Lib.hid hen
      have hM := Lib.hid hmem
      have hwlI : (en.words.length : Int) ≤ 16000 := by have := hF1.out.ws en hmem; omega
      obtain ⟨ab, ao, wa, wn, wc, rfl, -, a0, a1, a2, hwd⟩ := (hH.out.ext hJS.out.bel).at_ hlt en hen
      have hwl := hwd.len
      obtain rfl : wn = en.words.length := hwl.symm
      obtain ⟨We, hWe⟩ : ∃ W, wr.alloc (.cells #[.int .i64 en.line, .bool en.blank, .slice wa en.words.length wc] 25) = W := ⟨_, rfl⟩
      have kE : Below wr.heap.size wr We := by rw [← hWe]; exact alloc_bel _ _
      have JE := Lib.hid (hJS.out.ext kE)
      have hwdE := Lib.hid (hwd.ext kE)
      have bE : Hid (Blk We wr.heap.size 25 (0, 0) [.int .i64 en.line, .bool en.blank, .slice wa en.words.length wc]) := Lib.hid (by rw [← hWe]; exact Blk.new wr 25 (0, 0) #[.int .i64 en.line, .bool en.blank, .slice wa en.words.length wc])
      have e2 : We.cell? ⟨wr.heap.size, 2, none⟩ = some (.slice wa en.words.length wc) := (bE.out.cell 2).trans rfl
      clear hen hmem hwd hwl hJS kE
      go_upto_region 6 with (fail)
      clear hWe a0 a1 a2
      go_wp2_with fail
      clear e2
      obtain ⟨ge, hge⟩ : ∃ ge, wr.heap.size = ge := ⟨_, rfl⟩
      rw [hge] at bE ⊢
      clear hge
      go_loopw [26] (fun kv wr => ∃ k : Nat, kv = .int .i64 k ∧ k ≤ en.words.length ∧ Hid (JS w g B [] wr) ∧ Hid (Rd trE wr wa en.words.length wc en.words)) (fun kv _ => en.words.length - (intOf kv).toNat)
      case atStart => exact ⟨0, rfl, Nat.zero_le _, JE, hwdE⟩
      case round =>
        clear JE hwdE
        obtain ⟨k, rfl, hkn, hJ, hwd⟩ := hrel
        by_cases hk : k < en.words.length
        · have hkI : (k : Int) < en.words.length := by omega
          obtain ⟨x, hx, hxm⟩ := at_ex hk
          obtain ⟨wb, wo, rfl, -, x0, x1⟩ := rd_tr hwd.out hk x hx
          obtain ⟨xt, xq⟩ := x
          have hxl : xt.length ≤ 16000 := hF1.out.txt en hM.out _ hxm
          have hsl : (shownL (xt, xq)).length ≤ 16002 := by cases xq <;> simp [shownL] <;> omega
          have hslI : ¬ (65536 : Int) < (shownL (xt, xq)).length := by omega
          dsimp only at x0 x1
          obtain ⟨Wx, hWx⟩ : ∃ W, wr.alloc (.cells #[.string (mk xt), .bool xq] 27) = W := ⟨_, rfl⟩
          have kx : Below wr.heap.size wr Wx := by rw [← hWx]; exact alloc_bel _ _
          have Jx := Lib.hid (hJ.out.ext kx)
          have hwx := Lib.hid (hwd.out.ext kx)
          have bx : Hid (Blk Wx wr.heap.size 27 (0, 0) [.string (mk xt), .bool xq]) := Lib.hid (by rw [← hWx]; exact Blk.new wr 27 (0, 0) #[.string (mk xt), .bool xq])
          have y0 : Wx.cell? ⟨wr.heap.size, 0, none⟩ = some (.string (mk xt)) := (bx.out.cell 0).trans rfl
          have y1 : Wx.cell? ⟨wr.heap.size, 1, none⟩ = some (.bool xq) := (bx.out.cell 1).trans rfl
          clear hwd hJ hx hxm kx
          go_upto_region 9 with (fail)
          clear hWx x0 x1
          go_wp2_with fail
          refine (shown_any Wx xt xq (by omega)).mono ?_
          rintro e w3 ⟨rfl, k3⟩
          have J3 := Lib.hid (Jx.out.ext k3)
          have hw3 := Lib.hid (hwx.out.ext k3)
          clear k3 y0 y1 Jx hwx bx
          go_wp2_with fail
          exact ⟨⟨k + 1, by push_cast; rfl, by omega, J3, hw3⟩, by simp only [intOf]; omega⟩
        · obtain rfl : k = en.words.length := by omega
          clear hk hwd
          go_wp2_with fail
          exact ⟨⟨i + 1, by push_cast; rfl, by omega, hJ⟩, by simp only [intOf]; omega⟩
    · obtain rfl : i = n := by omega
      clear hlt
      go_wp2_with fail
      go_loopw [5, 38] (fun mv iv wr => ∃ (j : Nat) (X : List UInt8), iv = .int .i64 j ∧ mv = .bool (manyL (L.take j)) ∧ j ≤ i ∧ Hid (X = jtext (L.take j)) ∧ Hid (badL (L.drop j) = badL L) ∧ Hid (JS w g B X wr)) (fun _ iv _ => i - (intOf iv).toNat)
      case atStart => exact ⟨0, [], rfl, rfl, Nat.zero_le _, Lib.hid rfl, Lib.hid rfl, hJS⟩
      case round =>
        clear hJS
        obtain ⟨j, X, rfl, rfl, hjn, hX, hD, hJS⟩ := hrel
        by_cases hlt : j < i
        · have hltI : (j : Int) < i := by omega
          obtain ⟨en, hen, hmem⟩ := at_ex (L := L) (k := j) (by have := hL1.out; omega)
          have hE := Lib.hid hen
          have hM := Lib.hid hmem
          have hwlI : (en.words.length : Int) ≤ 16000 := by have := hF1.out.ws en hmem; omega
          have hD2 : Hid ((badE en || badL (L.drop (j + 1))) = badL L) := Lib.hid ((badL_at hen).symm.trans hD.out)
          obtain ⟨ab, ao, wa, wn, wc, rfl, -, a00, a01, a02, hwd⟩ := hH.out.at_ hlt en hen
          have hwl := hwd.len
          obtain rfl : wn = en.words.length := hwl.symm
          have a0 := cell_old a00 hJS.out.bel
          have a1 := cell_old a01 hJS.out.bel
          have a2 := cell_old a02 hJS.out.bel
          clear a00 a01 a02
          obtain ⟨We, hWe⟩ : ∃ W, wr.alloc (.cells #[.int .i64 en.line, .bool en.blank, .slice wa en.words.length wc] 25) = W := ⟨_, rfl⟩
          have kE : Below wr.heap.size wr We := by rw [← hWe]; exact alloc_bel _ _
          have JE := Lib.hid (hJS.out.ext kE)
          have hw0 := Lib.hid hwd
          have bE : Hid (Blk We wr.heap.size 25 (0, 0) [.int .i64 en.line, .bool en.blank, .slice wa en.words.length wc]) := Lib.hid (by rw [← hWe]; exact Blk.new wr 25 (0, 0) #[.int .i64 en.line, .bool en.blank, .slice wa en.words.length wc])
          have e1 : We.cell? ⟨wr.heap.size, 1, none⟩ = some (.bool en.blank) := (bE.out.cell 1).trans rfl
          have e2 : We.cell? ⟨wr.heap.size, 2, none⟩ = some (.slice wa en.words.length wc) := (bE.out.cell 2).trans rfl
          clear hen hmem hwd hwl hJS kE hD
          by_cases hz : en.words.length = 0
          · have hJ2 : Hid (JR = ([], 230)) := Lib.hid (by
              have h := hD2.out
              have : badE en = true := by unfold badE; rw [List.isEmpty_iff.2 (List.eq_nil_of_length_eq_zero hz)]; rfl
              rw [this, Bool.true_or] at h
              rw [← hJ1.out]; unfold joinR; rw [← h]; rfl)
            have hzI : ((en.words.length : Int) == 0) = true := by rw [beq_iff_eq]; omega
            clear hz hD2
            go_wp2_with fail
            go_ret2
            exact ⟨by rw [hJ2.out]; rfl, JE.out.bel⟩
          have hzI : ((en.words.length : Int) == 0) = false := by rw [beq_eq_false_iff_ne]; omega
          have hz1 : Hid (en.words.isEmpty = false) := Lib.hid (by cases hq : en.words with | nil => rw [hq] at hz; exact absurd rfl hz | cons => rfl)
          have hD3 : Hid ((en.words.any (fun w => !okw w) || badL (L.drop (j + 1))) = badL L) := Lib.hid (by have h := hD2.out; unfold badE at h; rw [hz1.out, Bool.false_or] at h; exact h)
          have hT : Hid (jtext (L.take (j + 1)) = X ++ etext en) := Lib.hid (by rw [at_take hE.out, jtext_app, hX.out])
          have hTl : Hid ((jtext (L.take (j + 1))).length ≤ 40000) := Lib.hid (Nat.le_trans (jtext_take_le L (j + 1)) hF1.out.all)
          have hMa := Lib.hid (manyL_take hE.out)
          clear hz hD2 hX
          obtain ⟨mt, hmt⟩ : ∃ mt, manyL (L.take j) = mt := ⟨_, rfl⟩
          rw [hmt] at hMa ⊢
          clear hmt
          have hXl : X.length ≤ 40000 := by have h := hTl.out; rw [hT.out, List.length_append] at h; omega
          go_upto_region 16 with (fail)
          clear hWe a0 a1 a2
          obtain ⟨ge, hge⟩ : ∃ ge, wr.heap.size = ge := ⟨_, rfl⟩
          rw [hge] at bE e1 e2 ⊢
          clear hge
          cases hbl : en.blank with
          | false =>
            rw [hbl] at e1 bE
            have hT2 : Hid (jtext (L.take (j + 1)) = (X ++ wtext en.words) ++ [10]) := Lib.hid (by rw [hT.out]; unfold etext ltext; rw [hbl]; simp)
            clear hbl hT
            go_wp2_with fail
            have JW := JE
            have bW := bE
            clear e1 e2
            go_loopw [52] (fun kv wr => ∃ (k : Nat) (Y : List UInt8), kv = .int .i64 k ∧ k ≤ en.words.length ∧ Hid (Y = X ++ wtext (en.words.take k)) ∧ Hid (((en.words.drop k).any (fun w => !okw w) || badL (L.drop (j + 1))) = badL L) ∧ Hid (JS w g B Y wr) ∧ Hid (Blk wr ge 25 (0, 0) [.int .i64 en.line, .bool false, .slice wa en.words.length wc])) (fun kv _ => en.words.length - (intOf kv).toNat)
            case atStart => exact ⟨0, X, rfl, Nat.zero_le _, Lib.hid (by simp [wtext]), Lib.hid (by rw [List.drop_zero]; exact hD3.out), JW, bW⟩
            case round =>
              clear JW bW
              obtain ⟨k, Y, rfl, hkn, hY, hD, hJ, hb⟩ := hrel
              by_cases hk : k < en.words.length
              · have hkI : (k : Int) < en.words.length := by omega
                obtain ⟨x, hx, hxm⟩ := at_ex hk
                obtain ⟨wb, wo, rfl, -, x0, x1⟩ := rd_tr (hw0.out.ext hJ.out.bel) hk x hx
                obtain ⟨xt, xq⟩ := x
                have hxl : xt.length ≤ 16000 := hF1.out.txt en hM.out _ hxm
                have hsl : (shownL (xt, xq)).length ≤ 16002 := by cases xq <;> simp [shownL] <;> omega
                have hD4 : Hid ((!okw (xt, xq) || ((en.words.drop (k + 1)).any (fun w => !okw w) || badL (L.drop (j + 1)))) = badL L) := Lib.hid (by have h := hD.out; rw [at_drop hx, List.any_cons, Bool.or_assoc] at h; exact h)
                have hgood : Hid (okw (xt, xq) = true → pEnt (shownL (xt, xq)) = ([⟨1, false, [(xt, xq)]⟩], (0, 0))) := Lib.hid (fun h => alone_ok h (by omega))
                have hbad : Hid (okw (xt, xq) = false → ∀ l b, ¬ pEnt (shownL (xt, xq)) = ([⟨l, b, [(xt, xq)]⟩], (0, 0))) := Lib.hid (fun h l b => alone_bad h (by omega) l b)
                have htold : Hid ((pEnt (shownL (xt, xq))).2.1 = 0 → (pEnt (shownL (xt, xq))).2 = (0, 0)) := Lib.hid (fun h => by
                  rcases pEnt_told (shownL (xt, xq)) (by omega) with ⟨h2, _⟩ | ⟨_, h2, _⟩
                  · exact h2
                  · omega)
                have hYl : Y.length + 1 + (shownL (xt, xq)).length ≤ 70000 := by
                  have h := hTl.out
                  have h2 := wtext_take_le en.words k
                  rw [hT2.out] at h
                  rw [hY.out]
                  simp only [List.length_append, List.length_singleton] at h ⊢
                  omega
                have hx2 := Lib.hid hx
                dsimp only at x0 x1
                obtain ⟨Wx, hWx⟩ : ∃ W, wr.alloc (.cells #[.string (mk xt), .bool xq] 27) = W := ⟨_, rfl⟩
                have kx : Below wr.heap.size wr Wx := by rw [← hWx]; exact alloc_bel _ _
                have Jx := Lib.hid (hJ.out.ext kx)
                have ex := Lib.hid (hb.out.below kx hb.out.lt)
                have bx : Hid (Blk Wx wr.heap.size 27 (0, 0) [.string (mk xt), .bool xq]) := Lib.hid (by rw [← hWx]; exact Blk.new wr 27 (0, 0) #[.string (mk xt), .bool xq])
                have y0 : Wx.cell? ⟨wr.heap.size, 0, none⟩ = some (.string (mk xt)) := (bx.out.cell 0).trans rfl
                have y1 : Wx.cell? ⟨wr.heap.size, 1, none⟩ = some (.bool xq) := (bx.out.cell 1).trans rfl
                clear hJ hb hx hxm kx hD
                go_upto_region 23 with (fail)
                clear hWx x0 x1
                obtain ⟨gx, hgx⟩ : ∃ gx, wr.heap.size = gx := ⟨_, rfl⟩
                rw [hgx] at bx y0 y1 ⊢
                clear hgx
                go_wp2_with fail
                refine (shown_any Wx xt xq (by omega)).mono ?_
                rintro e V2 ⟨rfl, k2⟩
                have J2 := Lib.hid (Jx.out.ext k2)
                have e2' := Lib.hid (ex.out.below k2 ex.out.lt)
                have b2 := Lib.hid (bx.out.below k2 bx.out.lt)
                clear k2 y0 y1 Jx ex bx
                obtain ⟨S, hS⟩ : ∃ S, shownL (xt, xq) = S := ⟨_, rfl⟩
                rw [hS] at hgood hbad htold hsl hYl ⊢
                have hS1 := Lib.hid hS
                clear hS
                go_wp2_with fail
                refine (entries_any V2 S (by omega)).mono ?_
                rintro e V3 ⟨k3, oa, on, oc, eds, m, rfl, ho, hol, hen, hm⟩
                have hrd := ents_rd ho hen
                have J3 := Lib.hid (J2.out.ext k3)
                have e3 := Lib.hid (e2'.out.below k3 e2'.out.lt)
                have b3 := Lib.hid (b2.out.below k3 b2.out.lt)
                obtain ⟨R, hR⟩ : ∃ R, pEnt S = R := ⟨_, rfl⟩
                rw [hR] at hgood hbad htold hrd ⊢
                clear k3 J2 e2' b2 ho hol hen hm hR
                obtain ⟨W4, hW4⟩ : ∃ W, V3.alloc (.cells #[.int .i64 R.2.1, .int .i64 R.2.2] 36) = W := ⟨_, rfl⟩
                have k4 : Below V3.heap.size V3 W4 := by rw [← hW4]; exact alloc_bel _ _
                have B4 : Hid (Blk W4 V3.heap.size 36 (0, 0) [.int .i64 R.2.1, .int .i64 R.2.2]) := Lib.hid (by rw [← hW4]; exact Blk.new V3 36 (0, 0) #[.int .i64 R.2.1, .int .i64 R.2.2])
                have J4 := Lib.hid (J3.out.ext k4)
                have e4 := Lib.hid (e3.out.below k4 e3.out.lt)
                have b4 := Lib.hid (b3.out.below k4 b3.out.lt)
                have hrd4 := Lib.hid (hrd.ext k4)
                clear hrd k4 J3 e3 b3
                obtain ⟨R1, f1, f2⟩ := R
                go_upto_region 25 with (fail)
                clear hW4
                have d0 : W4.cell? ⟨V3.heap.size, 0, none⟩ = some (.int .i64 f1) := (B4.out.cell 0).trans rfl
                have d1 : W4.cell? ⟨V3.heap.size, 1, none⟩ = some (.int .i64 f2) := (B4.out.cell 1).trans rfl
                have q0 : W4.cell? ⟨gx, 0, none⟩ = some (.string (mk xt)) := (b4.out.cell 0).trans rfl
                have q1 : W4.cell? ⟨gx, 1, none⟩ = some (.bool xq) := (b4.out.cell 1).trans rfl
                have hlen := hrd4.out.len
                have fin : ∀ W n, W = W4.drewN n → Below w.heap.size w W := fun W n h => by rw [h]; exact bel_drewN J4.out.bel n
                have hJbad : Hid (okw (xt, xq) = false → JR = ([], 230)) := Lib.hid (fun h => by
                  have h2 := hD4.out
                  rw [h, Bool.not_false, Bool.true_or] at h2
                  rw [← hJ1.out]; unfold joinR; rw [← h2]; rfl)
                obtain ⟨ok, hok⟩ : ∃ ok, okw (xt, xq) = ok := ⟨_, rfl⟩
                rw [hok] at hgood hbad hJbad hD4
                clear hok
                by_cases hf : f1 = 0
                rotate_left
                · have e0 : (f1 == 0) = false := by rw [beq_eq_false_iff_ne]; exact hf
                  have e1 : (f1 != 0) = true := by rw [bne_iff_ne]; exact hf
                  have hkk : ok = false := by
                    cases ok with
                    | false => rfl
                    | true => exact absurd (congrArg (fun z => z.2.1) (hgood.out rfl)) hf
                  subst hkk
                  clear hf hlen hgood hbad htold B4 b4
                  have hJ2 := Lib.hid (hJbad.out rfl)
                  clear hJbad hD4
                  go_quiet (fail)
                  go_wp2_with fail
                  go_ret2
                  exact ⟨by rw [hJ2.out]; rfl, fin _ _ rfl⟩
                have hff := htold.out hf
                obtain rfl : f2 = 0 := congrArg Prod.snd hff
                subst hf
                clear hff htold
                by_cases hon : on = 1
                rotate_left
                · have e1 : ((on : Int) == 1) = false := by rw [beq_eq_false_iff_ne]; omega
                  have e1' : ((on : Int) != 1) = true := by rw [bne_iff_ne]; omega
                  have hkk : ok = false := by
                    cases ok with
                    | false => rfl
                    | true => have h3 := congrArg (fun z => z.1.length) (hgood.out rfl); simp at h3; omega
                  subst hkk
                  clear hon hlen hgood hbad B4 b4
                  have hJ2 := Lib.hid (hJbad.out rfl)
                  clear hJbad hD4
                  go_quiet (fail)
                  go_wp2_with fail
                  go_ret2
                  exact ⟨by rw [hJ2.out]; rfl, fin _ _ rfl⟩
                subst hon
                obtain ⟨en2, rfl⟩ : ∃ en2, R1 = [en2] := List.length_eq_one_iff.1 hlen
                obtain ⟨ab2, ao2, wa2, wn2, wc2, rfl, -, a0, a1, a2, hwd⟩ := hrd4.out.at_ (k := 0) (by omega) en2 rfl
                simp only [Nat.zero_mul, Nat.add_zero] at a0 a1 a2
                have hwl := hwd.len
                replace hwd := Lib.hid hwd
                clear hrd4 hlen
                obtain ⟨el, eb, ws⟩ := en2
                dsimp only at a0 a1 hwd hwl
                cases eb with
                | true =>
                  have hkk : ok = false := by
                    cases ok with
                    | false => rfl
                    | true => have h3 := congrArg (fun z => (z.1.map fun e => e.blank)) (hgood.out rfl); simp at h3
                  subst hkk
                  clear hwl hgood hbad B4 b4
                  have hJ2 := Lib.hid (hJbad.out rfl)
                  clear hJbad hD4
                  go_quiet (fail)
                  go_wp2_with fail
                  go_ret2
                  exact ⟨by rw [hJ2.out]; rfl, fin _ _ rfl⟩
                | false =>
                  by_cases hwn : wn2 = 1
                  rotate_left
                  · have e1 : ((wn2 : Int) == 1) = false := by rw [beq_eq_false_iff_ne]; omega
                    have e1' : ((wn2 : Int) != 1) = true := by rw [bne_iff_ne]; omega
                    have hkk : ok = false := by
                      cases ok with
                      | false => rfl
                      | true => have h3 := congrArg (fun z => (z.1.map fun e => e.words.length)) (hgood.out rfl); simp at h3; omega
                    subst hkk
                    clear hwn hwl hgood hbad B4 b4
                    have hJ2 := Lib.hid (hJbad.out rfl)
                    clear hJbad hD4
                    go_quiet (fail)
                    go_wp2_with fail
                    go_ret2
                    exact ⟨by rw [hJ2.out]; rfl, fin _ _ rfl⟩
                  subst hwn
                  obtain ⟨y, rfl⟩ : ∃ y, ws = [y] := List.length_eq_one_iff.1 hwl
                  obtain ⟨wb2, wo2, rfl, -, u0, u1⟩ := rd_tr hwd.out (k := 0) (by omega) y rfl
                  simp only [Nat.zero_mul, Nat.add_zero] at u0 u1
                  obtain ⟨yt, yq⟩ := y
                  dsimp only at u0 u1
                  clear hwl hwd
                  by_cases hxy : (yt, yq) = (xt, xq)
                  rotate_left
                  · have hkk : ok = false := by
                      cases ok with
                      | false => rfl
                      | true =>
                        have h3 := congrArg (fun z => (z.1.map fun e => e.words)) (hgood.out rfl)
                        simp only [List.map_cons, List.map_nil] at h3
                        exact absurd (by simpa using h3) hxy
                    subst hkk
                    clear hgood hbad B4 b4
                    have hne : Hid (¬ (yt = xt ∧ yq = xq)) := Lib.hid (fun h => hxy (by rw [h.1, h.2]))
                    clear hxy
                    by_cases hxt : yt = xt
                    · have hq : (yq == xq) = false := by rw [beq_eq_false_iff_ne]; exact fun h => hne.out ⟨hxt, h⟩
                      have hS2 := hS1
                      clear hS1 hS2
                      subst hxt
                      have hJ2 := Lib.hid (hJbad.out rfl)
                      clear hJbad hD4
                      go_quiet (fail)
                      go_wp2_with fail
                      go_ret2
                      exact ⟨by rw [hJ2.out]; rfl, fin _ _ rfl⟩
                    · have hq : (yt == xt) = false := by rw [beq_eq_false_iff_ne]; exact hxt
                      clear hxt
                      have hJ2 := Lib.hid (hJbad.out rfl)
                      clear hJbad hD4
                      go_quiet (fail)
                      go_wp2_with fail
                      go_ret2
                      exact ⟨by rw [hJ2.out]; rfl, fin _ _ rfl⟩
                  · cases hxy
                    have hkk : ok = true := by
                      cases ok with
                      | true => rfl
                      | false => exact absurd rfl (hbad.out rfl el false)
                    subst hkk
                    have hD5 : Hid (((en.words.drop (k + 1)).any (fun w => !okw w) || badL (L.drop (j + 1))) = badL L) := Lib.hid (by have h := hD4.out; rw [Bool.not_true, Bool.false_or] at h; exact h)
                    clear hgood hbad B4 b4 hD4 hJbad
                    go_quiet (fail)
                    have J5 := Lib.hid (J4.out.ext (bel_drewN (Below.refl _ W4) nq))
                    have e5 := Lib.hid (blk_drewN e4.out nq)
                    clear J4 e4 fin d0 d1 q0 q1 a0 a1 a2 u0 u1
                    generalize W4.drewN nq = W5 at *
                    clear nq
                    by_cases hk0 : k = 0
                    · have hkZ : (k : Int) ≤ 0 := by omega
                      have hk1 := Lib.hid hk0
                      clear hk0
                      go_wp2_with fail
                      refine (bld_string S J5.out.bld (by omega) J5.out.hB).mono ?_
                      rintro e W6 ⟨rfl, b6, x6, t6⟩
                      have J6 := Lib.hid (J5.out.put b6 x6)
                      have e6 := Lib.hid (t6 ge 25 _ (by decide) (ne_g J5.out.bld e5.out) e5.out)
                      clear b6 x6 t6 J5 e5
                      go_wp2_with fail
                      refine ⟨⟨k + 1, Y ++ S, by push_cast; rfl, by omega, Lib.hid ?_, hD5, J6, e6⟩, by simp only [intOf]; omega⟩
                      rw [hY.out, wtext_put0 hx2.out hk1.out, hS1.out]
                      simp
                    · have hkP : (0 : Int) < k := by omega
                      have hk1 := Lib.hid hk0
                      clear hk0
                      go_wp2_with fail
                      refine (bld_byte 32 J5.out.bld (by omega) J5.out.hB).mono ?_
                      rintro e W6 ⟨rfl, b6, x6, t6⟩
                      have J6 := Lib.hid (J5.out.put b6 x6)
                      have e6 := Lib.hid (t6 ge 25 _ (by decide) (ne_g J5.out.bld e5.out) e5.out)
                      clear b6 x6 t6 J5 e5
                      go_wp2_with fail
                      refine (bld_string S J6.out.bld (by rw [List.length_append]; simp only [List.length_singleton]; omega) J6.out.hB).mono ?_
                      rintro e W7 ⟨rfl, b7, x7, t7⟩
                      have J7 := Lib.hid (J6.out.put b7 x7)
                      have e7 := Lib.hid (t7 ge 25 _ (by decide) (ne_g J6.out.bld e6.out) e6.out)
                      clear b7 x7 t7 J6 e6
                      go_wp2_with fail
                      refine ⟨⟨k + 1, (Y ++ [32]) ++ S, by push_cast; rfl, by omega, Lib.hid ?_, hD5, J7, e7⟩, by simp only [intOf]; omega⟩
                      rw [hY.out, wtext_put hx2.out hk1.out, hS1.out]
                      simp
              · obtain rfl : k = en.words.length := by omega
                have hX2 : Hid (jtext (L.take (j + 1)) = Y ++ [10]) := Lib.hid (by rw [hT2.out, hY.out, List.take_length])
                have hD6 : Hid (badL (L.drop (j + 1)) = badL L) := Lib.hid (by have h := hD.out; rw [List.drop_length, List.any_nil, Bool.false_or] at h; exact h)
                have hYl : Y.length + 1 ≤ 70000 := by have h := hTl.out; rw [hX2.out] at h; simp only [List.length_append, List.length_singleton] at h; omega
                clear hk hD
                go_wp2_with fail
                refine (bld_byte 10 hJ.out.bld (by omega) hJ.out.hB).mono ?_
                rintro e W6 ⟨rfl, b6, x6, t6⟩
                have J6 := Lib.hid (hJ.out.put b6 x6)
                have e6 := Lib.hid (t6 ge 25 _ (by decide) (ne_g hJ.out.bld hb.out) hb.out)
                clear b6 x6 t6 hJ hb
                have c2 : W6.cell? ⟨ge, 2, none⟩ = some (.slice wa en.words.length wc) := (e6.out.cell 2).trans rfl
                cases mt with
                | true =>
                  rw [Bool.true_or] at hMa
                  go_wp2_with fail
                  exact ⟨⟨j + 1, Y ++ [10], by push_cast; rfl, by rw [hMa.out], by omega, Lib.hid hX2.out.symm, hD6, J6⟩, by simp only [intOf]; omega⟩
                | false =>
                  rw [Bool.false_or] at hMa
                  by_cases h64 : 64 < en.words.length
                  · have h64I : (64 : Int) < en.words.length := by omega
                    rw [decide_eq_true h64] at hMa
                    clear h64
                    go_wp2_with fail
                    exact ⟨⟨j + 1, Y ++ [10], by push_cast; rfl, by rw [hMa.out], by omega, Lib.hid hX2.out.symm, hD6, J6⟩, by simp only [intOf]; omega⟩
                  · have h64I : (en.words.length : Int) ≤ 64 := by omega
                    rw [decide_eq_false h64] at hMa
                    clear h64
                    go_wp2_with fail
                    exact ⟨⟨j + 1, Y ++ [10], by push_cast; rfl, by rw [hMa.out]; exact congrArg Value.bool (decide_eq_false (by omega)), by omega, Lib.hid hX2.out.symm, hD6, J6⟩, by simp only [intOf]; omega⟩
          | true =>
            rw [hbl] at e1 bE
            have hT2 : Hid (jtext (L.take (j + 1)) = ((X ++ [32]) ++ wtext en.words) ++ [10]) := Lib.hid (by rw [hT.out]; unfold etext ltext; rw [hbl]; simp)
            clear hbl hT
            go_wp2_with fail
            refine (bld_byte 32 JE.out.bld (by omega) JE.out.hB).mono ?_
            rintro e W6 ⟨rfl, b6, x6, t6⟩
            have JW := Lib.hid (JE.out.put b6 x6)
            have bW := Lib.hid (t6 ge 25 _ (by decide) (ne_g JE.out.bld bE.out) bE.out)
            clear b6 x6 t6 e1 e2
            have e2 : W6.cell? ⟨ge, 2, none⟩ = some (.slice wa en.words.length wc) := (bW.out.cell 2).trans rfl
            go_wp2_with fail
            clear e2
            go_loopw [52] (fun kv wr => ∃ (k : Nat) (Y : List UInt8), kv = .int .i64 k ∧ k ≤ en.words.length ∧ Hid (Y = (X ++ [32]) ++ wtext (en.words.take k)) ∧ Hid (((en.words.drop k).any (fun w => !okw w) || badL (L.drop (j + 1))) = badL L) ∧ Hid (JS w g B Y wr) ∧ Hid (Blk wr ge 25 (0, 0) [.int .i64 en.line, .bool true, .slice wa en.words.length wc])) (fun kv _ => en.words.length - (intOf kv).toNat)
            case atStart => exact ⟨0, (X ++ [32]), rfl, Nat.zero_le _, Lib.hid (by simp [wtext]), Lib.hid (by rw [List.drop_zero]; exact hD3.out), JW, bW⟩
            case round =>
              clear JW bW
              obtain ⟨k, Y, rfl, hkn, hY, hD, hJ, hb⟩ := hrel
              by_cases hk : k < en.words.length
              · have hkI : (k : Int) < en.words.length := by omega
                obtain ⟨x, hx, hxm⟩ := at_ex hk
                obtain ⟨wb, wo, rfl, -, x0, x1⟩ := rd_tr (hw0.out.ext hJ.out.bel) hk x hx
                obtain ⟨xt, xq⟩ := x
                have hxl : xt.length ≤ 16000 := hF1.out.txt en hM.out _ hxm
                have hsl : (shownL (xt, xq)).length ≤ 16002 := by cases xq <;> simp [shownL] <;> omega
                have hD4 : Hid ((!okw (xt, xq) || ((en.words.drop (k + 1)).any (fun w => !okw w) || badL (L.drop (j + 1)))) = badL L) := Lib.hid (by have h := hD.out; rw [at_drop hx, List.any_cons, Bool.or_assoc] at h; exact h)
                have hgood : Hid (okw (xt, xq) = true → pEnt (shownL (xt, xq)) = ([⟨1, false, [(xt, xq)]⟩], (0, 0))) := Lib.hid (fun h => alone_ok h (by omega))
                have hbad : Hid (okw (xt, xq) = false → ∀ l b, ¬ pEnt (shownL (xt, xq)) = ([⟨l, b, [(xt, xq)]⟩], (0, 0))) := Lib.hid (fun h l b => alone_bad h (by omega) l b)
                have htold : Hid ((pEnt (shownL (xt, xq))).2.1 = 0 → (pEnt (shownL (xt, xq))).2 = (0, 0)) := Lib.hid (fun h => by
                  rcases pEnt_told (shownL (xt, xq)) (by omega) with ⟨h2, _⟩ | ⟨_, h2, _⟩
                  · exact h2
                  · omega)
                have hYl : Y.length + 1 + (shownL (xt, xq)).length ≤ 70000 := by
                  have h := hTl.out
                  have h2 := wtext_take_le en.words k
                  rw [hT2.out] at h
                  rw [hY.out]
                  simp only [List.length_append, List.length_singleton] at h ⊢
                  omega
                have hx2 := Lib.hid hx
                dsimp only at x0 x1
                obtain ⟨Wx, hWx⟩ : ∃ W, wr.alloc (.cells #[.string (mk xt), .bool xq] 27) = W := ⟨_, rfl⟩
                have kx : Below wr.heap.size wr Wx := by rw [← hWx]; exact alloc_bel _ _
                have Jx := Lib.hid (hJ.out.ext kx)
                have ex := Lib.hid (hb.out.below kx hb.out.lt)
                have bx : Hid (Blk Wx wr.heap.size 27 (0, 0) [.string (mk xt), .bool xq]) := Lib.hid (by rw [← hWx]; exact Blk.new wr 27 (0, 0) #[.string (mk xt), .bool xq])
                have y0 : Wx.cell? ⟨wr.heap.size, 0, none⟩ = some (.string (mk xt)) := (bx.out.cell 0).trans rfl
                have y1 : Wx.cell? ⟨wr.heap.size, 1, none⟩ = some (.bool xq) := (bx.out.cell 1).trans rfl
                clear hJ hb hx hxm kx hD
                go_upto_region 23 with (fail)
                clear hWx x0 x1
                obtain ⟨gx, hgx⟩ : ∃ gx, wr.heap.size = gx := ⟨_, rfl⟩
                rw [hgx] at bx y0 y1 ⊢
                clear hgx
                go_wp2_with fail
                refine (shown_any Wx xt xq (by omega)).mono ?_
                rintro e V2 ⟨rfl, k2⟩
                have J2 := Lib.hid (Jx.out.ext k2)
                have e2' := Lib.hid (ex.out.below k2 ex.out.lt)
                have b2 := Lib.hid (bx.out.below k2 bx.out.lt)
                clear k2 y0 y1 Jx ex bx
                obtain ⟨S, hS⟩ : ∃ S, shownL (xt, xq) = S := ⟨_, rfl⟩
                rw [hS] at hgood hbad htold hsl hYl ⊢
                have hS1 := Lib.hid hS
                clear hS
                go_wp2_with fail
                refine (entries_any V2 S (by omega)).mono ?_
                rintro e V3 ⟨k3, oa, on, oc, eds, m, rfl, ho, hol, hen, hm⟩
                have hrd := ents_rd ho hen
                have J3 := Lib.hid (J2.out.ext k3)
                have e3 := Lib.hid (e2'.out.below k3 e2'.out.lt)
                have b3 := Lib.hid (b2.out.below k3 b2.out.lt)
                obtain ⟨R, hR⟩ : ∃ R, pEnt S = R := ⟨_, rfl⟩
                rw [hR] at hgood hbad htold hrd ⊢
                clear k3 J2 e2' b2 ho hol hen hm hR
                obtain ⟨W4, hW4⟩ : ∃ W, V3.alloc (.cells #[.int .i64 R.2.1, .int .i64 R.2.2] 36) = W := ⟨_, rfl⟩
                have k4 : Below V3.heap.size V3 W4 := by rw [← hW4]; exact alloc_bel _ _
                have B4 : Hid (Blk W4 V3.heap.size 36 (0, 0) [.int .i64 R.2.1, .int .i64 R.2.2]) := Lib.hid (by rw [← hW4]; exact Blk.new V3 36 (0, 0) #[.int .i64 R.2.1, .int .i64 R.2.2])
                have J4 := Lib.hid (J3.out.ext k4)
                have e4 := Lib.hid (e3.out.below k4 e3.out.lt)
                have b4 := Lib.hid (b3.out.below k4 b3.out.lt)
                have hrd4 := Lib.hid (hrd.ext k4)
                clear hrd k4 J3 e3 b3
                obtain ⟨R1, f1, f2⟩ := R
                go_upto_region 25 with (fail)
                clear hW4
                have d0 : W4.cell? ⟨V3.heap.size, 0, none⟩ = some (.int .i64 f1) := (B4.out.cell 0).trans rfl
                have d1 : W4.cell? ⟨V3.heap.size, 1, none⟩ = some (.int .i64 f2) := (B4.out.cell 1).trans rfl
                have q0 : W4.cell? ⟨gx, 0, none⟩ = some (.string (mk xt)) := (b4.out.cell 0).trans rfl
                have q1 : W4.cell? ⟨gx, 1, none⟩ = some (.bool xq) := (b4.out.cell 1).trans rfl
                have hlen := hrd4.out.len
                have fin : ∀ W n, W = W4.drewN n → Below w.heap.size w W := fun W n h => by rw [h]; exact bel_drewN J4.out.bel n
                have hJbad : Hid (okw (xt, xq) = false → JR = ([], 230)) := Lib.hid (fun h => by
                  have h2 := hD4.out
                  rw [h, Bool.not_false, Bool.true_or] at h2
                  rw [← hJ1.out]; unfold joinR; rw [← h2]; rfl)
                obtain ⟨ok, hok⟩ : ∃ ok, okw (xt, xq) = ok := ⟨_, rfl⟩
                rw [hok] at hgood hbad hJbad hD4
                clear hok
                by_cases hf : f1 = 0
                rotate_left
                · have e0 : (f1 == 0) = false := by rw [beq_eq_false_iff_ne]; exact hf
                  have e1 : (f1 != 0) = true := by rw [bne_iff_ne]; exact hf
                  have hkk : ok = false := by
                    cases ok with
                    | false => rfl
                    | true => exact absurd (congrArg (fun z => z.2.1) (hgood.out rfl)) hf
                  subst hkk
                  clear hf hlen hgood hbad htold B4 b4
                  have hJ2 := Lib.hid (hJbad.out rfl)
                  clear hJbad hD4
                  go_quiet (fail)
                  go_wp2_with fail
                  go_ret2
                  exact ⟨by rw [hJ2.out]; rfl, fin _ _ rfl⟩
                have hff := htold.out hf
                obtain rfl : f2 = 0 := congrArg Prod.snd hff
                subst hf
                clear hff htold
                by_cases hon : on = 1
                rotate_left
                · have e1 : ((on : Int) == 1) = false := by rw [beq_eq_false_iff_ne]; omega
                  have e1' : ((on : Int) != 1) = true := by rw [bne_iff_ne]; omega
                  have hkk : ok = false := by
                    cases ok with
                    | false => rfl
                    | true => have h3 := congrArg (fun z => z.1.length) (hgood.out rfl); simp at h3; omega
                  subst hkk
                  clear hon hlen hgood hbad B4 b4
                  have hJ2 := Lib.hid (hJbad.out rfl)
                  clear hJbad hD4
                  go_quiet (fail)
                  go_wp2_with fail
                  go_ret2
                  exact ⟨by rw [hJ2.out]; rfl, fin _ _ rfl⟩
                subst hon
                obtain ⟨en2, rfl⟩ : ∃ en2, R1 = [en2] := List.length_eq_one_iff.1 hlen
                obtain ⟨ab2, ao2, wa2, wn2, wc2, rfl, -, a0, a1, a2, hwd⟩ := hrd4.out.at_ (k := 0) (by omega) en2 rfl
                simp only [Nat.zero_mul, Nat.add_zero] at a0 a1 a2
                have hwl := hwd.len
                replace hwd := Lib.hid hwd
                clear hrd4 hlen
                obtain ⟨el, eb, ws⟩ := en2
                dsimp only at a0 a1 hwd hwl
                cases eb with
                | true =>
                  have hkk : ok = false := by
                    cases ok with
                    | false => rfl
                    | true => have h3 := congrArg (fun z => (z.1.map fun e => e.blank)) (hgood.out rfl); simp at h3
                  subst hkk
                  clear hwl hgood hbad B4 b4
                  have hJ2 := Lib.hid (hJbad.out rfl)
                  clear hJbad hD4
                  go_quiet (fail)
                  go_wp2_with fail
                  go_ret2
                  exact ⟨by rw [hJ2.out]; rfl, fin _ _ rfl⟩
                | false =>
                  by_cases hwn : wn2 = 1
                  rotate_left
                  · have e1 : ((wn2 : Int) == 1) = false := by rw [beq_eq_false_iff_ne]; omega
                    have e1' : ((wn2 : Int) != 1) = true := by rw [bne_iff_ne]; omega
                    have hkk : ok = false := by
                      cases ok with
                      | false => rfl
                      | true => have h3 := congrArg (fun z => (z.1.map fun e => e.words.length)) (hgood.out rfl); simp at h3; omega
                    subst hkk
                    clear hwn hwl hgood hbad B4 b4
                    have hJ2 := Lib.hid (hJbad.out rfl)
                    clear hJbad hD4
                    go_quiet (fail)
                    go_wp2_with fail
                    go_ret2
                    exact ⟨by rw [hJ2.out]; rfl, fin _ _ rfl⟩
                  subst hwn
                  obtain ⟨y, rfl⟩ : ∃ y, ws = [y] := List.length_eq_one_iff.1 hwl
                  obtain ⟨wb2, wo2, rfl, -, u0, u1⟩ := rd_tr hwd.out (k := 0) (by omega) y rfl
                  simp only [Nat.zero_mul, Nat.add_zero] at u0 u1
                  obtain ⟨yt, yq⟩ := y
                  dsimp only at u0 u1
                  clear hwl hwd
                  by_cases hxy : (yt, yq) = (xt, xq)
                  rotate_left
                  · have hkk : ok = false := by
                      cases ok with
                      | false => rfl
                      | true =>
                        have h3 := congrArg (fun z => (z.1.map fun e => e.words)) (hgood.out rfl)
                        simp only [List.map_cons, List.map_nil] at h3
                        exact absurd (by simpa using h3) hxy
                    subst hkk
                    clear hgood hbad B4 b4
                    have hne : Hid (¬ (yt = xt ∧ yq = xq)) := Lib.hid (fun h => hxy (by rw [h.1, h.2]))
                    clear hxy
                    by_cases hxt : yt = xt
                    · have hq : (yq == xq) = false := by rw [beq_eq_false_iff_ne]; exact fun h => hne.out ⟨hxt, h⟩
                      have hS2 := hS1
                      clear hS1 hS2
                      subst hxt
                      have hJ2 := Lib.hid (hJbad.out rfl)
                      clear hJbad hD4
                      go_quiet (fail)
                      go_wp2_with fail
                      go_ret2
                      exact ⟨by rw [hJ2.out]; rfl, fin _ _ rfl⟩
                    · have hq : (yt == xt) = false := by rw [beq_eq_false_iff_ne]; exact hxt
                      clear hxt
                      have hJ2 := Lib.hid (hJbad.out rfl)
                      clear hJbad hD4
                      go_quiet (fail)
                      go_wp2_with fail
                      go_ret2
                      exact ⟨by rw [hJ2.out]; rfl, fin _ _ rfl⟩
                  · cases hxy
                    have hkk : ok = true := by
                      cases ok with
                      | true => rfl
                      | false => exact absurd rfl (hbad.out rfl el false)
                    subst hkk
                    have hD5 : Hid (((en.words.drop (k + 1)).any (fun w => !okw w) || badL (L.drop (j + 1))) = badL L) := Lib.hid (by have h := hD4.out; rw [Bool.not_true, Bool.false_or] at h; exact h)
                    clear hgood hbad B4 b4 hD4 hJbad
                    go_quiet (fail)
                    have J5 := Lib.hid (J4.out.ext (bel_drewN (Below.refl _ W4) nq))
                    have e5 := Lib.hid (blk_drewN e4.out nq)
                    clear J4 e4 fin d0 d1 q0 q1 a0 a1 a2 u0 u1
                    generalize W4.drewN nq = W5 at *
                    clear nq
                    by_cases hk0 : k = 0
                    · have hkZ : (k : Int) ≤ 0 := by omega
                      have hk1 := Lib.hid hk0
                      clear hk0
                      go_wp2_with fail
                      refine (bld_string S J5.out.bld (by omega) J5.out.hB).mono ?_
                      rintro e W6 ⟨rfl, b6, x6, t6⟩
                      have J6 := Lib.hid (J5.out.put b6 x6)
                      have e6 := Lib.hid (t6 ge 25 _ (by decide) (ne_g J5.out.bld e5.out) e5.out)
                      clear b6 x6 t6 J5 e5
                      go_wp2_with fail
                      refine ⟨⟨k + 1, Y ++ S, by push_cast; rfl, by omega, Lib.hid ?_, hD5, J6, e6⟩, by simp only [intOf]; omega⟩
                      rw [hY.out, wtext_put0 hx2.out hk1.out, hS1.out]
                      simp
                    · have hkP : (0 : Int) < k := by omega
                      have hk1 := Lib.hid hk0
                      clear hk0
                      go_wp2_with fail
                      refine (bld_byte 32 J5.out.bld (by omega) J5.out.hB).mono ?_
                      rintro e W6 ⟨rfl, b6, x6, t6⟩
                      have J6 := Lib.hid (J5.out.put b6 x6)
                      have e6 := Lib.hid (t6 ge 25 _ (by decide) (ne_g J5.out.bld e5.out) e5.out)
                      clear b6 x6 t6 J5 e5
                      go_wp2_with fail
                      refine (bld_string S J6.out.bld (by rw [List.length_append]; simp only [List.length_singleton]; omega) J6.out.hB).mono ?_
                      rintro e W7 ⟨rfl, b7, x7, t7⟩
                      have J7 := Lib.hid (J6.out.put b7 x7)
                      have e7 := Lib.hid (t7 ge 25 _ (by decide) (ne_g J6.out.bld e6.out) e6.out)
                      clear b7 x7 t7 J6 e6
                      go_wp2_with fail
                      refine ⟨⟨k + 1, (Y ++ [32]) ++ S, by push_cast; rfl, by omega, Lib.hid ?_, hD5, J7, e7⟩, by simp only [intOf]; omega⟩
                      rw [hY.out, wtext_put hx2.out hk1.out, hS1.out]
                      simp
              · obtain rfl : k = en.words.length := by omega
                have hX2 : Hid (jtext (L.take (j + 1)) = Y ++ [10]) := Lib.hid (by rw [hT2.out, hY.out, List.take_length])
                have hD6 : Hid (badL (L.drop (j + 1)) = badL L) := Lib.hid (by have h := hD.out; rw [List.drop_length, List.any_nil, Bool.false_or] at h; exact h)
                have hYl : Y.length + 1 ≤ 70000 := by have h := hTl.out; rw [hX2.out] at h; simp only [List.length_append, List.length_singleton] at h; omega
                clear hk hD
                go_wp2_with fail
                refine (bld_byte 10 hJ.out.bld (by omega) hJ.out.hB).mono ?_
                rintro e W6 ⟨rfl, b6, x6, t6⟩
                have J6 := Lib.hid (hJ.out.put b6 x6)
                have e6 := Lib.hid (t6 ge 25 _ (by decide) (ne_g hJ.out.bld hb.out) hb.out)
                clear b6 x6 t6 hJ hb
                have c2 : W6.cell? ⟨ge, 2, none⟩ = some (.slice wa en.words.length wc) := (e6.out.cell 2).trans rfl
                cases mt with
                | true =>
                  rw [Bool.true_or] at hMa
                  go_wp2_with fail
                  exact ⟨⟨j + 1, Y ++ [10], by push_cast; rfl, by rw [hMa.out], by omega, Lib.hid hX2.out.symm, hD6, J6⟩, by simp only [intOf]; omega⟩
                | false =>
                  rw [Bool.false_or] at hMa
                  by_cases h64 : 64 < en.words.length
                  · have h64I : (64 : Int) < en.words.length := by omega
                    rw [decide_eq_true h64] at hMa
                    clear h64
                    go_wp2_with fail
                    exact ⟨⟨j + 1, Y ++ [10], by push_cast; rfl, by rw [hMa.out], by omega, Lib.hid hX2.out.symm, hD6, J6⟩, by simp only [intOf]; omega⟩
                  · have h64I : (en.words.length : Int) ≤ 64 := by omega
                    rw [decide_eq_false h64] at hMa
                    clear h64
                    go_wp2_with fail
                    exact ⟨⟨j + 1, Y ++ [10], by push_cast; rfl, by rw [hMa.out]; exact congrArg Value.bool (decide_eq_false (by omega)), by omega, Lib.hid hX2.out.symm, hD6, J6⟩, by simp only [intOf]; omega⟩
        · obtain rfl : j = i := by omega
          have hbf : badL L = false := by
            have h := hD.out
            rw [List.drop_eq_nil_of_le (by have := hL1.out; omega)] at h
            exact h.symm
          have hPL : Hid (X = jtext L ∧ manyL (L.take j) = manyL L) := Lib.hid (by rw [hX.out, List.take_of_length_le (by have := hL1.out; omega)]; exact ⟨rfl, rfl⟩)
          have hJ2 : Hid (JR = if manyL L then ([], 3) else (jtext L, 0)) := Lib.hid (by rw [← hJ1.out]; unfold joinR; rw [hbf]; rfl)
          have hXl : ¬ (65536 : Int) < X.length := by have h := hF1.out.all; rw [← hPL.out.1] at h; omega
          clear hlt hD hX hbf
          rw [hPL.out.2]
          cases hm : manyL L with
          | true =>
            rw [hm] at hJ2
            clear hm
            go_wp2_with fail
            go_ret2
            exact ⟨by rw [hJ2.out]; rfl, hJS.out.bel⟩
          | false =>
            rw [hm] at hJ2
            clear hm
            go_wp2_with fail
            refine (bld_len hJS.out.bld (Nat.le_of_lt hJS.out.hg)).mono ?_
            rintro e w3 ⟨rfl, rfl⟩
            go_wp2_with fail
            refine (bld_done hJS.out.bld (Nat.le_of_lt hJS.out.hg)).mono ?_
            rintro e w3 ⟨rfl, k3⟩
            have k4 := Lib.hid (hJS.out.bel.trans (k3.mono hJS.out.h0))
            clear k3
            go_wp2_with fail
            go_ret2
            exact ⟨by rw [hJ2.out]; show _ = Ending.returned (.tuple #[.string (mk (jtext L)), _]); rw [← hPL.out.1]; rfl, k4.out⟩
end Go.Proofs.Ytojdjhicjhhblaa
