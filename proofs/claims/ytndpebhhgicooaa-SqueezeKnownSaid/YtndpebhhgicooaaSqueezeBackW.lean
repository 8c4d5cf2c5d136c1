/- The law SqueezeBack, walked; printed by gen_sb.py. -/
import Derived.Test.YtndpebhhgicooaaSbA
namespace Go.Proofs.Ytndpebhhgicooaa
open Go Go.RowKit Go.Maps
theorem wr_name3 {w : World} {lo g : Nat} {B : List UInt8} {nm : Nat} {f : List UInt8 → Option Int} {a : Option Addr} {c mb : Nat} (h : Wr w lo g B nm f a c mb) (hlo : lo ≤ w.heap.size) (hI : Inv B f) {an : Option Addr} {n cn : Nat} {L : Nm} (hN : Rd strE w an n cn L) (hc : checkL L = 0)
    (back : Bool) (hr : B.length + sizeL L ≤ 65535) (hnm : nm + 1000 < 1000000) {t : List UInt8} {fr : List UInt8 → Option Int} (hw : wrN B.length f back [] (fun _ => none) L = (t, fr)) :
    Calls Try.prog 27 #[.pointer (some ⟨g, 0, none⟩), .slice an n cn, .bool back] w fun e w' => e = .returned (.int .i64 0) ∧ (∃ a' c' nm', nm' ≤ nm + n ∧ Wr w' lo g (B ++ t) nm' (over fr f) a' c' mb) ∧ Tch (fun k => k = g ∨ k = mb ∨ (Value.slice a B.length c).ownBlock = some k) w w' := by
  refine (wr_name h hlo hN hc hI.range back hr hnm).mono fun e w' ⟨h1, h2, h3⟩ => ?_
  rw [hw] at h2
  obtain ⟨a', c', nm', h4, h5⟩ := h2
  exact ⟨h1, ⟨a', c', nm', h4, h5⟩, h3⟩
theorem info3 : (Try.prog.info? 3).map (fun i => (i.zero, i.size, i.bytes)) = some (some (.int .i64 0), 1, 8) := by kernel_rfl
theorem info25 : (Try.prog.info? 25).map (fun i => (i.zero, i.size, i.bytes)) = some (some (.slice none 0 0), 1, 24) := by kernel_rfl
def InL (W : World) (ps : List (Option Addr × Nat × Nat)) (RS : List (Nat × Nm)) : Prop := ps.length = RS.length ∧ ∀ (j : Nat) (p : Option Addr × Nat × Nat) (r : Nat × Nm), ps[j]? = some p → RS[j]? = some r → Rd strE W p.1 p.2.1 p.2.2 r.2
theorem InL.nil (W : World) : InL W [] [] := ⟨rfl, fun j p r h => by simp at h⟩
theorem InL.snoc {W : World} {ps : List (Option Addr × Nat × Nat)} {RS : List (Nat × Nm)} (h : InL W ps RS) {p : Option Addr × Nat × Nat} {r : Nat × Nm} (hr : Rd strE W p.1 p.2.1 p.2.2 r.2) : InL W (ps ++ [p]) (RS ++ [r]) := by
  obtain ⟨h2, h3⟩ := h
  refine ⟨by simp [h2], fun j q Y hq hY => ?_⟩
  rw [List.getElem?_append] at hq hY
  by_cases hj : j < ps.length
  · rw [if_pos hj] at hq
    rw [if_pos (by omega)] at hY
    exact h3 j q Y hq hY
  · rw [if_neg hj] at hq
    rw [if_neg (by omega), ← h2] at hY
    obtain ⟨m, hm⟩ : ∃ m, j - ps.length = m := ⟨_, rfl⟩
    rw [hm] at hq hY
    cases m with
    | succ m => simp at hq
    | zero =>
      simp only [List.getElem?_cons_zero, Option.some.injEq] at hq hY
      subst hq
      subst hY
      exact hr
theorem rd_num {w : World} {a : Option Addr} {n c : Nat} {l : List Int} (h : Rd intE w a n c l) (h0 : 0 < n) : ∃ b o, a = some ⟨b, o, none⟩ ∧ ∀ j (hj : j < l.length), w.cell? ⟨b, o + j, none⟩ = some (.int .i64 l[j]) := by
  obtain ⟨b, o, h1, _, h2⟩ := h.addr h0
  exact ⟨b, o, h1, fun j hj => by have := h2 j hj 0 (by decide); simpa [intE] using this⟩
theorem rd_sl {w : World} {a : Option Addr} {n c : Nat} {l : List (Option Addr × Nat × Nat)} (h : Rd slN w a n c l) (h0 : 0 < n) : ∃ b o, a = some ⟨b, o, none⟩ ∧ ∀ j (hj : j < l.length), w.cell? ⟨b, o + j, none⟩ = some (.slice l[j].1 l[j].2.1 l[j].2.2) := by
  obtain ⟨b, o, h1, _, h2⟩ := h.addr h0
  exact ⟨b, o, h1, fun j hj => by have := h2 j hj 0 (by decide); simpa [slN] using this⟩
set_option maxHeartbeats 16000000 in
set_option maxRecDepth 100000 in
theorem squeezeBack_walk {W : World} {a : Option Addr} {n c : Nat} {NS : List Nm} (h : RdN W a n c NS) {ab : Option Addr} {nb cb : Nat} (hnb : nb ≤ maxLen) (hbs : 0 < nb → ∃ b o, ab = some ⟨b, o, none⟩ ∧ b < W.heap.size ∧ ∀ j, j < nb → ∃ x : Bool, W.cell? ⟨b, o + j, none⟩ = some (.bool x)) :
    Calls Try.prog 6 #[.slice a n c, .slice ab nb cb] W fun e w' => e = .returned (.bool true) ∧ Below W.heap.size W w' := by
  obtain ⟨i0, hi, hz0, hz1, hz2⟩ := info_parts info3
  obtain ⟨i1, hi1, hz01, hz11, hz21⟩ := info_parts info25
  have hl := h.len
  have hH := Lib.hid h
  have hbs' := Lib.hid hbs
  simp only [maxLen] at hnb
  clear h hbs
  by_cases h40 : n ≤ 40
  · have h40I : ¬ (40 : Int) < n := by omega
    go_enter Try.func6, Try.ntmps6
    go_wp2_with fail
    refine (awake_any W).mono ?_
    rintro e w1 ⟨rfl, hb1⟩
    have hb1' := Lib.hid hb1
    clear hb1
    go_wp2_with fail
    refine (wr_new (w := w1)).mono ?_
    rintro e w2 ⟨⟨g, mb, rfl, hW2⟩, hb2⟩
    obtain ⟨lo, hlo⟩ : ∃ lo, w1.heap.size = lo := ⟨_, rfl⟩
    rw [hlo] at hW2 hb2
    have hlo1 : W.heap.size ≤ lo := by have := hb1'.out.size; omega
    have hlo2 : lo ≤ w2.heap.size := by have := hb2.size; omega
    have hW2' := Lib.hid hW2
    have hb2' : Hid (Below W.heap.size W w2) := Lib.hid (hb1'.out.trans (hb2.mono hlo1))
    clear hW2 hb2 hb1' hlo
    go_wp2_with fail
    go_loopw [7, 8, 9] (fun v7 v8 i wr => ∃ (k : Nat) (RS : List (Nat × Nm)) (ps : List (Option Addr × Nat × Nat)) (B : List UInt8) (f : List UInt8 → Option Int) (nm : Nat) (aB : Option Addr) (cB : Nat), k ≤ n ∧ i = .int .i64 k ∧ Hid (Own intE wr W.heap.size v7 (RS.map fun r => (r.1 : Int))) ∧ Hid (Own slN wr W.heap.size v8 ps) ∧ Hid (InL W ps RS) ∧ Hid (Wr wr lo g B nm f aB cB mb) ∧ Hid (Inv B f) ∧ Hid (Chn B RS) ∧ B.length ≤ 255 * k ∧ nm ≤ 130 * k ∧ RS.length ≤ k ∧ Hid (Below W.heap.size W wr) ∧ lo ≤ wr.heap.size)
      (fun _ _ i _ => n - (intOf i).toNat)
    case atStart => exact ⟨0, [], [], [], fun _ => none, 0, none, 0, Nat.zero_le _, rfl, Lib.hid (Own.nil _ _ _), Lib.hid (Own.nil _ _ _), Lib.hid (InL.nil W), hW2', Lib.hid Inv.nil, Lib.hid Chn.nil, by simp, by simp, by simp, hb2', hlo2⟩
    case round =>
      obtain ⟨k, RS, ps, B, f, nm, aB, cB, hk, rfl, hA, hIn, hInL, hWr, hInv, hCh, hBl, hnm, hRS, hb, hsz⟩ := hrel
      clear hW2' hb2'
      obtain ⟨a7, c7, hv7⟩ := hA.out.shape
      obtain ⟨a8, c8, hv8⟩ := hIn.out.shape
      have hps : ps.length = RS.length := hInL.out.1
      rw [List.length_map] at hv7
      rw [hps] at hv8
      subst hv7
      subst hv8
      have hps' := Lib.hid hps
      clear hps
      by_cases hlt : k < n
      · obtain ⟨b, o, rfl, hblt, hcs⟩ := hH.out.at_ (by omega)
        obtain ⟨an, nn, cn, hcell, hN⟩ := hcs k (by omega)
        have hN' := Lib.hid hN
        have hcell' := Lib.hid hcell
        generalize NS[k] = L at hN'
        clear hN hcell hcs
        have hck : wr.cell? ⟨b, o + k, none⟩ = some (.slice an nn cn) := (hb.out.cell (p := ⟨b, o + k, none⟩) hblt).trans hcell'.out
        have hbN := Lib.hid (hN'.out.ext hb.out)
        by_cases hn130 : nn ≤ 130
        · have hn130I : ¬ (130 : Int) < nn := by omega
          go_wp2_with fail
          refine (wr_len hWr.out).mono ?_
          rintro e w3 ⟨rfl, rfl⟩
          have hBlI : (B.length : Int) ≤ 10200 := by omega
          by_cases hbb : k < nb
          · obtain ⟨bb, ob, rfl, hbblt, hbc⟩ := hbs'.out (by omega)
            obtain ⟨bk, hbk⟩ := hbc k hbb
            have hbI : (k : Int) < nb := by omega
            have hck2 : wr.cell? ⟨bb, ob + k, none⟩ = some (.bool bk) := (hb.out.cell (p := ⟨bb, ob + k, none⟩) hbblt).trans hbk
            clear hbc hbk
            cases bk with
            | true =>
              by_cases hchk : checkL L = 0
              · obtain ⟨t, fr, hw⟩ : ∃ t fr, wrN B.length f true [] (fun _ => none) L = (t, fr) := ⟨_, _, rfl⟩
                obtain ⟨q1, q2, q3, q4, q5⟩ := wrN_name hInv.out true hchk hw
                have q6 := (checkL_zero hchk).2
                have q4' : rdF (B ++ t) true B.length B.length (-1) [] = some (L, ((B.length + t.length : Nat) : Int)) := by have := q4 []; rwa [List.append_nil] at this
                have hCh2 := Lib.hid (hCh.out.snoc hchk q4')
                have hInv2 := Lib.hid q5
                have hchk' := Lib.hid hchk
                have hw' := Lib.hid hw
                have q3' := Lib.hid q3
                clear hchk hw q3 q4 q4' q5
                go_wp2_with fail
                refine (wr_name3 hWr.out hsz hInv.out hbN.out hchk'.out true (by omega) (by omega) hw'.out).mono ?_
                rintro e w4 ⟨rfl, ⟨aB', cB', nm', hnm', hWr4⟩, hT4⟩
                have hsz4 : lo ≤ w4.heap.size := Nat.le_trans hsz hT4.size
                have hb4 : Below W.heap.size W w4 := hb.out.trans (hT4.below hb.out.size fun b _ hs => by
                  rcases hs with rfl | rfl | hs
                  · exact Nat.le_trans hlo1 hWr.out.low
                  · exact Nat.le_trans hlo1 hWr.out.lowm
                  · exact Nat.le_trans hlo1 (hWr.out.own.lt b hs).1)
                have hA4 := Lib.hid (hT4.own hA.out (hWr.out.apart hA.out (by decide) (by decide)))
                have hIn4 := Lib.hid (hT4.own hIn.out (hWr.out.apart hIn.out (by decide) (by decide)))
                have hb4' := Lib.hid hb4
                have hbN4 := Lib.hid (hN'.out.ext hb4)
                have hWr4' := Lib.hid hWr4
                have hck4 : w4.cell? ⟨b, o + k, none⟩ = some (.slice an nn cn) := (hb4.cell (p := ⟨b, o + k, none⟩) hblt).trans hcell'.out
                clear hWr4 hT4 hb4 hA hIn hbN hWr hInv hCh
                go_wp2_with fail
                refine (check_any hbN4.out (by omega)).mono ?_
                rw [hchk'.out]
                rintro e w5 ⟨rfl, rfl⟩
                go_wp2_with fail
                refine (wr_len hWr4'.out).mono ?_
                rintro e w5 ⟨rfl, rfl⟩
                have hlen : (B ++ t).length = B.length + t.length := by simp
                rw [hlen, Int.natCast_add]
                have hsub : (B.length : Int) + (t.length : Int) - (B.length : Int) = (t.length : Int) := by omega
                have hszL : sizeL L ≤ 1152921504606846976 := by omega
                have t1I : ¬ (t.length : Int) < 1 := by omega
                have t2I : ¬ (sizeL L : Int) < (t.length : Int) := by omega
                have t3I : (t.length : Int) ≤ 255 := by omega
                clear hlen
                go_wp2_with fail
                refine (size_any hbN4.out hszL).mono ?_
                rintro e w5 ⟨rfl, rfl⟩
                have k5 : Below w4.heap.size w4 (w4.alloc (.cells #[.int .i64 B.length] 3)) := (Below.refl _ _).alloc (Nat.le_refl _) _
                have hA5 := Lib.hid (hA4.out.ext k5)
                have hIn5 := Lib.hid (hIn4.out.ext k5)
                have hWr5 := Lib.hid (hWr4'.out.ext k5)
                have hsrc5 := Lib.hid ((rd_blk (E := intE) (X := [(B.length : Int)]) (Blk.new w4 3 (0, 0) #[.int .i64 B.length]) 1 rfl (by decide)).src (P := Try.prog) (tx := 54) Try.underlying54)
                have hb5 := hb4'.out.trans (k5.mono hb4'.out.size)
                have hsz5 : lo ≤ (w4.alloc (.cells #[.int .i64 B.length] 3)).heap.size := Nat.le_trans hsz4 k5.size
                generalize hW5 : w4.alloc (.cells #[.int .i64 B.length] 3) = w5 at *
                have hpsl := hps'.out
                have hpsl' : Hid (ps.length ≤ 40) := Lib.hid (by omega)
                clear k5 hA4 hIn4 hWr4' hb4' hbN4 hck4 hpsl
                go_wp2_with (at_builtin; refine app_own (E := intE) rfl (.tmp 95) (.tmp 97) 54 54 rfl Try.underlying54 hi hz0 hz1 hz2 rfl rfl hA5.out rfl hsrc5.out ?c1 ?c2 hb5.size ?_)
                case c1 => simp [maxLen]; omega
                case c2 => simp; omega
                intro v6 w6 h6 hg6 _
                have hb6 : Below W.heap.size W w6 := own_below hb5 hg6 hA5.out hb5.size (Nat.le_refl _)
                have hIn6 := Lib.hid (hIn5.out.keep (w' := w6) fun j hj => hg6.block j (hIn5.out.lt j hj).2 (fun e => own_apart hA5.out hIn5.out (by decide) j e.symm hj))
                have hWr6 := Lib.hid (hWr5.out.grown hA5.out (by decide) (by decide) hg6)
                have hsz6 : lo ≤ w6.heap.size := Nat.le_trans hsz5 hg6.size
                obtain ⟨a6, c6, e6⟩ := h6.shape
                have hl6 : ((RS.map fun r => (r.1 : Int)) ++ [(B.length : Int)]).length = RS.length + 1 := by simp
                rw [hl6] at e6
                subst e6
                have k7 : Below w6.heap.size w6 (w6.alloc (.cells #[.slice an nn cn] 25)) := (Below.refl _ _).alloc (Nat.le_refl _) _
                have hA7 := Lib.hid (h6.ext k7)
                have hIn7 := Lib.hid (hIn6.out.ext k7)
                have hWr7 := Lib.hid (hWr6.out.ext k7)
                have hsrc7 := Lib.hid ((rd_blk (E := slN) (X := [(an, nn, cn)]) (Blk.new w6 25 (0, 0) #[.slice an nn cn]) 1 rfl (by decide)).src (P := Try.prog) (tx := 52) Try.underlying52)
                have hb7 := hb6.trans (k7.mono hb6.size)
                have hsz7 : lo ≤ (w6.alloc (.cells #[.slice an nn cn] 25)).heap.size := Nat.le_trans hsz6 k7.size
                have hck6 : w6.cell? ⟨b, o + k, none⟩ = some (.slice an nn cn) := (hb6.cell (p := ⟨b, o + k, none⟩) hblt).trans hcell'.out
                generalize hW7 : w6.alloc (.cells #[.slice an nn cn] 25) = w7 at *
                clear k7 h6 hIn6 hWr6 hg6 hA5 hIn5 hWr5 hl6 hsrc5
                go_wp2_with (at_builtin; refine app_own (E := slN) rfl (.tmp 99) (.tmp 104) 52 52 rfl Try.underlying52 hi1 hz01 hz11 hz21 rfl rfl hIn7.out rfl hsrc7.out ?c1 ?c2 hb7.size ?_)
                case c1 => have := hpsl'.out; simp [maxLen]; omega
                case c2 => have := hpsl'.out; simp; omega
                intro v8 w8 h8 hg8 _
                have hb8 := Lib.hid (own_below hb7 hg8 hIn7.out hb7.size (Nat.le_refl _))
                have hA8 := Lib.hid (hA7.out.keep (w' := w8) fun j hj => hg8.block j (hA7.out.lt j hj).2 (fun e => own_apart hA7.out hIn7.out (by decide) j hj e.symm))
                have hWr8 := Lib.hid (hWr7.out.grown hIn7.out (by decide) (by decide) hg8)
                have hsz8 : lo ≤ w8.heap.size := Nat.le_trans hsz7 hg8.size
                have h8' := Lib.hid h8
                have hIL8 := Lib.hid (hInL.out.snoc (p := (an, nn, cn)) (r := (B.length, L)) hN'.out)
                have hbl8 : (B ++ t).length ≤ 255 * (k + 1) := by simp; omega
                clear h8 hg8 hA7 hIn7 hWr7 hsrc7
                go_wp2_with fail
                go_roundw
                case rel => exact ⟨k + 1, RS ++ [(B.length, L)], ps ++ [(an, nn, cn)], B ++ t, over fr f, nm', aB', cB', by omega, by go_num, by simpa using hA8, h8', hIL8, hWr8, hInv2, hCh2, hbl8, by omega, by simp; omega, hb8, hsz8⟩
                case measure => simp [intOf]; omega
              · have hchk' := Lib.hid hchk
                clear hchk
                go_wp2_with fail
                refine (wr_bad hWr.out hbN.out (by omega) hchk'.out true).mono ?_
                rintro e w4 ⟨rfl, rfl⟩
                have hcI : ¬ ((checkL L : Nat) : Int) = 0 := by have := hchk'.out; omega
                go_wp2_with fail
                refine (check_any hbN.out (by omega)).mono ?_
                rintro e w5 ⟨rfl, rfl⟩
                go_wp2_with fail
                go_roundw
                case rel => exact ⟨k + 1, RS, ps, B, f, nm, aB, cB, by omega, by go_num, hA, hIn, hInL, hWr, hInv, hCh, by omega, by omega, by omega, hb, hsz⟩
                case measure => simp [intOf]; omega
            | false =>
              by_cases hchk : checkL L = 0
              · obtain ⟨t, fr, hw⟩ : ∃ t fr, wrN B.length f false [] (fun _ => none) L = (t, fr) := ⟨_, _, rfl⟩
                obtain ⟨q1, q2, q3, q4, q5⟩ := wrN_name hInv.out false hchk hw
                have q6 := (checkL_zero hchk).2
                have q4' : rdF (B ++ t) true B.length B.length (-1) [] = some (L, ((B.length + t.length : Nat) : Int)) := by have := q4 []; rwa [List.append_nil] at this
                have hCh2 := Lib.hid (hCh.out.snoc hchk q4')
                have hInv2 := Lib.hid q5
                have hchk' := Lib.hid hchk
                have hw' := Lib.hid hw
                have q3' := Lib.hid q3
                clear hchk hw q3 q4 q4' q5
                go_wp2_with fail
                refine (wr_name3 hWr.out hsz hInv.out hbN.out hchk'.out false (by omega) (by omega) hw'.out).mono ?_
                rintro e w4 ⟨rfl, ⟨aB', cB', nm', hnm', hWr4⟩, hT4⟩
                have hsz4 : lo ≤ w4.heap.size := Nat.le_trans hsz hT4.size
                have hb4 : Below W.heap.size W w4 := hb.out.trans (hT4.below hb.out.size fun b _ hs => by
                  rcases hs with rfl | rfl | hs
                  · exact Nat.le_trans hlo1 hWr.out.low
                  · exact Nat.le_trans hlo1 hWr.out.lowm
                  · exact Nat.le_trans hlo1 (hWr.out.own.lt b hs).1)
                have hA4 := Lib.hid (hT4.own hA.out (hWr.out.apart hA.out (by decide) (by decide)))
                have hIn4 := Lib.hid (hT4.own hIn.out (hWr.out.apart hIn.out (by decide) (by decide)))
                have hb4' := Lib.hid hb4
                have hbN4 := Lib.hid (hN'.out.ext hb4)
                have hWr4' := Lib.hid hWr4
                have hck4 : w4.cell? ⟨b, o + k, none⟩ = some (.slice an nn cn) := (hb4.cell (p := ⟨b, o + k, none⟩) hblt).trans hcell'.out
                clear hWr4 hT4 hb4 hA hIn hbN hWr hInv hCh
                go_wp2_with fail
                refine (check_any hbN4.out (by omega)).mono ?_
                rw [hchk'.out]
                rintro e w5 ⟨rfl, rfl⟩
                go_wp2_with fail
                refine (wr_len hWr4'.out).mono ?_
                rintro e w5 ⟨rfl, rfl⟩
                have hlen : (B ++ t).length = B.length + t.length := by simp
                rw [hlen, Int.natCast_add]
                have hsub : (B.length : Int) + (t.length : Int) - (B.length : Int) = (t.length : Int) := by omega
                have hszL : sizeL L ≤ 1152921504606846976 := by omega
                have t1I : ¬ (t.length : Int) < 1 := by omega
                have t2I : ¬ (sizeL L : Int) < (t.length : Int) := by omega
                have t3I : (t.length : Int) ≤ 255 := by omega
                clear hlen
                go_wp2_with fail
                refine (size_any hbN4.out hszL).mono ?_
                rintro e w5 ⟨rfl, rfl⟩
                have t4I : ((t.length : Int) != (sizeL L : Int)) = false := by (have : t.length = sizeL L := q3'.out (by trivial)); rw [this]; simp
                go_wp2_with fail
                refine (size_any hbN4.out hszL).mono ?_
                rintro e w5 ⟨rfl, rfl⟩
                have k5 : Below w4.heap.size w4 (w4.alloc (.cells #[.int .i64 B.length] 3)) := (Below.refl _ _).alloc (Nat.le_refl _) _
                have hA5 := Lib.hid (hA4.out.ext k5)
                have hIn5 := Lib.hid (hIn4.out.ext k5)
                have hWr5 := Lib.hid (hWr4'.out.ext k5)
                have hsrc5 := Lib.hid ((rd_blk (E := intE) (X := [(B.length : Int)]) (Blk.new w4 3 (0, 0) #[.int .i64 B.length]) 1 rfl (by decide)).src (P := Try.prog) (tx := 54) Try.underlying54)
                have hb5 := hb4'.out.trans (k5.mono hb4'.out.size)
                have hsz5 : lo ≤ (w4.alloc (.cells #[.int .i64 B.length] 3)).heap.size := Nat.le_trans hsz4 k5.size
                generalize hW5 : w4.alloc (.cells #[.int .i64 B.length] 3) = w5 at *
                have hpsl := hps'.out
                have hpsl' : Hid (ps.length ≤ 40) := Lib.hid (by omega)
                clear k5 hA4 hIn4 hWr4' hb4' hbN4 hck4 hpsl
                go_wp2_with (at_builtin; refine app_own (E := intE) rfl (.tmp 95) (.tmp 97) 54 54 rfl Try.underlying54 hi hz0 hz1 hz2 rfl rfl hA5.out rfl hsrc5.out ?c1 ?c2 hb5.size ?_)
                case c1 => simp [maxLen]; omega
                case c2 => simp; omega
                intro v6 w6 h6 hg6 _
                have hb6 : Below W.heap.size W w6 := own_below hb5 hg6 hA5.out hb5.size (Nat.le_refl _)
                have hIn6 := Lib.hid (hIn5.out.keep (w' := w6) fun j hj => hg6.block j (hIn5.out.lt j hj).2 (fun e => own_apart hA5.out hIn5.out (by decide) j e.symm hj))
                have hWr6 := Lib.hid (hWr5.out.grown hA5.out (by decide) (by decide) hg6)
                have hsz6 : lo ≤ w6.heap.size := Nat.le_trans hsz5 hg6.size
                obtain ⟨a6, c6, e6⟩ := h6.shape
                have hl6 : ((RS.map fun r => (r.1 : Int)) ++ [(B.length : Int)]).length = RS.length + 1 := by simp
                rw [hl6] at e6
                subst e6
                have k7 : Below w6.heap.size w6 (w6.alloc (.cells #[.slice an nn cn] 25)) := (Below.refl _ _).alloc (Nat.le_refl _) _
                have hA7 := Lib.hid (h6.ext k7)
                have hIn7 := Lib.hid (hIn6.out.ext k7)
                have hWr7 := Lib.hid (hWr6.out.ext k7)
                have hsrc7 := Lib.hid ((rd_blk (E := slN) (X := [(an, nn, cn)]) (Blk.new w6 25 (0, 0) #[.slice an nn cn]) 1 rfl (by decide)).src (P := Try.prog) (tx := 52) Try.underlying52)
                have hb7 := hb6.trans (k7.mono hb6.size)
                have hsz7 : lo ≤ (w6.alloc (.cells #[.slice an nn cn] 25)).heap.size := Nat.le_trans hsz6 k7.size
                have hck6 : w6.cell? ⟨b, o + k, none⟩ = some (.slice an nn cn) := (hb6.cell (p := ⟨b, o + k, none⟩) hblt).trans hcell'.out
                generalize hW7 : w6.alloc (.cells #[.slice an nn cn] 25) = w7 at *
                clear k7 h6 hIn6 hWr6 hg6 hA5 hIn5 hWr5 hl6 hsrc5
                go_wp2_with (at_builtin; refine app_own (E := slN) rfl (.tmp 99) (.tmp 104) 52 52 rfl Try.underlying52 hi1 hz01 hz11 hz21 rfl rfl hIn7.out rfl hsrc7.out ?c1 ?c2 hb7.size ?_)
                case c1 => have := hpsl'.out; simp [maxLen]; omega
                case c2 => have := hpsl'.out; simp; omega
                intro v8 w8 h8 hg8 _
                have hb8 := Lib.hid (own_below hb7 hg8 hIn7.out hb7.size (Nat.le_refl _))
                have hA8 := Lib.hid (hA7.out.keep (w' := w8) fun j hj => hg8.block j (hA7.out.lt j hj).2 (fun e => own_apart hA7.out hIn7.out (by decide) j hj e.symm))
                have hWr8 := Lib.hid (hWr7.out.grown hIn7.out (by decide) (by decide) hg8)
                have hsz8 : lo ≤ w8.heap.size := Nat.le_trans hsz7 hg8.size
                have h8' := Lib.hid h8
                have hIL8 := Lib.hid (hInL.out.snoc (p := (an, nn, cn)) (r := (B.length, L)) hN'.out)
                have hbl8 : (B ++ t).length ≤ 255 * (k + 1) := by simp; omega
                clear h8 hg8 hA7 hIn7 hWr7 hsrc7
                go_wp2_with fail
                go_roundw
                case rel => exact ⟨k + 1, RS ++ [(B.length, L)], ps ++ [(an, nn, cn)], B ++ t, over fr f, nm', aB', cB', by omega, by go_num, by simpa using hA8, h8', hIL8, hWr8, hInv2, hCh2, hbl8, by omega, by simp; omega, hb8, hsz8⟩
                case measure => simp [intOf]; omega
              · have hchk' := Lib.hid hchk
                clear hchk
                go_wp2_with fail
                refine (wr_bad hWr.out hbN.out (by omega) hchk'.out false).mono ?_
                rintro e w4 ⟨rfl, rfl⟩
                have hcI : ¬ ((checkL L : Nat) : Int) = 0 := by have := hchk'.out; omega
                go_wp2_with fail
                refine (check_any hbN.out (by omega)).mono ?_
                rintro e w5 ⟨rfl, rfl⟩
                go_wp2_with fail
                go_roundw
                case rel => exact ⟨k + 1, RS, ps, B, f, nm, aB, cB, by omega, by go_num, hA, hIn, hInL, hWr, hInv, hCh, by omega, by omega, by omega, hb, hsz⟩
                case measure => simp [intOf]; omega
          · have hbI : ¬ (k : Int) < nb := by omega
            by_cases hchk : checkL L = 0
            · obtain ⟨t, fr, hw⟩ : ∃ t fr, wrN B.length f false [] (fun _ => none) L = (t, fr) := ⟨_, _, rfl⟩
              obtain ⟨q1, q2, q3, q4, q5⟩ := wrN_name hInv.out false hchk hw
              have q6 := (checkL_zero hchk).2
              have q4' : rdF (B ++ t) true B.length B.length (-1) [] = some (L, ((B.length + t.length : Nat) : Int)) := by have := q4 []; rwa [List.append_nil] at this
              have hCh2 := Lib.hid (hCh.out.snoc hchk q4')
              have hInv2 := Lib.hid q5
              have hchk' := Lib.hid hchk
              have hw' := Lib.hid hw
              have q3' := Lib.hid q3
              clear hchk hw q3 q4 q4' q5
              go_wp2_with fail
              refine (wr_name3 hWr.out hsz hInv.out hbN.out hchk'.out false (by omega) (by omega) hw'.out).mono ?_
              rintro e w4 ⟨rfl, ⟨aB', cB', nm', hnm', hWr4⟩, hT4⟩
              have hsz4 : lo ≤ w4.heap.size := Nat.le_trans hsz hT4.size
              have hb4 : Below W.heap.size W w4 := hb.out.trans (hT4.below hb.out.size fun b _ hs => by
                rcases hs with rfl | rfl | hs
                · exact Nat.le_trans hlo1 hWr.out.low
                · exact Nat.le_trans hlo1 hWr.out.lowm
                · exact Nat.le_trans hlo1 (hWr.out.own.lt b hs).1)
              have hA4 := Lib.hid (hT4.own hA.out (hWr.out.apart hA.out (by decide) (by decide)))
              have hIn4 := Lib.hid (hT4.own hIn.out (hWr.out.apart hIn.out (by decide) (by decide)))
              have hb4' := Lib.hid hb4
              have hbN4 := Lib.hid (hN'.out.ext hb4)
              have hWr4' := Lib.hid hWr4
              have hck4 : w4.cell? ⟨b, o + k, none⟩ = some (.slice an nn cn) := (hb4.cell (p := ⟨b, o + k, none⟩) hblt).trans hcell'.out
              clear hWr4 hT4 hb4 hA hIn hbN hWr hInv hCh
              go_wp2_with fail
              refine (check_any hbN4.out (by omega)).mono ?_
              rw [hchk'.out]
              rintro e w5 ⟨rfl, rfl⟩
              go_wp2_with fail
              refine (wr_len hWr4'.out).mono ?_
              rintro e w5 ⟨rfl, rfl⟩
              have hlen : (B ++ t).length = B.length + t.length := by simp
              rw [hlen, Int.natCast_add]
              have hsub : (B.length : Int) + (t.length : Int) - (B.length : Int) = (t.length : Int) := by omega
              have hszL : sizeL L ≤ 1152921504606846976 := by omega
              have t1I : ¬ (t.length : Int) < 1 := by omega
              have t2I : ¬ (sizeL L : Int) < (t.length : Int) := by omega
              have t3I : (t.length : Int) ≤ 255 := by omega
              clear hlen
              go_wp2_with fail
              refine (size_any hbN4.out hszL).mono ?_
              rintro e w5 ⟨rfl, rfl⟩
              have t4I : ((t.length : Int) != (sizeL L : Int)) = false := by (have : t.length = sizeL L := q3'.out (by trivial)); rw [this]; simp
              go_wp2_with fail
              refine (size_any hbN4.out hszL).mono ?_
              rintro e w5 ⟨rfl, rfl⟩
              have k5 : Below w4.heap.size w4 (w4.alloc (.cells #[.int .i64 B.length] 3)) := (Below.refl _ _).alloc (Nat.le_refl _) _
              have hA5 := Lib.hid (hA4.out.ext k5)
              have hIn5 := Lib.hid (hIn4.out.ext k5)
              have hWr5 := Lib.hid (hWr4'.out.ext k5)
              have hsrc5 := Lib.hid ((rd_blk (E := intE) (X := [(B.length : Int)]) (Blk.new w4 3 (0, 0) #[.int .i64 B.length]) 1 rfl (by decide)).src (P := Try.prog) (tx := 54) Try.underlying54)
              have hb5 := hb4'.out.trans (k5.mono hb4'.out.size)
              have hsz5 : lo ≤ (w4.alloc (.cells #[.int .i64 B.length] 3)).heap.size := Nat.le_trans hsz4 k5.size
              generalize hW5 : w4.alloc (.cells #[.int .i64 B.length] 3) = w5 at *
              have hpsl := hps'.out
              have hpsl' : Hid (ps.length ≤ 40) := Lib.hid (by omega)
              clear k5 hA4 hIn4 hWr4' hb4' hbN4 hck4 hpsl
              go_wp2_with (at_builtin; refine app_own (E := intE) rfl (.tmp 95) (.tmp 97) 54 54 rfl Try.underlying54 hi hz0 hz1 hz2 rfl rfl hA5.out rfl hsrc5.out ?c1 ?c2 hb5.size ?_)
              case c1 => simp [maxLen]; omega
              case c2 => simp; omega
              intro v6 w6 h6 hg6 _
              have hb6 : Below W.heap.size W w6 := own_below hb5 hg6 hA5.out hb5.size (Nat.le_refl _)
              have hIn6 := Lib.hid (hIn5.out.keep (w' := w6) fun j hj => hg6.block j (hIn5.out.lt j hj).2 (fun e => own_apart hA5.out hIn5.out (by decide) j e.symm hj))
              have hWr6 := Lib.hid (hWr5.out.grown hA5.out (by decide) (by decide) hg6)
              have hsz6 : lo ≤ w6.heap.size := Nat.le_trans hsz5 hg6.size
              obtain ⟨a6, c6, e6⟩ := h6.shape
              have hl6 : ((RS.map fun r => (r.1 : Int)) ++ [(B.length : Int)]).length = RS.length + 1 := by simp
              rw [hl6] at e6
              subst e6
              have k7 : Below w6.heap.size w6 (w6.alloc (.cells #[.slice an nn cn] 25)) := (Below.refl _ _).alloc (Nat.le_refl _) _
              have hA7 := Lib.hid (h6.ext k7)
              have hIn7 := Lib.hid (hIn6.out.ext k7)
              have hWr7 := Lib.hid (hWr6.out.ext k7)
              have hsrc7 := Lib.hid ((rd_blk (E := slN) (X := [(an, nn, cn)]) (Blk.new w6 25 (0, 0) #[.slice an nn cn]) 1 rfl (by decide)).src (P := Try.prog) (tx := 52) Try.underlying52)
              have hb7 := hb6.trans (k7.mono hb6.size)
              have hsz7 : lo ≤ (w6.alloc (.cells #[.slice an nn cn] 25)).heap.size := Nat.le_trans hsz6 k7.size
              have hck6 : w6.cell? ⟨b, o + k, none⟩ = some (.slice an nn cn) := (hb6.cell (p := ⟨b, o + k, none⟩) hblt).trans hcell'.out
              generalize hW7 : w6.alloc (.cells #[.slice an nn cn] 25) = w7 at *
              clear k7 h6 hIn6 hWr6 hg6 hA5 hIn5 hWr5 hl6 hsrc5
              go_wp2_with (at_builtin; refine app_own (E := slN) rfl (.tmp 99) (.tmp 104) 52 52 rfl Try.underlying52 hi1 hz01 hz11 hz21 rfl rfl hIn7.out rfl hsrc7.out ?c1 ?c2 hb7.size ?_)
              case c1 => have := hpsl'.out; simp [maxLen]; omega
              case c2 => have := hpsl'.out; simp; omega
              intro v8 w8 h8 hg8 _
              have hb8 := Lib.hid (own_below hb7 hg8 hIn7.out hb7.size (Nat.le_refl _))
              have hA8 := Lib.hid (hA7.out.keep (w' := w8) fun j hj => hg8.block j (hA7.out.lt j hj).2 (fun e => own_apart hA7.out hIn7.out (by decide) j hj e.symm))
              have hWr8 := Lib.hid (hWr7.out.grown hIn7.out (by decide) (by decide) hg8)
              have hsz8 : lo ≤ w8.heap.size := Nat.le_trans hsz7 hg8.size
              have h8' := Lib.hid h8
              have hIL8 := Lib.hid (hInL.out.snoc (p := (an, nn, cn)) (r := (B.length, L)) hN'.out)
              have hbl8 : (B ++ t).length ≤ 255 * (k + 1) := by simp; omega
              clear h8 hg8 hA7 hIn7 hWr7 hsrc7
              go_wp2_with fail
              go_roundw
              case rel => exact ⟨k + 1, RS ++ [(B.length, L)], ps ++ [(an, nn, cn)], B ++ t, over fr f, nm', aB', cB', by omega, by go_num, by simpa using hA8, h8', hIL8, hWr8, hInv2, hCh2, hbl8, by omega, by simp; omega, hb8, hsz8⟩
              case measure => simp [intOf]; omega
            · have hchk' := Lib.hid hchk
              clear hchk
              go_wp2_with fail
              refine (wr_bad hWr.out hbN.out (by omega) hchk'.out false).mono ?_
              rintro e w4 ⟨rfl, rfl⟩
              have hcI : ¬ ((checkL L : Nat) : Int) = 0 := by have := hchk'.out; omega
              go_wp2_with fail
              refine (check_any hbN.out (by omega)).mono ?_
              rintro e w5 ⟨rfl, rfl⟩
              go_wp2_with fail
              go_roundw
              case rel => exact ⟨k + 1, RS, ps, B, f, nm, aB, cB, by omega, by go_num, hA, hIn, hInL, hWr, hInv, hCh, by omega, by omega, by omega, hb, hsz⟩
              case measure => simp [intOf]; omega
        · have hn130I : (130 : Int) < nn := by omega
          go_wp2_with fail
          go_ret
          exact ⟨rfl, hb.out⟩
      · have hkn : k = n := by omega
        subst hkn
        have hBlI : B.length ≤ 10200 := by omega
        have hRS40 : RS.length ≤ 40 := by omega
        clear hH hbs' hBl hnm hRS
        go_wp2_with fail
        refine (wr_all hWr.out (by omega)).mono ?_
        rintro e w4 ⟨⟨v14, rfl, ho4⟩, hb4⟩
        obtain ⟨a4, c4, rfl, hr4⟩ := ho4.rd
        obtain ⟨aA, cA, eA, hrA⟩ := (hA.out.ext hb4).rd
        obtain ⟨aI, cI, eI, hrI⟩ := (hIn.out.ext hb4).rd
        rw [List.length_map] at eA hrA
        rw [hps'.out] at eI hrI
        cases eA
        cases eI
        have hWr4 := Lib.hid (hWr.out.ext hb4)
        have hb4' := Lib.hid (hb.out.trans (hb4.mono hb.out.size))
        have hr4' := Lib.hid hr4
        have hrA' := Lib.hid hrA
        have hrI' := Lib.hid hrI
        clear ho4 hb4 hr4 hrA hrI hA hIn hWr hb
        go_wp2_with fail
        go_loopw [15] (fun i wr => ∃ (j : Nat), j ≤ RS.length ∧ i = .int .i64 j ∧ Hid (Below w4.heap.size w4 wr)) (fun i _ => RS.length - (intOf i).toNat)
        case atStart => exact ⟨0, Nat.zero_le _, rfl, Lib.hid (Below.refl _ _)⟩
        case round =>
          obtain ⟨j, hj, rfl, hbq⟩ := hrel
          by_cases hjl : j < RS.length
          · obtain ⟨b7, o7, rfl, hc7⟩ := rd_num hrA'.out (by omega)
            obtain ⟨b8, o8, rfl, hc8⟩ := rd_sl hrI'.out (by omega)
            have cA := hc7 j (by simp; omega)
            have cI := hc8 j (by have := hps'.out; omega)
            simp only [List.getElem_map] at cA
            obtain ⟨q1, q2, q3⟩ := hCh.out j _ (List.getElem?_eq_getElem hjl)
            have q4 := hInL.out.2 j _ _ (List.getElem?_eq_getElem (by have := hps'.out; omega)) (List.getElem?_eq_getElem hjl)
            have hE : (RS.map (·.1))[j + 1]?.getD B.length = if h : j + 1 < RS.length then RS[j + 1].1 else B.length := by
              split
              · rw [List.getElem?_eq_getElem (by simpa using ‹_›)]; simp
              · rw [List.getElem?_eq_none (by simp; omega)]; rfl
            have lt7 := World.block_lt_of_cell? w4 _ cA
            have lt8 := World.block_lt_of_cell? w4 _ cI
            have cAq : wr.cell? ⟨b7, o7 + j, none⟩ = some (.int .i64 (RS[j].1 : Nat)) := (hbq.out.cell (p := ⟨b7, o7 + j, none⟩) lt7).trans cA
            have cI' := Lib.hid cI
            have q3' := Lib.hid q3
            have q4' := Lib.hid q4
            have hc7' := Lib.hid hc7
            generalize RS[j].1 = p0 at q1 q3' cAq
            generalize RS[j].2 = L at q2 q3' q4'
            generalize ps[j]'(by have := hps'.out; omega) = pp at cI' q4'
            obtain ⟨ap, np, cp⟩ := pp
            have hr4q := Lib.hid (hr4'.out.ext hbq.out)
            clear cA cI q3 q4 hc7 hc8 q2
            by_cases hj1 : j + 1 < RS.length
            · rw [dif_pos hj1] at hE
              have hjI : (j : Int) + 1 < RS.length := by omega
              have cB := hc7'.out (j + 1) (by simpa using hj1)
              simp only [List.getElem_map] at cB
              rw [← hE] at cB
              have cB' := Lib.hid cB
              clear cB
              generalize hEE : (RS.map (·.1))[j + 1]?.getD B.length = E at *
              have hE' := Lib.hid hE
              have hEE' := Lib.hid hEE
              clear hE hEE
              go_wp2_with fail
              refine (prog_rd hr4q.out (by omega) p0 q1 true).mono ?_
              rintro e w5 ⟨ho5, hb5⟩
              rw [q3'.out] at ho5
              obtain ⟨v5, rfl, ho5⟩ := ho5
              obtain ⟨a5, c5, rfl, hr5⟩ := ho5.rd
              have hb45 := hbq.out.trans (hb5.mono hbq.out.size)
              have hbW5 := hb4'.out.trans (hb45.mono hb4'.out.size)
              have hN5 := Lib.hid (q4'.out.ext hbW5)
              have cI5 : w5.cell? ⟨b8, o8 + j, none⟩ = some (.slice ap np cp) := (hb45.cell (p := ⟨b8, o8 + j, none⟩) lt8).trans cI'.out
              have cB5 : w5.cell? ⟨b7, o7 + (j + 1), none⟩ = some (.int .i64 (E : Nat)) := (hb45.cell (p := ⟨b7, o7 + (j + 1), none⟩) lt7).trans cB'.out
              have hr5' := Lib.hid hr5
              have hb45' := Lib.hid hb45
              clear ho5 hb5 hr5 hb45 hbW5 hr4q
              go_wp2_with fail
              refine (same_name hr5'.out hN5.out).mono ?_
              rw [beq_self_eq_true]
              rintro e w6 ⟨rfl, hb6⟩
              have hb46 := Lib.hid (hb45'.out.trans (hb6.mono hb45'.out.size))
              clear hb6
              go_wp2_with fail
              go_roundw
              case rel => exact ⟨j + 1, by omega, by go_num, hb46⟩
              case measure => simp [intOf]; omega
            · rw [dif_neg hj1] at hE
              have hjI : ¬ (j : Int) + 1 < RS.length := by omega
              generalize hEE : (RS.map (·.1))[j + 1]?.getD B.length = E at *
              have hE' := Lib.hid hE
              have hEE' := Lib.hid hEE
              clear hE hEE
              go_wp2_with fail
              refine (prog_rd hr4q.out (by omega) p0 q1 true).mono ?_
              rintro e w5 ⟨ho5, hb5⟩
              rw [q3'.out] at ho5
              obtain ⟨v5, rfl, ho5⟩ := ho5
              obtain ⟨a5, c5, rfl, hr5⟩ := ho5.rd
              have hb45 := hbq.out.trans (hb5.mono hbq.out.size)
              have hbW5 := hb4'.out.trans (hb45.mono hb4'.out.size)
              have hN5 := Lib.hid (q4'.out.ext hbW5)
              have cI5 : w5.cell? ⟨b8, o8 + j, none⟩ = some (.slice ap np cp) := (hb45.cell (p := ⟨b8, o8 + j, none⟩) lt8).trans cI'.out
              have hEB := hE'.out
              subst hEB
              have hr5' := Lib.hid hr5
              have hb45' := Lib.hid hb45
              clear ho5 hb5 hr5 hb45 hbW5 hr4q
              go_wp2_with fail
              refine (same_name hr5'.out hN5.out).mono ?_
              rw [beq_self_eq_true]
              rintro e w6 ⟨rfl, hb6⟩
              have hb46 := Lib.hid (hb45'.out.trans (hb6.mono hb45'.out.size))
              clear hb6
              go_wp2_with fail
              go_roundw
              case rel => exact ⟨j + 1, by omega, by go_num, hb46⟩
              case measure => simp [intOf]; omega
          · have hjl' : j = RS.length := by omega
            subst hjl'
            have hWrq := Lib.hid (hWr4.out.ext hbq.out)
            have hbe := Lib.hid (hb4'.out.trans (hbq.out.mono hb4'.out.size))
            go_wp2_with fail
            refine (wr_len hWrq.out).mono ?_
            rintro e w6 ⟨rfl, rfl⟩
            go_wp2_with fail
            go_ret
            exact ⟨rfl, hbe.out⟩
  · have h40I : (40 : Int) < n := by omega
    go_enter Try.func6, Try.ntmps6
    go_wp2_with fail
    refine (awake_any W).mono ?_
    rintro e w1 ⟨rfl, hb1⟩
    have hb1' := Lib.hid hb1
    clear hb1
    go_wp2_with fail
    go_ret
    exact ⟨rfl, hb1'.out⟩
open Go.ChangeShapes Go.WideShapes in
theorem squeezeBack_law {H : Type} {enc : TypeId × Value → H} {W : World} {r : Reach} {b0 : Nat} {S S' : Prop} (v0 : Value) (d0 : DataW H) (p0 : List MemPlace) (h0 : DataW.Trod enc Try.prog W 0 (fun _ => true) true 52 v0 d0 p0) (hv0 : Value.okWide Try.prog W r b0 52 v0) (_ : S)
    (v1 : Value) (d1 : DataW H) (p1 : List MemPlace) (h1 : DataW.Trod enc Try.prog W 0 (fun _ => true) true 53 v1 d1 p1) (hv1 : Value.okWide Try.prog W r b0 53 v1) (_ : S') (_ : World) :
    Calls Try.prog 6 #[v0, v1] W fun e w' => e = .returned (.bool true) ∧ Below W.heap.size W w' := by
  obtain ⟨a, n, c, NS, rfl, hN⟩ := open_names hv0 h0
  obtain ⟨ab, nb, cb, rfl, hnb, hbs⟩ := open_bools hv1 h1
  exact squeezeBack_walk hN hnb hbs
end Go.Proofs.Ytndpebhhgicooaa
