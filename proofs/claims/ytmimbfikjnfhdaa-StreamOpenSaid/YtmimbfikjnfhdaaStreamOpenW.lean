/- StreamOpen: the walk. -/
import Derived.Test.YtmimbfikjnfhdaaStP
import Derived.Test.YtmimbfikjnfhdaaStF
import Derived.Test.YtmimbfikjnfhdaaOpenL
namespace Go.Proofs.Ytmimbfikjnfhdaa
open Go.RowKit
set_option maxHeartbeats 16000000 in
set_option maxRecDepth 100000 in
theorem streamOpen_walk {W : World} {a a' : Option Addr} {n c n' c' : Nat} {I O : List Int} (h : Rd idE W a n c I) (hI : ∀ x ∈ I, (Lit.int .u16 x).wf = true) (h' : Rd intE W a' n' c' O) :
    Calls Try.prog 8 #[.slice a n c, .slice a' n' c'] W fun e w' => e = .returned (.bool true) ∧ Below W.heap.size W w' := by
  have hmm := @run_makeMap Try.prog
  have hl := h.len
  have hl' := h'.len
  have hH := Lib.hid h
  have hH' := Lib.hid h'
  have hI' := Lib.hid hI
  clear h h' hI
  by_cases h60 : 60 < n
  · have hI : (60 : Int) < n := by omega
    go_enter Try.func8, Try.ntmps8
    go_wp2_with (go_at_call 32; refine (awake_any _).mono ?_; rintro e w1 ⟨rfl, k1⟩)
    go_ret
    exact ⟨rfl, k1⟩
  have hI1 : ¬ ((60 : Int) < n) := by omega
  by_cases h120 : 120 < n'
  · have hI : (120 : Int) < n' := by omega
    go_enter Try.func8, Try.ntmps8
    go_wp2_with (go_at_call 32; refine (awake_any _).mono ?_; rintro e w1 ⟨rfl, k1⟩)
    go_ret
    exact ⟨rfl, k1⟩
  have hI2 : ¬ ((120 : Int) < n') := by omega
  go_enter Try.func8, Try.ntmps8
  go_wp2_with (go_at_call 32; refine (awake_any _).mono ?_; rintro e w1 ⟨rfl, k1⟩)
  refine (pnew_yes w1 64 (by omega) (by omega)).mono ?_
  rintro e w2 ⟨rfl, hP2, k2⟩
  have hP2' := Lib.hid hP2
  have hs2 := hP2.lt.1
  have hs1 := k1.size
  clear hP2
  go_wp2_with fail
  have kM : Below w2.heap.size w2 (w2.alloc (.map #[] 0)) := (Below.refl _ _).alloc (Nat.le_refl _) _
  have hPr : Hid (Pr (w2.alloc (.map #[] 0)) w1.heap.size w2.heap.size [] 0) := Lib.hid (by
    refine ⟨none, hP2'.out.ext kM, (MpZ.made KU 3 .i64 w2).eq (fun _ _ => rfl), fun k hk => ?_, by omega, by simp⟩
    rcases hk with h | h | h
    · subst h; simp; omega
    · subst h; simp; omega
    · cases h)
  have hbM : Below w1.heap.size w1 (w2.alloc (.map #[] 0)) := k2.trans (kM.mono (by omega))
  clear kM k2 hP2'
  generalize w2.alloc (.map #[] 0) = w3 at *
  generalize hkm : w2.heap.size = km at *
  go_loopw [9] (fun i wr => ∃ (k : Nat) (L : List (Int × Int)), k ≤ n ∧ i = .int .i64 k ∧ Hid (Pr wr w1.heap.size km L k) ∧ Hid (goodP L) ∧ L.length ≤ k ∧ Below w1.heap.size w1 wr)
    (fun i _ => n - (intOf i).toNat)
  case atStart => exact ⟨0, [], Nat.zero_le _, rfl, hPr, Lib.hid ⟨by simp, fun p hp => by cases hp⟩, Nat.le_refl _, hbM⟩
  case round =>
    clear hPr hbM
    obtain ⟨k, L, hk, rfl, hP, hg, hLk, hb⟩ := hrel
    by_cases hlt : k < n
    · have hkI : (k : Int) < n := by omega
      obtain ⟨b, o, e1, hc⟩ := rd_id hH.out (by omega)
      subst e1
      have hc0 := hc k (by omega)
      have hbl : b < W.heap.size := World.block_lt_of_cell? W _ hc0
      have hxw := hI'.out (I[k]'(by omega)) (List.getElem_mem _)
      have hcell : wr.cell? ⟨b, o + k, none⟩ = some (.int .u16 (I[k]'(by omega))) := (hb.cell (p := ⟨b, o + k, none⟩) (Nat.lt_of_lt_of_le hbl hs1)).trans ((k1.cell (p := ⟨b, o + k, none⟩) hbl).trans hc0)
      clear hc hc0
      generalize I[k]'(by omega) = x at *
      obtain ⟨ob, hPP, hM, hd, h4, h5⟩ := hP.out
      have hkw : (Lit.int .i64 (k : Int)).wf = true := by simp [Lit.wf, IntKind.min, IntKind.max, IntKind.signed, IntKind.bits]; omega
      rcases hv0 : lookI L x with _ | v
      · have hv := Lib.hid hv0
        have hlk : (Instr.lookup 65 (.map (some km)) (.int .u16 x) true).run Try.prog wr = .ok (.tuple #[.int .i64 0, .bool false]) wr := by
          have := hM.mp.lookOk (t := 65) Try.underlying65 Try.underlying3 (zero3 wr) (x := x) hxw
          rw [hv0] at this
          exact this
        have hP' := Lib.hid hPP
        have hM' := Lib.hid hM
        have hd' := Lib.hid hd
        clear hv0 hPP hM hd hP
        go_wp2_with fail
        refine (popen_ok hP'.out hxw hkw hv.out (by omega) (by omega) (by omega)).mono ?_
        rintro e w4 ⟨rfl, o', hP4, hn4, t4⟩
        have hM4 := hM'.out.tch t4 (fun e => (hd'.out km e).1 rfl)
        obtain ⟨w5, hst, hM5, hg5, _⟩ := hM4.store (t := 65) Try.underlying65 Try.underlying3 (by unfold maxLen; omega) (x := x) hxw hv.out hkw
        replace hst : (Instr.mapUpdate 65 (.map (some km)) (.int .u16 x) (.int .i64 k)).run Try.prog w4 = .ok () w5 := hst
        obtain ⟨hPr5, hb5⟩ := pr_opened hd'.out h4 h5 hv.out hP4 hn4 t4 hM5 hg5
        have hb4 : Below w1.heap.size wr w4 := t4.below (by omega) (fun b _ hb => (hd'.out b hb).2.1)
        have hcell4 : w4.cell? ⟨b, o + k, none⟩ = some (.int .u16 x) := (hb4.cell (p := ⟨b, o + k, none⟩) (Nat.lt_of_lt_of_le hbl hs1)).trans hcell
        have hPr5' := Lib.hid hPr5
        clear hPr5 hP4 hM4 hM5 hg5 hn4
        go_wp2_with fail
        go_roundw
        case rel => exact ⟨k + 1, _, by omega, by go_num, hPr5', Lib.hid (goodP_snoc hg.out hv.out ⟨hxw, hkw⟩), by simp; omega, hb.trans hb5⟩
        case measure => simp [intOf]; omega
      · have hv := Lib.hid hv0
        have hlk : (Instr.lookup 65 (.map (some km)) (.int .u16 x) true).run Try.prog wr = .ok (.tuple #[.int .i64 v, .bool true]) wr := by
          have := hM.mp.lookOk (t := 65) Try.underlying65 Try.underlying3 (zero3 wr) (x := x) hxw
          rw [hv0] at this
          exact this
        have hP' := Lib.hid hPP
        clear hv0 hPP hM hd
        go_wp2_with fail
        refine (popen_there hP'.out hxw hv.out).mono ?_
        rintro e w4 ⟨rfl, rfl⟩
        go_wp2_with fail
        go_roundw
        case rel => exact ⟨k + 1, L, by omega, by go_num, Lib.hid (by obtain ⟨o9, q1, q2, q3⟩ := hP.out; exact ⟨o9, q1.more (by omega), q2.mono (by omega), q3⟩), hg, by omega, hb⟩
        case measure => simp [intOf]; omega
    · have hk' : k = n := by omega
      subst hk'
      have hnI : (k : Int) ≤ 60 := by omega
      go_wp2_with fail
      obtain ⟨w6, hw6⟩ : ∃ w6, w6 = wr := ⟨_, rfl⟩
      clear hw6
      go_loopw [13] (fun j wr => ∃ (j' : Nat) (L2 : List (Int × Int)), j' ≤ n' ∧ j = .int .i64 j' ∧ Hid (Pr wr w1.heap.size km L2 k) ∧ Hid (goodP L2) ∧ L2.length ≤ k ∧ Below w1.heap.size w1 wr)
        (fun j _ => n' - (intOf j).toNat)
      case atStart => exact ⟨0, L, Nat.zero_le _, rfl, hP, hg, hLk, hb⟩
      case round =>
        clear hP hg hLk hb
        obtain ⟨j, L2, hj, rfl, hP, hg, hLk, hb⟩ := hrel
        by_cases hjl : j < n'
        · have hjI : (j : Int) < n' := by omega
          by_cases hk0 : 0 < k
          · have hk0I : 0 < (k : Int) := by omega
            obtain ⟨b', o', e1, _, hc'⟩ := hH'.out.addr (by omega)
            obtain ⟨b, o, e2, hc⟩ := rd_id hH.out hk0
            subst e1 e2
            have hy0 : W.cell? ⟨b', o' + j, none⟩ = some (.int .i64 (O[j]'(by omega))) := by simpa [intE] using hc' j (by omega) 0 (by decide)
            have hbl' : b' < W.heap.size := World.block_lt_of_cell? W _ hy0
            have hy : wr.cell? ⟨b', o' + j, none⟩ = some (.int .i64 (O[j]'(by omega))) := (hb.cell (p := ⟨b', o' + j, none⟩) (Nat.lt_of_lt_of_le hbl' hs1)).trans ((k1.cell (p := ⟨b', o' + j, none⟩) hbl').trans hy0)
            clear hc' hy0
            generalize O[j]'(by omega) = y at *
            obtain ⟨s, hs⟩ : ∃ s : Nat, y % (k : Int) = s := ⟨(y % (k : Int)).toNat, by have := Int.emod_nonneg y (b := (k : Int)) (by omega); omega⟩
            have hsk : s < k := by have := Int.emod_lt_of_pos y (b := (k : Int)) (by omega); omega
            have hsI : (s : Int) < k := by omega
            have hc0 := hc s (by omega)
            have hbl : b < W.heap.size := World.block_lt_of_cell? W _ hc0
            have hxw := hI'.out (I[s]'(by omega)) (List.getElem_mem _)
            have hcell : wr.cell? ⟨b, o + s, none⟩ = some (.int .u16 (I[s]'(by omega))) := (hb.cell (p := ⟨b, o + s, none⟩) (Nat.lt_of_lt_of_le hbl hs1)).trans ((k1.cell (p := ⟨b, o + s, none⟩) hbl).trans hc0)
            clear hc hc0
            generalize I[s]'(by omega) = x at *
            have hs' := Lib.hid hs
            clear hs
            obtain ⟨ob, hPP, hM, hd, h4, h5⟩ := hP.out
            rcases hv0 : lookI L2 x with _ | v
            · have hv := Lib.hid hv0
              have hlk : (Instr.lookup 65 (.map (some km)) (.int .u16 x) true).run Try.prog wr = .ok (.tuple #[.int .i64 0, .bool false]) wr := by
                have := hM.mp.lookOk (t := 65) Try.underlying65 Try.underlying3 (zero3 wr) (x := x) hxw
                rw [hv0] at this
                exact this
              have hP' := Lib.hid hPP
              have hM' := Lib.hid hM
              have hd' := Lib.hid hd
              clear hv0 hPP hM hd hP
              go_wp2_with fail
              refine (pick_any y k _ (by omega) (by omega)).mono ?_
              rw [hs'.out]
              rintro e w3 ⟨rfl, rfl⟩
              go_wp2_with fail
              refine (pclose_no hP'.out hxw hv.out).mono ?_
              rintro e w4 ⟨rfl, kb4⟩
              have t4 : Tch (fp w1.heap.size ob) wr w4 := Tch.of_below kb4
              have hM4 := hM'.out.tch t4 (fun e => (hd'.out km e).1 rfl)
              obtain ⟨w5, hst, hM5, hg5, _⟩ := hM4.drop (t := 65) Try.underlying65 0 (x := x) hxw
              replace hst : (Builtin.delete_ #[65, 30] 0 #[.map (some km), .int .u16 x]).run Try.prog w4 = .ok (.tuple #[]) w5 := hst
              obtain ⟨hPr5, hb5⟩ := pr_closed hd'.out h4 h5 (by rw [hv.out]; rfl) (drop_none hv.out).symm (hP'.out.ext kb4) t4 hM5 hg5
              have hPr5' := Lib.hid hPr5
              clear hPr5 hM4 hM5 hg5
              go_wp2_with fail
              go_roundw
              case rel => exact ⟨j + 1, L2, by omega, by go_num, hPr5', hg, hLk, hb.trans hb5⟩
              case measure => simp [intOf]; omega
            · have hv := Lib.hid hv0
              have hlk : (Instr.lookup 65 (.map (some km)) (.int .u16 x) true).run Try.prog wr = .ok (.tuple #[.int .i64 v, .bool true]) wr := by
                have := hM.mp.lookOk (t := 65) Try.underlying65 Try.underlying3 (zero3 wr) (x := x) hxw
                rw [hv0] at this
                exact this
              have hP' := Lib.hid hPP
              have hM' := Lib.hid hM
              have hd' := Lib.hid hd
              clear hv0 hPP hM hd hP
              go_wp2_with fail
              refine (pick_any y k _ (by omega) (by omega)).mono ?_
              rw [hs'.out]
              rintro e w3 ⟨rfl, rfl⟩
              go_wp2_with fail
              refine (pclose_yes hP'.out hxw hv.out (by omega)).mono ?_
              rintro e w4 ⟨rfl, hP4, t4⟩
              have hM4 := hM'.out.tch t4 (fun e => (hd'.out km e).1 rfl)
              obtain ⟨w5, hst, hM5, hg5, _⟩ := hM4.drop (t := 65) Try.underlying65 0 (x := x) hxw
              replace hst : (Builtin.delete_ #[65, 30] 0 #[.map (some km), .int .u16 x]).run Try.prog w4 = .ok (.tuple #[]) w5 := hst
              obtain ⟨hPr5, hb5⟩ := pr_closed hd'.out h4 h5 (by rw [hv.out, drop_some hg.out.1 hv.out]; rfl) rfl hP4 t4 hM5 hg5
              have hPr5' := Lib.hid hPr5
              clear hPr5 hM4 hM5 hg5 hP4
              go_wp2_with fail
              go_roundw
              case rel => exact ⟨j + 1, _, by omega, by go_num, hPr5', Lib.hid (goodP_drop hg.out x), by have := drop_len L2 x; omega, hb.trans hb5⟩
              case measure => simp [intOf]; omega
          · have hk0I : ¬ (0 < (k : Int)) := by omega
            obtain ⟨ob, hPP, hM, hd, h4, h5⟩ := hP.out
            have hP' := Lib.hid hPP
            have hM' := Lib.hid hM
            clear hPP hM hd
            go_wp2_with fail
            refine (pkeys hP'.out hg.out (by omega)).mono ?_
            rintro e w4 ⟨⟨v4, rfl, hO4⟩, kb4⟩
            obtain ⟨a4, c4, e4⟩ := hO4.shape
            rw [kys_length] at e4
            subst e4
            have hlen := (hM'.out.keep (kb4.block km h5)).len (t := 65) Try.underlying65 3
            have hz := h5
            clear hO4
            go_wp2_with fail
            go_ret
            exact ⟨rfl, k1.trans ((hb.trans (kb4.mono (by omega))).mono hs1)⟩
        · have hjI : ¬ ((j : Int) < n') := by omega
          obtain ⟨ob, hPP, hM, hd, h4, h5⟩ := hP.out
          have hP' := Lib.hid hPP
          have hM' := Lib.hid hM
          clear hPP hM hd
          go_wp2_with fail
          refine (pkeys hP'.out hg.out (by omega)).mono ?_
          rintro e w4 ⟨⟨v4, rfl, hO4⟩, kb4⟩
          obtain ⟨a4, c4, e4⟩ := hO4.shape
          rw [kys_length] at e4
          subst e4
          have hlen := (hM'.out.keep (kb4.block km h5)).len (t := 65) Try.underlying65 3
          have hz := h5
          clear hO4
          go_wp2_with fail
          go_ret
          exact ⟨rfl, k1.trans ((hb.trans (kb4.mono (by omega))).mono hs1)⟩
section
open Go.ChangeShapes Go.WideShapes
theorem open_ids {H : Type} {enc : TypeId × Value → H} {w : World} {t : TypeId} {v : Value} {d : DataW H} {p : List MemPlace} {r : Reach} {b0 : Nat} (ht : Try.prog.underlying t = some (.slice 30)) (hv : Value.okWide Try.prog w r b0 t v)
    (h : DataW.Trod enc Try.prog w 0 (fun _ => true) true t v d p) : ∃ a n c l, v = .slice a n c ∧ Rd idE w a n c l ∧ ∀ z ∈ l, (Lit.int .u16 z).wf = true := by
  obtain ⟨a0, n0, c0, rfl⟩ := okWide_slice ht hv
  obtain ⟨fuel, hf⟩ := h
  rcases open_ints ht Try.underlying30 (by kernel_rfl) hf with ⟨hcs, _⟩ | ⟨x, len, cap, zs, hcs, _, hl, hm, hz, hx, hcell, hwz⟩
  · simp [Value.cells] at hcs
    obtain ⟨rfl, rfl, rfl⟩ := hcs
    exact ⟨none, 0, 0, [], rfl, Rd.nil _ _, fun z hz => by cases hz⟩
  · simp [Value.cells] at hcs
    obtain ⟨rfl, rfl, rfl⟩ := hcs
    have hz' : zs.length = c0 := by simpa using hz
    have hmem : ∀ i, i < c0 → zs.getD i 0 ∈ zs := fun i hi => by
      rw [List.getD_eq_getElem?_getD, List.getElem?_eq_getElem (by omega : i < zs.length)]
      exact List.getElem_mem _
    refine ⟨_, n0, c0, _, rfl, rd_of (E := idE) rfl (g := fun i => zs.getD i 0) (f := fun c => .int .u16 c) (fun _ => rfl) (m := c0) hl hl hm (fun i hi => hcell i (by omega)), ?_⟩
    intro s hs
    simp only [List.mem_map, List.mem_range] at hs
    obtain ⟨j, hj, rfl⟩ := hs
    exact hwz _ (hmem j (by omega))
theorem streamOpen_law {H : Type} {enc : TypeId × Value → H} {W : World} {ts : List TypeId} {ds : List (DataW H)} (v : Value) (d : DataW H) (p : List MemPlace) (h1 : DataW.Trod enc Try.prog W 0 (fun _ => true) true 66 v d p) {r : Reach} {b0 : Nat} (hv : Value.okWide Try.prog W r b0 66 v) (_ : (DataW.weightsEach Try.prog ts ds).all (· ≤ reachBytes) = true)
    (v' : Value) (d' : DataW H) (p' : List MemPlace) (h1' : DataW.Trod enc Try.prog W 0 (fun _ => true) true 36 v' d' p') {r' : Reach} {b0' : Nat} (hv' : Value.okWide Try.prog W r' b0' 36 v') (_ : (DataW.weightsEach Try.prog ts ds).all (· ≤ reachBytes) = true) (_ : World) :
    Calls Try.prog 8 #[v, v'] W fun e w' => e = .returned (.bool true) ∧ Below W.heap.size W w' := by
  obtain ⟨a, n, c, I, rfl, hX, hI⟩ := open_ids Try.underlying66 hv h1
  obtain ⟨a', n', c', CS, rfl, hC, _⟩ := open_nums Try.underlying36 hv' h1'
  exact streamOpen_walk hX hI hC
end
end Go.Proofs.Ytmimbfikjnfhdaa
