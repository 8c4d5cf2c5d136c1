/- StreamCuts: the walk. -/
import Derived.Test.YtmimbfikjnfhdaaStG
import Derived.Test.YtmimbfikjnfhdaaOpenL
namespace Go.Proofs.Ytmimbfikjnfhdaa
open Go.RowKit
theorem own_ne {w : World} {B B' : Nat} {v v' : Value} {l : List UInt8} {l' : List (Option Addr × Nat × Nat)} (h : Own byteE w B v l) (h' : Own slE w B' v' l') : ∀ k, v'.ownBlock = some k → some k ≠ v.ownBlock := by
  intro k hk e
  rcases h with ⟨rfl, _⟩ | ⟨g, cap, X, rfl, _, hB, _⟩
  · simp [Value.ownBlock] at e
  · rcases h' with ⟨rfl, _⟩ | ⟨g', cap', X', rfl, _, hB', _⟩
    · simp [Value.ownBlock] at hk
    · simp [Value.ownBlock] at e hk
      subst hk
      subst e
      unfold Blk at hB hB'
      have h3 := hB.symm.trans hB'
      simp [byteE, slE] at h3
/-- the messages that are wanted: slices of the caller's -/
def WantL (W w : World) (base : Nat) (v : Value) (M : List (List UInt8)) : Prop :=
  ∃ ps : List (Option Addr × Nat × Nat), Own slE w base v ps ∧ ps.length = M.length ∧ ∀ (j : Nat) (p : Option Addr × Nat × Nat) (X : List UInt8), ps[j]? = some p → M[j]? = some X → Rd byteE W p.1 p.2.1 p.2.2 X
theorem WantL.shape {W w : World} {base : Nat} {v : Value} {M : List (List UInt8)} (h : WantL W w base v M) : ∃ a c, v = .slice a M.length c := by
  obtain ⟨ps, h1, h2, _⟩ := h
  obtain ⟨a, c, e⟩ := h1.shape
  exact ⟨a, c, by rw [← h2]; exact e⟩
theorem WantL.keep {W w w' : World} {base : Nat} {v : Value} {M : List (List UInt8)} (h : WantL W w base v M) (hk : ∀ k, v.ownBlock = some k → w'.heap[k]? = w.heap[k]?) : WantL W w' base v M := by
  obtain ⟨ps, h1, h2, h3⟩ := h
  exact ⟨ps, h1.keep hk, h2, h3⟩
theorem WantL.rdL {W w : World} {base : Nat} {a : Option Addr} {n c : Nat} {M : List (List UInt8)} (h : WantL W w base (.slice a n c) M) (hb : Below W.heap.size W w) : RdL w a n c M := by
  obtain ⟨ps, h1, h2, h3⟩ := h
  obtain ⟨a', c', e, r⟩ := h1.rd
  cases e
  exact ⟨ps, r, h2, fun j p X hp hX => (h3 j p X hp hX).ext hb⟩
theorem WantL.snoc {W w : World} {base : Nat} {v : Value} {M : List (List UInt8)} {ps : List (Option Addr × Nat × Nat)} {p : Option Addr × Nat × Nat} {X : List UInt8} (h1 : Own slE w base v (ps ++ [p])) (h2 : ps.length = M.length)
    (h3 : ∀ (j : Nat) (p : Option Addr × Nat × Nat) (X : List UInt8), ps[j]? = some p → M[j]? = some X → Rd byteE W p.1 p.2.1 p.2.2 X) (hr : Rd byteE W p.1 p.2.1 p.2.2 X) : WantL W w base v (M ++ [X]) := by
  refine ⟨ps ++ [p], h1, by simp [h2], fun j q Y hq hY => ?_⟩
  rw [List.getElem?_append] at hq hY
  by_cases hj : j < ps.length
  · rw [if_pos hj] at hq
    rw [if_pos (by omega)] at hY
    exact h3 j q Y hq hY
  · rw [if_neg hj] at hq
    rw [if_neg (by omega), ← h2] at hY
    obtain ⟨m, hm⟩ : ∃ m, j - ps.length = m := ⟨_, rfl⟩
    rw [hm] at hq hY
    cases m with
    | succ m => simp at hq
    | zero =>
      simp only [List.getElem?_cons_zero, Option.some.injEq] at hq hY
      subst hq
      subst hY
      exact hr
theorem frames_cnt (n : Nat) : ∀ (x r : List UInt8) (O : List (List UInt8)) (b : Bool), x.length ≤ n → frames x = (O, r, b) → 14 * O.length ≤ x.length := by
  induction n with
  | zero =>
    intro x r O b hx h
    have : x = [] := List.length_eq_zero_iff.1 (by omega)
    subst this
    rw [frames_nil] at h
    cases h
    simp
  | succ n ih =>
    intro x r O b hx h
    by_cases h2 : 2 ≤ x.length
    · by_cases h12 : numL (x.take 2) < 12
      · rw [frames_bad h2 h12] at h; cases h; simp
      · by_cases hw : x.length < 2 + numL (x.take 2)
        · rw [frames_wait h2 (by omega) hw] at h
          cases h
          simp
        · rw [frames_one h2 (by omega) (by omega)] at h
          generalize numL (x.take 2) = N at *
          obtain ⟨O', r', b', hF⟩ : ∃ O' r' b', frames (x.drop (2 + N)) = (O', r', b') := ⟨_, _, _, rfl⟩
          rw [hF] at h
          simp only [Prod.mk.injEq] at h
          obtain ⟨rfl, rfl, rfl⟩ := h
          have := ih _ _ _ _ (by rw [List.length_drop]; omega) hF
          rw [List.length_drop] at this
          simp
          omega
    · rw [frames_few (by omega)] at h
      cases h
      simp
theorem frames_step {L r : List UInt8} {G : List (List UInt8)} {t u : Nat} (htu : t ≤ u) (h : frames (L.take t) = (G, r, false)) (hp : ∃ O r', frames (L.take u) = (O, r', false) ∧ r'.length ≤ 301) :
    ∃ O r', frames (r ++ (L.take u).drop t) = (O, r', false) ∧ frames (L.take u) = (G ++ O, r', false) ∧ r'.length ≤ 301 := by
  obtain ⟨O', r', h1, h2⟩ := hp
  have h3 := frames_split _ (L.take t) ((L.take u).drop t) r G (Nat.le_refl _) h
  have e : L.take t ++ (L.take u).drop t = L.take u := by
    have := List.take_append_drop t (L.take u)
    rwa [List.take_take, Nat.min_eq_left htu] at this
  rw [e, h1] at h3
  simp only [Prod.mk.injEq] at h3
  obtain ⟨e1, e2⟩ := h3
  refine ⟨(frames (r ++ (L.take u).drop t)).1, r', ?_, by rw [h1, e1], h2⟩
  rw [e2]
set_option maxHeartbeats 16000000 in
set_option maxRecDepth 100000 in
theorem streamCuts_walk {W : World} {a a' : Option Addr} {n c n' c' : Nat} {XS : List (List UInt8)} {CS : List Int} (h : RdL W a n c XS) (h' : Rd intE W a' n' c' CS) (hz : n ≤ 9223372036854775807) (hz' : n' ≤ 9223372036854775807) :
    Calls Try.prog 5 #[.slice a n c, .slice a' n' c'] W fun e w' => e = .returned (.bool true) ∧ Below W.heap.size W w' := by
  obtain ⟨i0, hi, hz0, hz1, hz2⟩ := info_parts Try.info5
  obtain ⟨i1, hi1, hz01, hz11, hz21⟩ := info_parts Try.info41
  have hl := h.len
  have hl' := h'.len
  have hH := Lib.hid h
  have hH' := Lib.hid h'
  clear h h'
  by_cases h40 : 40 < n
  · have hI : (40 : Int) < n := by omega
    go_enter Try.func5, Try.ntmps5
    go_wp2_with (go_at_call 32; refine (awake_any _).mono ?_; rintro e w1 ⟨rfl, k1⟩)
    go_ret
    exact ⟨rfl, k1⟩
  by_cases h60 : 60 < n'
  · have hI : (60 : Int) < n' := by omega
    have hI2 : ¬ ((40 : Int) < n) := by omega
    go_enter Try.func5, Try.ntmps5
    go_wp2_with (go_at_call 32; refine (awake_any _).mono ?_; rintro e w1 ⟨rfl, k1⟩)
    go_ret
    exact ⟨rfl, k1⟩
  have hI1 : ¬ ((60 : Int) < n') := by omega
  have hI2 : ¬ ((40 : Int) < n) := by omega
  go_enter Try.func5, Try.ntmps5
  go_wp2_with (go_at_call 32; refine (awake_any _).mono ?_; rintro e w1 ⟨rfl, k1⟩)
  go_loopw [6, 7, 8] (fun al want i wr => ∃ (k : Nat) (M : List (List UInt8)), k ≤ n ∧ i = .int .i64 k ∧ Hid (Own byteE wr W.heap.size al (fl M)) ∧ Hid (WantL W wr W.heap.size want M) ∧ Hid (good M) ∧ M.length ≤ k ∧ Below W.heap.size W wr)
    (fun _ _ i _ => n - (intOf i).toNat)
  case atStart => exact ⟨0, [], Nat.zero_le _, rfl, Lib.hid (Own.nil _ _ _), Lib.hid ⟨[], Own.nil _ _ _, rfl, fun j p X hp => by simp at hp⟩, Lib.hid (fun m hm => by simp at hm), Nat.le_refl _, k1⟩
  case round =>
    obtain ⟨k, M, hk, rfl, hal, hwt, hgd, hMk, hb⟩ := hrel
    obtain ⟨aA, cA, e⟩ := hal.out.shape
    subst e
    obtain ⟨aW, cW, e⟩ := hwt.out.shape
    subst e
    by_cases hlt : k < n
    · obtain ⟨b, o, e1, hc1⟩ := hH.out.at_ (by omega)
      subst e1
      obtain ⟨a1, n1, c1, hcell0, hr0⟩ := hc1 k (by omega)
      have hbl : b < W.heap.size := World.block_lt_of_cell? W _ hcell0
      have hcell : wr.cell? ⟨b, o + k, none⟩ = some (.slice a1 n1 c1) := (hb.cell (p := ⟨b, o + k, none⟩) hbl).trans hcell0
      have hkI : (k : Int) < n := by omega
      generalize XS[k]'(by omega) = X at *
      have hXl := hr0.len
      have hr0' := Lib.hid hr0
      clear hc1 hcell0 hr0
      by_cases h300 : 300 < n1
      · have h3I : (300 : Int) < n1 := by omega
        go_wp2_with fail
        go_ret
        exact ⟨rfl, hb⟩
      have h3I : ¬ ((300 : Int) < n1) := by omega
      by_cases h12 : n1 < 12
      · have h12I : (n1 : Int) < 12 := by omega
        go_wp2_with (go_at_call 19; refine (frame_short h12).mono ?_; rintro e w2 ⟨rfl, rfl⟩)
        go_roundw
        case rel => exact ⟨k + 1, M, by omega, by go_num, hal, hwt, hgd, by omega, hb⟩
        case measure => simp [intOf]; omega
      · have h12I : (12 : Int) ≤ n1 := by omega
        go_wp2_with fail
        refine (frame_ok (hr0'.out.ext hb) (by omega) (by omega)).mono ?_
        rintro e w3 ⟨⟨v3, rfl, hO3⟩, k3⟩
        change Own byteE w3 wr.heap.size v3 (frm X) at hO3
        have hgX : Hid (good (M ++ [X])) := Lib.hid (good_snoc hgd.out (by omega) (by omega))
        have hfl := fl_len hgd.out
        obtain ⟨a3, c3, e3, hr3⟩ := hO3.rd
        rw [frm_len, hXl] at e3 hr3
        subst e3
        have hsrc := Lib.hid (hr3.src (P := Try.prog) (tx := 41) Try.underlying41)
        have hal3 := Lib.hid (hal.out.ext k3)
        have hb3 : Below W.heap.size W w3 := hb.trans (k3.mono hb.size)
        obtain ⟨ps, ho, hps, hel⟩ := hwt.out
        have ho3 := Lib.hid (ho.ext k3)
        have hps' := Lib.hid hps
        have hel' := Lib.hid hel
        have hflI : Hid ((fl M).length + (n1 + 2) ≤ 20000) := Lib.hid (by omega)
        have hfX : Hid ((frm X).length = n1 + 2) := Lib.hid (by rw [frm_len]; omega)
        have hcell3 : w3.cell? ⟨b, o + k, none⟩ = some (.slice a1 n1 c1) := (hb3.cell (p := ⟨b, o + k, none⟩) hbl).trans ((hb.cell (p := ⟨b, o + k, none⟩) hbl).symm.trans hcell)
        clear hO3 hr3 hfl ho hps hel hal hwt
        go_wp2_with (at_builtin; refine app_own (E := byteE) rfl (.tmp 60) (.tmp 61) 41 41 rfl Try.underlying41 hi hz0 hz1 hz2 rfl rfl hal3.out rfl hsrc.out ?c1 ?c2 hb3.size ?_)
        case c1 => have := hflI.out; have := hfX.out; simp [maxLen]; omega
        case c2 => have := hflI.out; have := hfX.out; simp; omega
        intro v4 w4 h4 hg4 _
        rw [← fl_snoc] at h4
        obtain ⟨a4, c4, e4⟩ := h4.shape
        subst e4
        have hb4 : Below W.heap.size W w4 := own_below hb3 hg4 hal3.out hb3.size (Nat.le_refl _)
        have ho4 := Lib.hid (ho3.out.keep (w' := w4) fun k hk => hg4.block k (ho3.out.lt k hk).2 (own_ne hal3.out ho3.out k hk))
        have h4' := Lib.hid h4
        have hcell4 : w4.cell? ⟨b, o + k, none⟩ = some (.slice a1 n1 c1) := (hb4.cell (p := ⟨b, o + k, none⟩) hbl).trans ((hb.cell (p := ⟨b, o + k, none⟩) hbl).symm.trans hcell)
        clear h4 hg4 ho3 hal3 hcell
        have k5 : Below w4.heap.size w4 (w4.alloc (.cells #[.slice a1 n1 c1] 41)) := (Below.refl _ _).alloc (Nat.le_refl _) _
        have ho5 := Lib.hid (ho4.out.ext k5)
        have h5 := Lib.hid (h4'.out.ext k5)
        have hsrc5 := Lib.hid ((rd_blk (E := slE) (X := [(a1, n1, c1)]) (Blk.new w4 41 (0, 0) #[.slice a1 n1 c1]) 1 rfl (by decide)).src (P := Try.prog) (tx := 40) Try.underlying40)
        have hb5 : Below W.heap.size W (w4.alloc (.cells #[.slice a1 n1 c1] 41)) := hb4.trans (k5.mono hb4.size)
        have hpsl : Hid (ps.length + 1 ≤ 41) := Lib.hid (by have := hps'.out; omega)
        generalize hW5 : w4.alloc (.cells #[.slice a1 n1 c1] 41) = w5 at *
        clear k5 ho4 h4' hsrc
        go_wp2_with (at_builtin; refine app_own (E := slE) rfl (.tmp 63) (.tmp 68) 40 40 rfl Try.underlying40 hi1 hz01 hz11 hz21 rfl rfl ho5.out rfl hsrc5.out ?c1 ?c2 hb5.size ?_)
        case c1 => have := hpsl.out; simp [maxLen]; omega
        case c2 => have := hpsl.out; simp; omega
        intro v6 w6 h6 hg6 _
        have hb6 : Below W.heap.size W w6 := own_below hb5 hg6 ho5.out hb5.size (Nat.le_refl _)
        have hw6 := Lib.hid (WantL.snoc h6 hps'.out hel'.out hr0'.out)
        have ha6 := Lib.hid (h5.out.keep (w' := w6) fun k hk => hg6.block k (h5.out.lt k hk).2 (fun e => own_ne h5.out ho5.out k e.symm hk.symm))
        obtain ⟨a6, c6, e6⟩ := h6.shape
        subst e6
        clear h6 hg6 ho5 h5 hsrc5
        go_wp2_with fail
        go_roundw
        case rel => exact ⟨k + 1, M ++ [X], by omega, by go_num, ha6, hw6, hgX, by simp; omega, hb6⟩
        case measure => simp [intOf]; omega
    · have hk2 : k = n := by omega
      subst hk2
      have hbW := hb
      obtain ⟨w0, rfl⟩ : ∃ w0, w0 = wr := ⟨_, rfl⟩
      obtain ⟨aa, cc, e, hrA⟩ := hal.out.rd
      cases e
      have hfl := fl_len hgd.out
      have hL12 : (fl M).length ≤ 12080 := by omega
      have hLpre := Lib.hid (frames_pre hgd.out)
      have hLall := Lib.hid (frames_fl hgd.out)
      have hM40 : M.length ≤ 40 := by omega
      have hrA' := Lib.hid hrA
      clear hrA hal hgd hfl
      generalize fl M = L at *
      have hLI : (L.length : Int) ≤ 12080 := by omega
      go_wp2_with fail
      refine (new_any w0).mono ?_
      rintro e w1 ⟨rfl, hS1, kk1⟩
      have hS1' := Lib.hid hS1
      have hsz1 : w0.heap.size + 1 ≤ w1.heap.size := hS1.lt
      clear hS1
      go_wp2_with fail
      go_loopw [12, 13, 14] (fun got at_ i wr => ∃ (k2 t : Nat) (G : List (List UInt8)) (r : List UInt8), k2 ≤ n' + 1 ∧ i = .int .i64 k2 ∧ at_ = .int .i64 t ∧ t ≤ L.length ∧ Hid (OwnL wr (w0.heap.size + 1) got G) ∧ Hid (StR wr w0.heap.size r false) ∧ Hid (frames (L.take t) = (G, r, false)) ∧ (k2 = n' + 1 → t = L.length) ∧ Below w0.heap.size w0 wr ∧ w0.heap.size + 1 ≤ wr.heap.size)
        (fun _ _ i _ => n' + 1 - (intOf i).toNat)
      case atStart => exact ⟨0, 0, [], [], Nat.zero_le _, rfl, rfl, Nat.zero_le _, Lib.hid (OwnL.nil _ _), hS1', Lib.hid (by rw [List.take_zero, frames_nil]), fun e => by omega, kk1, hsz1⟩
      case round =>
        clear hS1' hsz1 kk1
        obtain ⟨k2, t, G, r, hk2, rfl, rfl, ht, hgot, hSt, hfr, hend, hb2, hsz⟩ := hrel
        have hb : Below w0.heap.size w0 wr := hb2
        by_cases hlt : k2 < n'
        · have hkI : (k2 : Int) < n' := by omega
          obtain ⟨b, o, e1, _, hc1⟩ := hH'.out.addr (by omega)
          subst e1
          have hcell0 : W.cell? ⟨b, o + k2, none⟩ = some (.int .i64 (CS[k2]'(by omega))) := by simpa [intE] using hc1 k2 (by omega) 0 (by decide)
          have hbl : b < W.heap.size := World.block_lt_of_cell? W _ hcell0
          have hcell : wr.cell? ⟨b, o + k2, none⟩ = some (.int .i64 (CS[k2]'(by omega))) :=
            (hb2.cell (p := ⟨b, o + k2, none⟩) (Nat.lt_of_lt_of_le hbl hbW.size)).trans ((hbW.cell (p := ⟨b, o + k2, none⟩) hbl).trans hcell0)
          clear hc1 hcell0
          generalize CS[k2]'(by omega) = x at *
          obtain ⟨s, hs⟩ : ∃ s : Nat, x % ((L.length : Int) - t + 1) = s := ⟨(x % ((L.length : Int) - t + 1)).toNat, by have := Int.emod_nonneg x (b := (L.length : Int) - t + 1) (by omega); omega⟩
          have hs2 : t + s ≤ L.length := by have := Int.emod_lt_of_pos x (b := (L.length : Int) - t + 1) (by omega); omega
          have hu := Lib.hid hs
          clear hs
          go_wp2_with fail
          refine (pick_any x _ _ (by omega) (by omega)).mono ?_
          rw [hu.out]
          rintro e w3 ⟨rfl, rfl⟩
          have hsI : (t : Int) + s ≤ L.length := by omega
          obtain ⟨ax, hcx, hrx⟩ := cut_lh (P := Try.prog) (hrA'.out.ext hb) 41 Try.underlying41 (by kernel_rfl) .i64 .i64 (t : Int) (((t + s) : Nat) : Int) t (t + s) rfl rfl (by omega) (by omega)
          obtain ⟨O, r', hF, hF2, hr'⟩ := frames_step (L := L) (t := t) (u := t + s) (by omega) hfr.out (hLpre.out _)
          have hF' := Lib.hid hF
          have hF2' := Lib.hid hF2
          have hrI : (r'.length : Int) ≤ 301 := by omega
          have hrx' := Lib.hid hrx
          have hrl : Hid (r.length ≤ 301) := Lib.hid (by
            obtain ⟨O1, r1, e1, e2⟩ := hLpre.out t
            rw [hfr.out] at e1
            cases e1
            exact e2)
          have hcnt : Hid (14 * G.length + 14 * O.length ≤ L.length) := Lib.hid (by
            have h1 := frames_cnt _ (L.take (t + s)) _ _ _ (Nat.le_refl _) hF2
            rw [List.length_append, List.length_take] at h1
            omega)
          clear hF hF2 hrx
          rw [Int.natCast_add, Nat.add_sub_cancel_left] at hcx
          have hrx2 := hrx'.out
          rw [Nat.add_sub_cancel_left] at hrx2
          have hrx3 := Lib.hid hrx2
          clear hrx2 hrx'
          have hrx' := hrx3
          go_wp2_with fail
          refine (feed_okL hSt.out hrx'.out (by have := hrl.out; rw [List.length_drop, List.length_take]; omega) hF'.out).mono ?_
          rintro e w4 ⟨⟨a4, c4, rfl, hO4⟩, hS4, g4⟩
          have hO4' := Lib.hid hO4
          have hS4' := Lib.hid hS4
          have hR4 := Lib.hid hS4.toR
          have hb4 : Below w0.heap.size w0 w4 := below_grown hb2 g4 (Nat.le_refl _) (Nat.le_refl _)
          have hgot4 : Hid (OwnL w4 (w0.heap.size + 1) u12 G) := Lib.hid (hgot.out.keep (fun b hbb hlt => g4.block b hlt (fun e => by cases e; omega)) g4.size)
          have hgl : Hid (∀ k, u12.ownBlock = some k → w0.heap.size + 1 ≤ k ∧ k < wr.heap.size) := Lib.hid (by
            obtain ⟨ps, ho, _⟩ := hgot.out
            exact ho.lt)
          have hsz4 : w0.heap.size + 1 ≤ w4.heap.size := by have := g4.size; omega
          clear hO4 hS4
          go_wp2_with fail
          refine (broken_any hR4.out).mono ?_
          rintro e w5 ⟨rfl, rfl⟩
          go_wp2_with fail
          refine (waiting_any hR4.out).mono ?_
          rintro e w5 ⟨rfl, rfl⟩
          obtain ⟨ps, ho4, hps, hel⟩ := hgot4.out
          obtain ⟨qs, hq4, hqs, hqe⟩ := hO4'.out
          obtain ⟨a5, c5, e5, hq5⟩ := hq4.rd
          simp only [Value.slice.injEq] at e5
          obtain ⟨rfl, e9, rfl⟩ := e5
          clear e9
          rw [hqs] at hq5
          have hlen' : Hid (ps.length + qs.length ≤ 5000) := Lib.hid (by have := hcnt.out; omega)
          have hsrc := Lib.hid (hq5.src (P := Try.prog) (tx := 40) Try.underlying40)
          have ho4' := Lib.hid ho4
          have hps' := Lib.hid hps
          have hqs' := Lib.hid hqs
          have hel' := Lib.hid hel
          have hqe' : Hid (∀ (j : Nat) (p : Option Addr × Nat × Nat) (X : List UInt8), qs[j]? = some p → O[j]? = some X → Rd byteE w4 p.1 p.2.1 p.2.2 X ∧ ∀ b o s, p.1 = some ⟨b, o, s⟩ → w0.heap.size + 1 ≤ b ∧ b < w4.heap.size ∧ u12.ownBlock ≠ some b) :=
            Lib.hid fun j p X hp hX => ⟨(hqe j p X hp hX).1, fun b o s e => ⟨by have := ((hqe j p X hp hX).2 b o s e).1; omega, ((hqe j p X hp hX).2 b o s e).2.1, fun e' => by have := (hgl.out b e').2; have := ((hqe j p X hp hX).2 b o s e).1; omega⟩⟩
          clear ho4 hps hqs hel hqe hq4 hq5
          go_wp2_with (at_builtin; (refine app_own (E := slE) rfl (.tmp 115) (.tmp 116) 40 40 rfl Try.underlying40 hi1 hz01 hz11 hz21 rfl rfl ho4'.out rfl hsrc.out ?c1 ?c2 hsz4 ?_))
          case c1 => have := hlen'.out; simp [maxLen]; omega
          case c2 => have := hlen'.out; simp; omega
          intro v6 w6 h6 hg6 hv6
          have hb6 : Below w0.heap.size w0 w6 := own_below hb4 hg6 ho4'.out (Nat.le_of_succ_le hsz4) (Nat.le_succ _)
          have hS6 := Lib.hid (StRL.toR (hS4'.out.grown hg6 fun k hk => ⟨by have := (hgl.out k hk).1; omega, (hgl.out k hk).2⟩))
          have hL6 := Lib.hid (OwnL.app hps'.out hqs'.out hel'.out hqe'.out h6 hg6 hv6)
          have hsz6 : w0.heap.size + 1 ≤ w6.heap.size := by have := hg6.size; omega
          clear h6 hg6 hv6
          go_wp2_with fail
          go_roundw
          case rel => exact ⟨k2 + 1, t + s, G ++ O, r', by omega, by go_num, by go_num, by omega, hL6, hS6, Lib.hid hF2'.out, fun e => by first | omega | rfl, hb6, hsz6⟩
          case measure => simp [intOf] <;> omega

        · by_cases heq : k2 = n'
          · subst heq
            obtain ⟨ax, hcx, hrx⟩ := cut_lh (P := Try.prog) (hrA'.out.ext hb) 41 Try.underlying41 (by kernel_rfl) .i64 .i64 (t : Int) (((L.length) : Nat) : Int) t (L.length) rfl rfl (by omega) (by omega)
            obtain ⟨O, r', hF, hF2, hr'⟩ := frames_step (L := L) (t := t) (u := L.length) (by omega) hfr.out (hLpre.out _)
            have hF' := Lib.hid hF
            have hF2' := Lib.hid hF2
            have hrI : (r'.length : Int) ≤ 301 := by omega
            have hrx' := Lib.hid hrx
            have hrl : Hid (r.length ≤ 301) := Lib.hid (by
              obtain ⟨O1, r1, e1, e2⟩ := hLpre.out t
              rw [hfr.out] at e1
              cases e1
              exact e2)
            have hcnt : Hid (14 * G.length + 14 * O.length ≤ L.length) := Lib.hid (by
              have h1 := frames_cnt _ (L.take (L.length)) _ _ _ (Nat.le_refl _) hF2
              rw [List.length_append, List.length_take] at h1
              omega)
            clear hF hF2 hrx
            go_wp2_with fail
            refine (feed_okL hSt.out hrx'.out (by have := hrl.out; rw [List.length_drop, List.length_take]; omega) hF'.out).mono ?_
            rintro e w4 ⟨⟨a4, c4, rfl, hO4⟩, hS4, g4⟩
            have hO4' := Lib.hid hO4
            have hS4' := Lib.hid hS4
            have hR4 := Lib.hid hS4.toR
            have hb4 : Below w0.heap.size w0 w4 := below_grown hb2 g4 (Nat.le_refl _) (Nat.le_refl _)
            have hgot4 : Hid (OwnL w4 (w0.heap.size + 1) u12 G) := Lib.hid (hgot.out.keep (fun b hbb hlt => g4.block b hlt (fun e => by cases e; omega)) g4.size)
            have hgl : Hid (∀ k, u12.ownBlock = some k → w0.heap.size + 1 ≤ k ∧ k < wr.heap.size) := Lib.hid (by
              obtain ⟨ps, ho, _⟩ := hgot.out
              exact ho.lt)
            have hsz4 : w0.heap.size + 1 ≤ w4.heap.size := by have := g4.size; omega
            clear hO4 hS4
            go_wp2_with fail
            refine (broken_any hR4.out).mono ?_
            rintro e w5 ⟨rfl, rfl⟩
            go_wp2_with fail
            refine (waiting_any hR4.out).mono ?_
            rintro e w5 ⟨rfl, rfl⟩
            obtain ⟨ps, ho4, hps, hel⟩ := hgot4.out
            obtain ⟨qs, hq4, hqs, hqe⟩ := hO4'.out
            obtain ⟨a5, c5, e5, hq5⟩ := hq4.rd
            simp only [Value.slice.injEq] at e5
            obtain ⟨rfl, e9, rfl⟩ := e5
            clear e9
            rw [hqs] at hq5
            have hlen' : Hid (ps.length + qs.length ≤ 5000) := Lib.hid (by have := hcnt.out; omega)
            have hsrc := Lib.hid (hq5.src (P := Try.prog) (tx := 40) Try.underlying40)
            have ho4' := Lib.hid ho4
            have hps' := Lib.hid hps
            have hqs' := Lib.hid hqs
            have hel' := Lib.hid hel
            have hqe' : Hid (∀ (j : Nat) (p : Option Addr × Nat × Nat) (X : List UInt8), qs[j]? = some p → O[j]? = some X → Rd byteE w4 p.1 p.2.1 p.2.2 X ∧ ∀ b o s, p.1 = some ⟨b, o, s⟩ → w0.heap.size + 1 ≤ b ∧ b < w4.heap.size ∧ u12.ownBlock ≠ some b) :=
              Lib.hid fun j p X hp hX => ⟨(hqe j p X hp hX).1, fun b o s e => ⟨by have := ((hqe j p X hp hX).2 b o s e).1; omega, ((hqe j p X hp hX).2 b o s e).2.1, fun e' => by have := (hgl.out b e').2; have := ((hqe j p X hp hX).2 b o s e).1; omega⟩⟩
            clear ho4 hps hqs hel hqe hq4 hq5
            go_wp2_with (at_builtin; (refine app_own (E := slE) rfl (.tmp 115) (.tmp 116) 40 40 rfl Try.underlying40 hi1 hz01 hz11 hz21 rfl rfl ho4'.out rfl hsrc.out ?c1 ?c2 hsz4 ?_))
            case c1 => have := hlen'.out; simp [maxLen]; omega
            case c2 => have := hlen'.out; simp; omega
            intro v6 w6 h6 hg6 hv6
            have hb6 : Below w0.heap.size w0 w6 := own_below hb4 hg6 ho4'.out (Nat.le_of_succ_le hsz4) (Nat.le_succ _)
            have hS6 := Lib.hid (StRL.toR (hS4'.out.grown hg6 fun k hk => ⟨by have := (hgl.out k hk).1; omega, (hgl.out k hk).2⟩))
            have hL6 := Lib.hid (OwnL.app hps'.out hqs'.out hel'.out hqe'.out h6 hg6 hv6)
            have hsz6 : w0.heap.size + 1 ≤ w6.heap.size := by have := hg6.size; omega
            clear h6 hg6 hv6
            go_wp2_with fail
            go_roundw
            case rel => exact ⟨k2 + 1, L.length, G ++ O, r', by omega, by go_num, rfl, by omega, hL6, hS6, Lib.hid hF2'.out, fun e => by first | omega | rfl, hb6, hsz6⟩
            case measure => simp [intOf] <;> omega

          · have hk3 : k2 = n' + 1 := by omega
            have ht3 := hend hk3
            subst hk3
            subst ht3
            have hfr2 := hfr.out
            rw [List.take_of_length_le (Nat.le_refl _), hLall.out] at hfr2
            cases hfr2
            obtain ⟨a8, c8, e8⟩ := hgot.out.shape
            subst e8
            have hrg := Lib.hid hgot.out.rdL
            have hrw := Lib.hid (hwt.out.rdL hbW)
            have hrw2 := Lib.hid (hrw.out.ext hb2)
            go_wp2_with fail
            refine (lists_any hrg.out hrw2.out (by omega) (by omega)).mono ?_
            rw [show decide (M = M) = true by simp]
            rintro e w4 ⟨rfl, k4⟩
            have hS4 := Lib.hid (hSt.out.ext k4)
            have hb4 : Below w0.heap.size w0 w4 := hb2.trans (k4.mono (by omega))
            go_wp2_with fail
            refine (waiting_any hS4.out).mono ?_
            rintro e w5 ⟨rfl, rfl⟩
            go_wp2_with fail
            go_ret
            exact ⟨rfl, hbW.trans (hb4.mono hbW.size)⟩
section
open Go.ChangeShapes Go.WideShapes
theorem streamCuts_law {H : Type} {enc : TypeId × Value → H} {W : World} {ts : List TypeId} {ds : List (DataW H)} (v : Value) (d : DataW H) (p : List MemPlace) (h1 : DataW.Trod enc Try.prog W 0 (fun _ => true) true 40 v d p) {r : Reach} {b0 : Nat} (hv : Value.okWide Try.prog W r b0 40 v) (_ : (DataW.weightsEach Try.prog ts ds).all (· ≤ reachBytes) = true)
    (v' : Value) (d' : DataW H) (p' : List MemPlace) (h1' : DataW.Trod enc Try.prog W 0 (fun _ => true) true 36 v' d' p') {r' : Reach} {b0' : Nat} (hv' : Value.okWide Try.prog W r' b0' 36 v') (_ : (DataW.weightsEach Try.prog ts ds).all (· ≤ reachBytes) = true) (_ : World) :
    Calls Try.prog 5 #[v, v'] W fun e w' => e = .returned (.bool true) ∧ Below W.heap.size W w' := by
  obtain ⟨a, n, c, XS, rfl, hX, hc⟩ := open_rows Try.underlying40 hv h1
  obtain ⟨a', n', c', CS, rfl, hC, _⟩ := open_nums Try.underlying36 hv' h1'
  have h2 := hC.cap
  have h3 := hC.most
  have h4 : n ≤ c := by obtain ⟨_, h, _⟩ := hX; exact h.cap
  unfold maxLen at hc h3
  exact streamCuts_walk hX hC (by omega) (by omega)
end
end Go.Proofs.Ytmimbfikjnfhdaa
