/- act 16: a call of both pickers; printed by gen_act16.py. -/
import Derived.Test.YtjkeijjfjbcaiaaPkV
import Derived.Test.YtjkeijjfjbcaiaaPkI
namespace Go.Proofs.Ytjkeijjfjbcaiaa
open Go.RowKit
theorem Try.info28x : (Try.prog.info? 28).map (fun i => (i.zero, i.size, i.bytes)) = some (some (.int .u32 0), 1, 4) := by kernel_rfl
def actC (kind : Int) (la : Option Addr) (ln lc : Nat) (y trip now : Int) : List Value := [.int .i64 kind, .slice la ln lc, .int .u32 y, .int .i64 trip, .int .i64 now]
/-- both pickers, no block beside them -/
def PR0 (u w : World) (p q : Nat) (room : Int) (L M : List Kn) : Prop :=
  ∃ v a c, Pk w p room v L ∧ Rk w q room a c M ∧ p ≠ q ∧ v.ownBlock ≠ some q ∧ (∀ b o s, a = some ⟨b, o, s⟩ → b ≠ p ∧ v.ownBlock ≠ some b ∧ b < w.heap.size) ∧
    Below u.heap.size u w ∧ u.heap.size ≤ p ∧ u.heap.size ≤ q ∧ ∀ b, v.ownBlock = some b → u.heap.size ≤ b
theorem PR.drop {u w : World} {p q : Nat} {room : Int} {L M : List Kn} {x : Nat} {t : TypeId} {C : List Value} (h : PR u w p q room L M x t C) : PR0 u w p q room L M := by
  obtain ⟨v, a, c, h1, h2, h3, h4, h5, h6, h7, h8, h9, h10, h11, h12, h13, h14⟩ := h
  exact ⟨v, a, c, h1, h2, h3, h4, h5, h10, h11, h12, h13⟩
theorem PR0.ext {u w w' : World} {p q : Nat} {room : Int} {L M : List Kn} (h : PR0 u w p q room L M) (hb : Below w.heap.size w w') : PR0 u w' p q room L M := by
  obtain ⟨v, a, c, h1, h2, h3, h4, h5, h10, h11, h12, h13⟩ := h
  exact ⟨v, a, c, h1.ext hb, h2.ext hb, h3, h4, fun b o s e => ⟨(h5 b o s e).1, (h5 b o s e).2.1, Nat.lt_of_lt_of_le (h5 b o s e).2.2 hb.size⟩, h10.trans (hb.mono h10.size), h11, h12, h13⟩
theorem PR0.box {u w : World} {p q : Nat} {room : Int} {L M : List Kn} (h : PR0 u w p q room L M) (t : TypeId) (C : Array Value) : PR u (w.alloc (.cells C t)) p q room L M w.heap.size t C.toList := by
  have hx := h.ext (al_below w (.cells C t))
  obtain ⟨v0, a0, c0, g1, g2, g3, g4, g5, _⟩ := h
  obtain ⟨v, a, c, h1, h2, h3, h4, h5, h10, h11, h12, h13⟩ := hx
  have hp := g1.blk.lt
  have hq := g2.blk.lt
  have e : v = v0 := by
    have k1 := h1.blk.cell 1
    have k2 := (g1.blk.alloc (.cells C t)).cell 1
    rw [k1] at k2
    simpa using k2
  refine ⟨v, a, c, h1, h2, h3, h4, h5, Blk.new w t (0, 0) C, by omega, by omega, ?_, h10, h11, h12, h13, ?_⟩
  · subst e
    exact own_at g1.own (Nat.le_refl _)
  · have k1 := h2.blk.cell 1
    have k2 := (g2.blk.alloc (.cells C t)).cell 1
    rw [k1] at k2
    have e2 : a = a0 := by simp at k2; exact k2.1
    subst e2
    intro b o s e3
    have := (g5 b o s e3).2.2
    omega
theorem PR0.below {u w : World} {p q : Nat} {room : Int} {L M : List Kn} (h : PR0 u w p q room L M) : Below u.heap.size u w := by obtain ⟨_, _, _, _, _, _, _, _, h, _⟩ := h; exact h
theorem PR.c3 {u w : World} {p q : Nat} {room : Int} {L M : List Kn} {x : Nat} {kind y trip now : Int} {la : Option Addr} {ln lc : Nat} (h : PR u w p q room L M x 45 [.int .i64 kind, .slice la ln lc, .int .u32 y, .int .i64 trip, .int .i64 now]) :
    w.cell? ⟨x, 2, none⟩ = some (.int .u32 y) ∧ w.cell? ⟨x, 3, none⟩ = some (.int .i64 trip) ∧ w.cell? ⟨x, 4, none⟩ = some (.int .i64 now) := ⟨h.blk.cell 2, h.blk.cell 3, h.blk.cell 4⟩
/-- both pickers behind a call -/
def ActR (u w' : World) (p q : Nat) (room : Int) : Prop := ∃ L' : List Kn, PR0 u w' p q room L' L' ∧ (∀ k ∈ L', KB k) ∧ (L'.length : Int) ≤ room
set_option maxHeartbeats 16000000 in
set_option maxRecDepth 100000 in
theorem act16 {u w : World} {p q : Nat} {room : Int} {L : List Kn} (h : PR0 u w p q room L L) (h1 : 1 ≤ room) (h2 : room ≤ 4096) (hl : (L.length : Int) ≤ room) (hL : ∀ k ∈ L, KB k)
    {la : Option Addr} {ln lc : Nat} {l : List Int} (hR : Rd u32E w la ln lc l) (hn : ln ≤ 60) (kind y trip now : Int) :
    Calls Try.prog 16 #[.pointer (some ⟨p, 0, none⟩), .pointer (some ⟨q, 0, none⟩), .agg #[.int .i64 kind, .slice la ln lc, .int .u32 y, .int .i64 trip, .int .i64 now]] w fun e w' => e = .returned (.bool true) ∧ ActR u w' p q room := by
  have hln := hR.len
  have hb0 := al_below w (.cells #[.int .i64 kind, .slice la ln lc, .int .u32 y, .int .i64 trip, .int .i64 now] 45)
  have hP0 := Lib.hid (h.box 45 #[.int .i64 kind, .slice la ln lc, .int .u32 y, .int .i64 trip, .int .i64 now])
  have hR0 := Lib.hid (hR.ext hb0)
  have hL' := Lib.hid hL
  have hll : Hid (L.length ≤ 100000) := Lib.hid (by omega)
  have hl' := Lib.hid hl
  have hnM : (ln : Int) ≤ 60 := by omega
  have h2' := Lib.hid h2
  clear h hR hb0 hl hL h2
  obtain ⟨i0, hi, hz0, hz1, hz2⟩ := info_parts Try.info28x
  have hI := Lib.hid (And.intro hi (And.intro hz0 (And.intro hz1 hz2)))
  clear hi hz0 hz1 hz2
  obtain ⟨W0, hW0⟩ : ∃ W0, w.alloc (.cells #[.int .i64 kind, .slice la ln lc, .int .u32 y, .int .i64 trip, .int .i64 now] 45) = W0 := ⟨_, rfl⟩
  rw [hW0] at hP0 hR0
  obtain ⟨x, hx⟩ : ∃ x, w.heap.size = x := ⟨_, rfl⟩
  rw [hx] at hP0
  have c0 : W0.cell? ⟨x, 0, none⟩ = some (.int .i64 kind) := hP0.out.blk.cell 0
  have c1 : W0.cell? ⟨x, 1, none⟩ = some (.slice la ln lc) := hP0.out.blk.cell 1
  have hown := Own.made u32E W0 #[] [] 0 rfl rfl (by simp [maxLen])
  have hsrc := (hR0.out.ext (al_below W0 (.cells #[] 28))).src (P := Try.prog) (tx := 23) Try.underlying23
  obtain ⟨v', w2, hr, ho, hg, -⟩ := run_append_Own (P := Try.prog) u32E _ _ 23 23 23 i0 _ 4 Try.underlying23 hI.out.1 hI.out.2.1 hI.out.2.2.1 hI.out.2.2.2 rfl _ _ hown _ l hsrc (by simp [maxLen]; omega) (by simp; omega) (by simp)
  have hb2 := own_below ((Below.refl W0.heap.size W0).alloc (Nat.le_refl _) _) hg hown (by simp) (Nat.le_refl _)
  rw [List.nil_append] at ho
  obtain ⟨a', c', rfl, hRl⟩ := ho.rd
  rw [hln] at hr hRl
  have hRl' := Lib.hid hRl
  have hP2 := Lib.hid (hP0.out.ext hb2)
  have hR2 := Lib.hid (hR0.out.ext hb2)
  have e28 : u32E.e = 28 := rfl
  rw [e28] at hr
  clear ho hg hsrc hown hb2 hRl e28
  have c1' := Lib.cell?_alloc_some (.cells #[] 28) c1
  have kc0 : w2.cell? ⟨x, 0, none⟩ = some (.int .i64 kind) := hP2.out.blk.cell 0
  have kc1 : w2.cell? ⟨x, 1, none⟩ = some (.slice la ln lc) := hP2.out.blk.cell 1
  have kc2 : w2.cell? ⟨x, 2, none⟩ = some (.int .u32 y) := hP2.out.blk.cell 2
  have kc3 : w2.cell? ⟨x, 3, none⟩ = some (.int .i64 trip) := hP2.out.blk.cell 3
  have kc4 : w2.cell? ⟨x, 4, none⟩ = some (.int .i64 now) := hP2.out.blk.cell 4
  go_enter Try.func16, Try.ntmps16
  clear hP0 hR0
  by_cases hk0 : kind = 0
  · have hk := hk0
    clear hk0
    have hK : kind = 0 := hk
    subst hK
    go_wp2_with (at_builtin; refine app_run rfl (.tmp 13) (.tmp 15) 23 23 rfl rfl rfl hr ?_)
    refine (hP2.out.look (fun v a c hv hr => choose11 hv h1 hll.out hRl'.out now)).mono ?_
    rintro e w3 ⟨rfl, hb3, hP3⟩
    have e1 := hP3.blk.cell 1
    have e4 := hP3.blk.cell 4
    have hP3' := Lib.hid hP3
    have hR3 := Lib.hid (hR2.out.ext hb3)
    have hRl3 := Lib.hid (hRl'.out.ext hb3)
    have e1' : w3.cell? ⟨x, 1, none⟩ = some (.slice la ln lc) := e1
    have e4' : w3.cell? ⟨x, 4, none⟩ = some (.int .i64 now) := e4
    clear hb3 hP3 e1 e4
    go_wp2_with fail
    refine (hP3'.out.look (fun v a c hv hr => choose29 hr hll.out hR3.out (by omega) now)).mono ?_
    rintro e w4 ⟨rfl, hb4, hP4⟩
    have e1 : w4.cell? ⟨x, 1, none⟩ = some (.slice la ln lc) := hP4.blk.cell 1
    have hP4' := Lib.hid hP4
    have hR4 := Lib.hid (hR3.out.ext hb4)
    have hRl4 := Lib.hid (hRl3.out.ext hb4)
    clear hb4 hP4 hP3' hR3 hRl3 e1' e4'
    generalize chooseK L now l = z at *
    go_wp2_with fail
    go_loopw [12] (fun i wr => ∃ k : Nat, k ≤ ln ∧ i = .int .i64 k ∧ Below w4.heap.size w4 wr) (fun i _ => ln - (intOf i).toNat)
    case atStart => exact ⟨0, Nat.zero_le _, rfl, Below.refl _ _⟩
    case round =>
      obtain ⟨k, hk, rfl, hb⟩ := hrel
      by_cases hlt : k < ln
      · have hkI : (k : Int) < ln := by omega
        have hk0 : (0 : Int) ≤ k := by omega
        obtain ⟨b1, o1, rfl, _, hc1⟩ := rd_u32 (hR4.out.ext hb) (by omega)
        obtain ⟨b2, o2, rfl, _, hc2⟩ := rd_u32 (hRl4.out.ext hb) (by omega)
        have m1 := hc1 k (by omega)
        have m2 := hc2 k (by omega)
        have m3 : wr.cell? ⟨x, 1, none⟩ = some (.slice (some ⟨b1, o1, none⟩) ln lc) := (hP4'.out.ext hb).blk.cell 1
        have hb' := Lib.hid hb.drew
        clear hc1 hc2 hb
        generalize l[k]'(by omega) = yk at *
        go_wp2_with fail
        go_region
        go_wp2_with fail
        go_roundw
        case rel => exact ⟨k + 1, by omega, by go_num, hb'.out⟩
        case measure => simp [intOf]; omega
      · have hk' : k = ln := by omega
        subst hk'
        have hP5 := Lib.hid ((hP4'.out.ext hb).drop)
        clear hb
        by_cases hz0 : k = 0
        · have hzt : decide (k = 0) = true := decide_eq_true hz0
          go_wp2_with fail
          all_goals
            go_ret
            first
              | exact ⟨rfl, L, hP5.out, hL'.out, hl'.out⟩
              | (simp only [hzt]; exact ⟨rfl, L, hP5.out, hL'.out, hl'.out⟩)
        · have hzt : decide (k = 0) = false := decide_eq_false hz0
          go_wp2_with fail
          all_goals
            go_ret
            first
              | exact ⟨rfl, L, hP5.out, hL'.out, hl'.out⟩
              | (simp only [hzt]; exact ⟨rfl, L, hP5.out, hL'.out, hl'.out⟩)
  by_cases hk1 : kind = 1
  · have hk := hk1
    clear hk1
    have hK : kind = 1 := hk
    subst hK
    by_cases hbad : trip < 0 ∨ momB now = false
    · go_wp2_with (at_builtin; refine app_run rfl (.tmp 13) (.tmp 15) 23 23 rfl rfl rfl hr ?_)
      go_region_held3 (fun w' => w'.cell? ⟨x, 2, none⟩ = some (.int .u32 y) ∧ w'.cell? ⟨x, 3, none⟩ = some (.int .i64 trip) ∧ w'.cell? ⟨x, 4, none⟩ = some (.int .i64 now))
        (first | assumption | exact ⟨kc2, kc3, kc4⟩ | exact PR.c3 hPn.out | exact PR.c3 hPm.out)
        (first | (go_at_call 18; refine (good_no (PR.pcell (PR.same hP2.out (by rfl) (by rfl) (by rfl) (by rfl))) h1 y trip now hbad).mono ?_; rintro en w8 ⟨rfl, rfl⟩) | (go_at_call 30; refine (good30_no y trip now hbad _).mono ?_; rintro en w9 ⟨rfl, rfl⟩))
      all_goals
        go_wp2_with fail
        go_ret
        exact ⟨rfl, L, (PR.same hP2.out (by rfl) (by rfl) (by rfl) (by rfl)).drop, hL'.out, hl'.out⟩
    · have ht : 0 ≤ trip := by
        by_cases h : trip < 0
        · exact absurd (.inl h) hbad
        · omega
      have hm : Hid (momB now = true) := Lib.hid (by
        cases h : momB now
        · exact absurd (.inr h) hbad
        · rfl)
      clear hbad
      go_wp2_with (at_builtin; refine app_run rfl (.tmp 13) (.tmp 15) 23 23 rfl rfl rfl hr ?_)
      go_region_held3 (fun w' => w'.cell? ⟨x, 2, none⟩ = some (.int .u32 y) ∧ w'.cell? ⟨x, 3, none⟩ = some (.int .i64 trip) ∧ w'.cell? ⟨x, 4, none⟩ = some (.int .i64 now))
        (first | assumption | exact ⟨kc2, kc3, kc4⟩ | exact PR.c3 hPn.out | exact PR.c3 hPm.out)
        (first | (go_at_call 18; refine ((PR.same hP2.out (by rfl) (by rfl) (by rfl) (by rfl)).prog (fun v hv => good18 hv h1 hll.out hL'.out y trip now ht hm.out)).mono ?_; rintro en w8 ⟨rfl, hPn0⟩; have hPn := Lib.hid hPn0; clear hPn0) | (go_at_call 30; refine ((PR.same hPn.out (by rfl) (by rfl) (by rfl) (by rfl)).ref (hrd_pos h1) (fun a c hv => good30 hv h1 hll.out hL'.out y trip now ht hm.out)).mono ?_; rintro en w9 ⟨rfl, hPm0⟩; have hPm := Lib.hid hPm0; clear hPm0))
      all_goals
        go_wp2_with fail
        go_ret
        exact ⟨rfl, _, (PR.same hPm.out (by rfl) (by rfl) (by rfl) (by rfl)).drop, kb_hrd hL'.out (kb_good hL'.out y ht), hrd_room hl'.out⟩
  by_cases hk2 : kind = 2
  · have hk := hk2
    clear hk2
    have hK : kind = 2 := hk
    subst hK
    by_cases hbad : momB now = false
    · go_wp2_with (at_builtin; refine app_run rfl (.tmp 13) (.tmp 15) 23 23 rfl rfl rfl hr ?_)
      go_region_held3 (fun w' => w'.cell? ⟨x, 2, none⟩ = some (.int .u32 y) ∧ w'.cell? ⟨x, 3, none⟩ = some (.int .i64 trip) ∧ w'.cell? ⟨x, 4, none⟩ = some (.int .i64 now))
        (first | assumption | exact ⟨kc2, kc3, kc4⟩ | exact PR.c3 hPn.out | exact PR.c3 hPm.out)
        (first | (go_at_call 19; refine (bad_no (PR.pcell (PR.same hP2.out (by rfl) (by rfl) (by rfl) (by rfl))) h1 y now hbad).mono ?_; rintro en w8 ⟨rfl, rfl⟩) | (go_at_call 31; refine (bad31_no y now hbad _).mono ?_; rintro en w9 ⟨rfl, rfl⟩))
      all_goals
        go_wp2_with fail
        go_ret
        exact ⟨rfl, L, (PR.same hP2.out (by rfl) (by rfl) (by rfl) (by rfl)).drop, hL'.out, hl'.out⟩
    · have hm : Hid (momB now = true) := Lib.hid (by
        cases h : momB now
        · exact absurd h hbad
        · rfl)
      clear hbad
      go_wp2_with (at_builtin; refine app_run rfl (.tmp 13) (.tmp 15) 23 23 rfl rfl rfl hr ?_)
      go_region_held3 (fun w' => w'.cell? ⟨x, 2, none⟩ = some (.int .u32 y) ∧ w'.cell? ⟨x, 3, none⟩ = some (.int .i64 trip) ∧ w'.cell? ⟨x, 4, none⟩ = some (.int .i64 now))
        (first | assumption | exact ⟨kc2, kc3, kc4⟩ | exact PR.c3 hPn.out | exact PR.c3 hPm.out)
        (first | (go_at_call 19; refine ((PR.same hP2.out (by rfl) (by rfl) (by rfl) (by rfl)).prog (fun v hv => bad19 hv h1 hll.out hL'.out y now hm.out)).mono ?_; rintro en w8 ⟨rfl, hPn0⟩; have hPn := Lib.hid hPn0; clear hPn0) | (go_at_call 31; refine ((PR.same hPn.out (by rfl) (by rfl) (by rfl) (by rfl)).ref (hrd_pos h1) (fun a c hv => bad31 hv h1 hll.out hL'.out y now hm.out)).mono ?_; rintro en w9 ⟨rfl, hPm0⟩; have hPm := Lib.hid hPm0; clear hPm0))
      all_goals
        go_wp2_with fail
        go_ret
        exact ⟨rfl, _, (PR.same hPm.out (by rfl) (by rfl) (by rfl) (by rfl)).drop, kb_hrd hL'.out (kb_bad hL'.out y now), hrd_room hl'.out⟩
  by_cases hk3 : kind = 3
  · have hk := hk3
    clear hk3
    have hK : kind = 3 := hk
    subst hK
    by_cases hbad : momB now = false
    · go_wp2_with (at_builtin; refine app_run rfl (.tmp 13) (.tmp 15) 23 23 rfl rfl rfl hr ?_)
      go_region_held3 (fun w' => w'.cell? ⟨x, 2, none⟩ = some (.int .u32 y) ∧ w'.cell? ⟨x, 3, none⟩ = some (.int .i64 trip) ∧ w'.cell? ⟨x, 4, none⟩ = some (.int .i64 now))
        (first | assumption | exact ⟨kc2, kc3, kc4⟩ | exact PR.c3 hPn.out | exact PR.c3 hPm.out)
        (first | (go_at_call 20; refine (lame_no (PR.pcell (PR.same hP2.out (by rfl) (by rfl) (by rfl) (by rfl))) h1 y now hbad).mono ?_; rintro en w8 ⟨rfl, rfl⟩) | (go_at_call 32; refine (lame32_no y now hbad _).mono ?_; rintro en w9 ⟨rfl, rfl⟩))
      all_goals
        go_wp2_with fail
        go_ret
        exact ⟨rfl, L, (PR.same hP2.out (by rfl) (by rfl) (by rfl) (by rfl)).drop, hL'.out, hl'.out⟩
    · have hm : Hid (momB now = true) := Lib.hid (by
        cases h : momB now
        · exact absurd h hbad
        · rfl)
      clear hbad
      go_wp2_with (at_builtin; refine app_run rfl (.tmp 13) (.tmp 15) 23 23 rfl rfl rfl hr ?_)
      go_region_held3 (fun w' => w'.cell? ⟨x, 2, none⟩ = some (.int .u32 y) ∧ w'.cell? ⟨x, 3, none⟩ = some (.int .i64 trip) ∧ w'.cell? ⟨x, 4, none⟩ = some (.int .i64 now))
        (first | assumption | exact ⟨kc2, kc3, kc4⟩ | exact PR.c3 hPn.out | exact PR.c3 hPm.out)
        (first | (go_at_call 20; refine ((PR.same hP2.out (by rfl) (by rfl) (by rfl) (by rfl)).prog (fun v hv => lame20 hv h1 hll.out y now hm.out)).mono ?_; rintro en w8 ⟨rfl, hPn0⟩; have hPn := Lib.hid hPn0; clear hPn0) | (go_at_call 32; refine ((PR.same hPn.out (by rfl) (by rfl) (by rfl) (by rfl)).ref (hrd_pos h1) (fun a c hv => lame32 hv h1 hll.out y now hm.out)).mono ?_; rintro en w9 ⟨rfl, hPm0⟩; have hPm := Lib.hid hPm0; clear hPm0))
      all_goals
        go_wp2_with fail
        go_ret
        exact ⟨rfl, _, (PR.same hPm.out (by rfl) (by rfl) (by rfl) (by rfl)).drop, kb_hrd hL'.out (kb_lame hL'.out y now), hrd_room hl'.out⟩
  by_cases hk4 : kind = 4
  · have hk := hk4
    clear hk4
    have hK : kind = 4 := hk
    subst hK
    obtain ⟨z, hz⟩ : ∃ z, Hid (waitK L y = z) := ⟨_, Lib.hid rfl⟩
    go_wp2_with (at_builtin; refine app_run rfl (.tmp 13) (.tmp 15) 23 23 rfl rfl rfl hr ?_)
    go_region_held3 (fun w' => w'.cell? ⟨x, 2, none⟩ = some (.int .u32 y) ∧ w'.cell? ⟨x, 3, none⟩ = some (.int .i64 trip) ∧ w'.cell? ⟨x, 4, none⟩ = some (.int .i64 now))
      (first | assumption | exact ⟨kc2, kc3, kc4⟩ | exact PR.c3 hPn.out | exact PR.c3 hPm.out)
      (first | (go_at_call 21; refine ((PR.same hP2.out (by rfl) (by rfl) (by rfl) (by rfl)).look (fun v a c hv hr => wait21 hv h1 hll.out hL'.out y)).mono ?_; rw [hz.out]; rintro en w8 ⟨rfl, -, hPn0⟩; have hPn := Lib.hid hPn0; clear hPn0) | (go_at_call 33; refine ((PR.same hPn.out (by rfl) (by rfl) (by rfl) (by rfl)).look (fun v a c hv hr => wait33 hr hll.out hL'.out y)).mono ?_; rw [hz.out]; rintro en w9 ⟨rfl, -, hPm0⟩; have hPm := Lib.hid hPm0; clear hPm0))
    all_goals
      go_wp2_with fail
      go_ret
      exact ⟨rfl, _, (PR.same hPm.out (by rfl) (by rfl) (by rfl) (by rfl)).drop, hL'.out, hl'.out⟩
  have n0 : (kind == 0) = false := beq_eq_false_iff_ne.2 hk0
  have n1 : (kind == 1) = false := beq_eq_false_iff_ne.2 hk1
  have n2 : (kind == 2) = false := beq_eq_false_iff_ne.2 hk2
  have n3 : (kind == 3) = false := beq_eq_false_iff_ne.2 hk3
  have n4 : (kind == 4) = false := beq_eq_false_iff_ne.2 hk4
  go_wp2_with (at_builtin; refine app_run rfl (.tmp 13) (.tmp 15) 23 23 rfl rfl rfl hr ?_)
  go_ret
  exact ⟨rfl, L, hP2.out.drop, hL'.out, hl'.out⟩
end Go.Proofs.Ytjkeijjfjbcaiaa
