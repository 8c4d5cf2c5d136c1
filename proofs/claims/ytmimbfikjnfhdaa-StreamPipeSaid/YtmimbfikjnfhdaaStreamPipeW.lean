/- StreamPipe: the walk. -/
import Derived.Test.YtmimbfikjnfhdaaStO
import Derived.Test.YtmimbfikjnfhdaaOpenL
import Derived.Deep.RegionHeld3
import Derived.Deep.Slices
namespace Go.Proofs.Ytmimbfikjnfhdaa
open Go.RowKit
abbrev A3 := Int × Int × Int
def actE : Enc A3 := ⟨32, 3, fun t => [.int .i64 t.1, .int .u16 t.2.1, .int .i64 t.2.2], (0, 0, 0), fun _ => rfl, fun x v hv => by simp at hv; rcases hv with rfl | rfl | rfl <;> rfl, by decide⟩
theorem rd_act {w : World} {a : Option Addr} {n c : Nat} {l : List A3} (h : Rd actE w a n c l) (h0 : 0 < n) : ∃ b o, a = some ⟨b, o, none⟩ ∧ b < w.heap.size ∧ ∀ j (hj : j < l.length), w.cell? ⟨b, o + j * 3, none⟩ = some (.int .i64 l[j].1) ∧ w.cell? ⟨b, o + j * 3 + 1, none⟩ = some (.int .u16 l[j].2.1) ∧ w.cell? ⟨b, o + j * 3 + 2, none⟩ = some (.int .i64 l[j].2.2) := by
  obtain ⟨b, o, h1, h3, h2⟩ := h.addr h0
  refine ⟨b, o, h1, h3, fun j hj => ⟨?_, ?_, ?_⟩⟩
  · have := h2 j hj 0 (by decide); simpa [actE] using this
  · have := h2 j hj 1 (by decide); simpa [actE, Nat.add_assoc] using this
  · have := h2 j hj 2 (by decide); simpa [actE, Nat.add_assoc] using this
def okAct (t : A3) : Prop := (Lit.int .u16 t.2.1).wf = true ∧ (Lit.int .i64 t.2.2).wf = true
set_option maxHeartbeats 16000000 in
set_option maxRecDepth 100000 in
theorem streamPipe_walk {W : World} (most : Int) {a : Option Addr} {n c : Nat} {l : List A3} (h : Rd actE W a n c l) (hok : ∀ t ∈ l, okAct t) :
    Calls Try.prog 3 #[.int .i64 most, .slice a n c] W fun e w' => e = .returned (.bool true) ∧ Below W.heap.size W w' := by
  have hl := h.len
  subst hl
  have hH := Lib.hid h
  have hOk := Lib.hid hok
  clear h hok
  by_cases h300 : 300 < l.length
  · have hI : (300 : Int) < l.length := by omega
    go_enter Try.func3, Try.ntmps3
    go_wp2_with fail
    go_ret
    exact ⟨rfl, Below.refl _ _⟩
  have hI : ¬ ((300 : Int) < l.length) := by omega
  by_cases hm : 1 ≤ most ∧ most ≤ 256
  · go_enter Try.func3, Try.ntmps3
    go_wp2_with fail
    refine (pnew_yes W most hm.1 hm.2).mono ?_
    rintro e w1 ⟨rfl, hP1, k1⟩
    have hP1' := Lib.hid hP1
    clear hP1
    go_wp2_with fail
    refine (rnew_yes w1 most hm.1 hm.2).mono ?_
    rintro e w2 ⟨rfl, hR2, k2⟩
    have hS2 : Hid (St none w2 W.heap.size w1.heap.size most [] [] 0) := Lib.hid (by
      have h1 := hP1'.out.lt
      refine ⟨none, none, hP1'.out.ext k2, hR2, fun k hk hr => ?_, fun k hk => ⟨by simp, ?_⟩⟩
      · rcases hk with h | h | h <;> rcases hr with h' | h' <;> first | omega | exact absurd h (by simp) | exact absurd h' (by simp)
      · have := hR2.lt
        rcases hk with (h | h | h) | (h | h) <;> first | omega | exact absurd h (by simp))
    have hb2 : Below W.heap.size W w2 := k1.trans (k2.mono k1.size)
    have hW1 : W.heap.size + 1 < w1.heap.size := hP1'.out.lt.1
    clear hR2 hP1'
    generalize hm1 : W.heap.size = m at *
    generalize hg1 : w1.heap.size = g at *
    go_wp2_with fail
    go_loopw [9] (fun i wr => ∃ (k : Nat) (L : List (Int × Int)) (q : Nat), k ≤ l.length ∧ i = .int .i64 k ∧ Hid (St none wr m g most L L q) ∧ Hid (goodP L) ∧ (L.length : Int) ≤ most ∧ q ≤ k ∧ Below m W wr)
      (fun i _ => l.length - (intOf i).toNat)
    case atStart => exact ⟨0, [], 0, Nat.zero_le _, rfl, hS2, Lib.hid ⟨by simp, fun p hp => by cases hp⟩, by simp; omega, Nat.le_refl _, hb2⟩
    case round =>
      clear hS2 hb2 k1 k2
      obtain ⟨k, L, q, hk, rfl, hS, hg, hLm, hqk, hb⟩ := hrel
      have hL1 : L.length ≤ 1000000 := by omega
      by_cases hlt : k < l.length
      · have hkI : (k : Int) < l.length := by omega
        obtain ⟨b, o, e1, hbl, hcs⟩ := rd_act hH.out (by omega)
        subst e1
        rw [hm1] at hbl
        obtain ⟨q0, q1, q2⟩ := hcs k hlt
        have hokk := Lib.hid (hOk.out l[k] (List.getElem_mem _))
        generalize l[k] = t at *
        obtain ⟨tk, id, key⟩ := t
        simp only at q0 q1 q2
        have p0 : wr.cell? ⟨b, o + k * 3, none⟩ = some (.int .i64 tk) := (hb.cell (p := ⟨b, o + k * 3, none⟩) hbl).trans q0
        have p1 : wr.cell? ⟨b, o + k * 3 + 1, none⟩ = some (.int .u16 id) := (hb.cell (p := ⟨b, o + k * 3 + 1, none⟩) hbl).trans q1
        have p2 : wr.cell? ⟨b, o + k * 3 + 2, none⟩ = some (.int .i64 key) := (hb.cell (p := ⟨b, o + k * 3 + 2, none⟩) hbl).trans q2
        clear hcs q0 q1 q2
        by_cases hk0 : tk = 0
        · subst hk0
          have kA : Below wr.heap.size wr (wr.alloc (.cells #[.int .i64 0, .int .u16 id, .int .i64 key] 32)) := (Below.refl _ _).alloc (Nat.le_refl _) _
          have hSA : Hid (St (some wr.heap.size) (wr.alloc (.cells #[.int .i64 0, .int .u16 id, .int .i64 key] 32)) m g most L L q) := Lib.hid (hS.out.ext kA (fun k e => by cases e; exact .inl (Nat.le_refl _)))
          have hB := Blk.new wr 32 (0, 0) #[.int .i64 0, .int .u16 id, .int .i64 key]
          have d0 : (wr.alloc (.cells #[.int .i64 0, .int .u16 id, .int .i64 key] 32)).cell? ⟨wr.heap.size, 0, none⟩ = some (.int .i64 0) := by rw [hB.cell]; rfl
          have d1 : (wr.alloc (.cells #[.int .i64 0, .int .u16 id, .int .i64 key] 32)).cell? ⟨wr.heap.size, 1, none⟩ = some (.int .u16 id) := by rw [hB.cell]; rfl
          have d2 : (wr.alloc (.cells #[.int .i64 0, .int .u16 id, .int .i64 key] 32)).cell? ⟨wr.heap.size, 2, none⟩ = some (.int .i64 key) := by rw [hB.cell]; rfl
          have hz : wr.heap.size < (wr.alloc (.cells #[.int .i64 0, .int .u16 id, .int .i64 key] 32)).heap.size := hB.lt
          have hbA : Below m W (wr.alloc (.cells #[.int .i64 0, .int .u16 id, .int .i64 key] 32)) := hb.trans (kA.mono hS.out.size)
          clear hB kA
          go_wp2_with fail
          generalize wr.alloc (.cells #[.int .i64 0, .int .u16 id, .int .i64 key] 32) = wA at *
          generalize wr.heap.size = z at *
          rcases hv0 : lookI L id with _ | v
          · have hv := Lib.hid hv0
            clear hv0
            by_cases hfull : (L.length : Int) = most
            · have hf := Lib.hid hfull
              clear hfull
              go_region_held3 (fun w' => w'.cell? ⟨z, 1, none⟩ = some (.int .u16 id) ∧ w'.cell? ⟨z, 2, none⟩ = some (.int .i64 key))
                (first | assumption | exact ⟨d1, d2⟩ | exact (fun h => ⟨h.1, h.2⟩) hs3 | exact (fun h => ⟨h.1, h.2⟩) hs4)
                (first | (go_at_call 12; refine (st_open_full (hSA.out.same (by rfl)) hokk.out.1 hv.out hf.out).mono ?_; rintro e w3 ⟨rfl, hS3, hK3⟩; have hs3 := And.intro (hK3.cell rfl d1) (hK3.cell rfl d2); have hS3' := Lib.hid hS3; have hK3' : Hid (Kp (some z) m wA w3) := Lib.hid (hK3.from rfl rfl rfl rfl); clear hS3 hK3) | (go_at_call 13; refine (st_ropen_full (hS3'.out.same (by rfl)) hv.out (by have := hf.out; omega) hL1).mono ?_; rintro e w4 ⟨rfl, hS4, hK4⟩; have hs4 := And.intro (hK4.cell rfl hs3.1) (hK4.cell rfl hs3.2); have hS4' := Lib.hid hS4; have hK4' : Hid (Kp (some z) m w3 w4) := Lib.hid (hK4.from rfl rfl rfl rfl); clear hS4 hK4))
              go_wp2_with fail
              go_roundw
              case rel => exact ⟨k + 1, L, q, by omega, by go_num, Lib.hid (hS4'.out.ext (Below.refl _ _) (fun k e => by cases e)), hg, hLm, by omega, hbA.trans (hK3'.out.below.trans hK4'.out.below)⟩
              case measure => simp [intOf]; omega
            · have hlt2 : (L.length : Int) < most := by omega
              go_region_held3 (fun w' => w'.cell? ⟨z, 1, none⟩ = some (.int .u16 id) ∧ w'.cell? ⟨z, 2, none⟩ = some (.int .i64 key))
                (first | assumption | exact ⟨d1, d2⟩ | exact (fun h => ⟨h.1, h.2⟩) hs3 | exact (fun h => ⟨h.1, h.2⟩) hs4)
                (first | (go_at_call 12; refine (st_open_ok (hSA.out.same (by rfl)) hokk.out.1 hokk.out.2 hv.out hfull (by omega) hL1 (fun q e => by cases e; exact hz)).mono ?_; rintro e w3 ⟨rfl, hS3, hK3⟩; have hs3 := And.intro (hK3.cell rfl d1) (hK3.cell rfl d2); have hS3' := Lib.hid hS3; have hK3' : Hid (Kp (some z) m wA w3) := Lib.hid (hK3.from rfl rfl rfl rfl); clear hS3 hK3) | (go_at_call 13; refine (st_ropen_ok (hS3'.out.same (by rfl)) hv.out hlt2 hL1 (fun q e => by cases e; exact Nat.lt_of_lt_of_le hz hK3'.out.below.size)).mono ?_; rintro e w4 ⟨rfl, hS4, hK4⟩; have hs4 := And.intro (hK4.cell rfl hs3.1) (hK4.cell rfl hs3.2); have hS4' := Lib.hid hS4; have hK4' : Hid (Kp (some z) m w3 w4) := Lib.hid (hK4.from rfl rfl rfl rfl); clear hS4 hK4))
              go_wp2_with fail
              go_roundw
              case rel => exact ⟨k + 1, L ++ [(id, key)], q + 1, by omega, by go_num, Lib.hid (hS4'.out.ext (Below.refl _ _) (fun k e => by cases e)), Lib.hid (goodP_snoc hg.out hv.out hokk.out), by simp; omega, by omega, hbA.trans (hK3'.out.below.trans hK4'.out.below)⟩
              case measure => simp [intOf]; omega
          · have hv := Lib.hid hv0
            clear hv0
            go_region_held3 (fun w' => w'.cell? ⟨z, 1, none⟩ = some (.int .u16 id) ∧ w'.cell? ⟨z, 2, none⟩ = some (.int .i64 key))
              (first | assumption | exact ⟨d1, d2⟩ | exact (fun h => ⟨h.1, h.2⟩) hs3 | exact (fun h => ⟨h.1, h.2⟩) hs4)
              (first | (go_at_call 12; refine (st_open_there (hSA.out.same (by rfl)) hokk.out.1 hv.out).mono ?_; rintro e w3 ⟨rfl, hS3, hK3⟩; have hs3 := And.intro (hK3.cell rfl d1) (hK3.cell rfl d2); have hS3' := Lib.hid hS3; have hK3' : Hid (Kp (some z) m wA w3) := Lib.hid (hK3.from rfl rfl rfl rfl); clear hS3 hK3) | (go_at_call 13; refine (st_ropen_there (hS3'.out.same (by rfl)) hv.out hg.out.1 hL1).mono ?_; rintro e w4 ⟨rfl, hS4, hK4⟩; have hs4 := And.intro (hK4.cell rfl hs3.1) (hK4.cell rfl hs3.2); have hS4' := Lib.hid hS4; have hK4' : Hid (Kp (some z) m w3 w4) := Lib.hid (hK4.from rfl rfl rfl rfl); clear hS4 hK4))
            go_wp2_with fail
            go_roundw
            case rel => exact ⟨k + 1, L, q, by omega, by go_num, Lib.hid (hS4'.out.ext (Below.refl _ _) (fun k e => by cases e)), hg, hLm, by omega, hbA.trans (hK3'.out.below.trans hK4'.out.below)⟩
            case measure => simp [intOf]; omega
        · by_cases hk1 : tk = 1
          · subst hk1
            clear hk0
            have kA : Below wr.heap.size wr (wr.alloc (.cells #[.int .i64 1, .int .u16 id, .int .i64 key] 32)) := (Below.refl _ _).alloc (Nat.le_refl _) _
            have hSA : Hid (St (some wr.heap.size) (wr.alloc (.cells #[.int .i64 1, .int .u16 id, .int .i64 key] 32)) m g most L L q) := Lib.hid (hS.out.ext kA (fun k e => by cases e; exact .inl (Nat.le_refl _)))
            have hB := Blk.new wr 32 (0, 0) #[.int .i64 1, .int .u16 id, .int .i64 key]
            have d0 : (wr.alloc (.cells #[.int .i64 1, .int .u16 id, .int .i64 key] 32)).cell? ⟨wr.heap.size, 0, none⟩ = some (.int .i64 1) := by rw [hB.cell]; rfl
            have d1 : (wr.alloc (.cells #[.int .i64 1, .int .u16 id, .int .i64 key] 32)).cell? ⟨wr.heap.size, 1, none⟩ = some (.int .u16 id) := by rw [hB.cell]; rfl
            have d2 : (wr.alloc (.cells #[.int .i64 1, .int .u16 id, .int .i64 key] 32)).cell? ⟨wr.heap.size, 2, none⟩ = some (.int .i64 key) := by rw [hB.cell]; rfl
            have hz : wr.heap.size < (wr.alloc (.cells #[.int .i64 1, .int .u16 id, .int .i64 key] 32)).heap.size := hB.lt
            have hbA : Below m W (wr.alloc (.cells #[.int .i64 1, .int .u16 id, .int .i64 key] 32)) := hb.trans (kA.mono hS.out.size)
            clear hB kA
            go_wp2_with fail
            generalize wr.alloc (.cells #[.int .i64 1, .int .u16 id, .int .i64 key] 32) = wA at *
            generalize wr.heap.size = z at *
            rcases hv0 : lookI L id with _ | v
            · have hv := Lib.hid hv0
              clear hv0
              refine (st_close_no hSA.out hokk.out.1 hv.out).mono ?_
              rintro e w3 ⟨rfl, hS3, hK3⟩
              have hs3 := hK3.cell rfl d1
              have hS3' := Lib.hid hS3
              clear hS3
              go_wp2_with fail
              refine (st_rclose_no hS3'.out hv.out hL1).mono ?_
              rintro e w4 ⟨rfl, hS4, hK4⟩
              have hS4' := Lib.hid hS4
              clear hS4
              go_wp2_with fail
              go_roundw
              case rel => exact ⟨k + 1, L, q, by omega, by go_num, Lib.hid (hS4'.out.ext (Below.refl _ _) (fun k e => by cases e)), hg, hLm, by omega, hbA.trans (hK3.below.trans hK4.below)⟩
              case measure => simp [intOf]; omega
            · have hv := Lib.hid hv0
              clear hv0
              refine (st_close_yes hSA.out hokk.out.1 hv.out hL1 (fun q e => by cases e; exact hz)).mono ?_
              rintro e w3 ⟨rfl, hS3, hK3⟩
              have hs3 := hK3.cell rfl d1
              have hS3' := Lib.hid hS3
              clear hS3
              go_wp2_with fail
              refine (st_rclose_yes hS3'.out hv.out hg.out.1 hL1 (fun q e => by cases e; exact Nat.lt_of_lt_of_le hz hK3.below.size)).mono ?_
              rintro e w4 ⟨rfl, hS4, hK4⟩
              have hS4' := Lib.hid hS4
              clear hS4
              go_wp2_with fail
              go_roundw
              case rel => exact ⟨k + 1, dropI L id, q, by omega, by go_num, Lib.hid (hS4'.out.ext (Below.refl _ _) (fun k e => by cases e)), Lib.hid (goodP_drop hg.out id), by have := drop_len L id; omega, by omega, hbA.trans (hK3.below.trans hK4.below)⟩
              case measure => simp [intOf]; omega
          · by_cases hk2 : tk = 2
            · subst hk2
              clear hk0 hk1
              have kA : Below wr.heap.size wr (wr.alloc (.cells #[.int .i64 2, .int .u16 id, .int .i64 key] 32)) := (Below.refl _ _).alloc (Nat.le_refl _) _
              have hSA : Hid (St (some wr.heap.size) (wr.alloc (.cells #[.int .i64 2, .int .u16 id, .int .i64 key] 32)) m g most L L q) := Lib.hid (hS.out.ext kA (fun k e => by cases e; exact .inl (Nat.le_refl _)))
              have hB := Blk.new wr 32 (0, 0) #[.int .i64 2, .int .u16 id, .int .i64 key]
              have d0 : (wr.alloc (.cells #[.int .i64 2, .int .u16 id, .int .i64 key] 32)).cell? ⟨wr.heap.size, 0, none⟩ = some (.int .i64 2) := by rw [hB.cell]; rfl
              have d1 : (wr.alloc (.cells #[.int .i64 2, .int .u16 id, .int .i64 key] 32)).cell? ⟨wr.heap.size, 1, none⟩ = some (.int .u16 id) := by rw [hB.cell]; rfl
              have d2 : (wr.alloc (.cells #[.int .i64 2, .int .u16 id, .int .i64 key] 32)).cell? ⟨wr.heap.size, 2, none⟩ = some (.int .i64 key) := by rw [hB.cell]; rfl
              have hz : wr.heap.size < (wr.alloc (.cells #[.int .i64 2, .int .u16 id, .int .i64 key] 32)).heap.size := hB.lt
              have hbA : Below m W (wr.alloc (.cells #[.int .i64 2, .int .u16 id, .int .i64 key] 32)) := hb.trans (kA.mono hS.out.size)
              clear hB kA
              go_wp2_with fail
              generalize wr.alloc (.cells #[.int .i64 2, .int .u16 id, .int .i64 key] 32) = wA at *
              generalize wr.heap.size = z at *
              refine (st_keys hSA.out hg.out hL1).mono ?_
              rintro e w3 ⟨⟨a3, c3, rfl, hO3⟩, kb3⟩
              have hS3 : Hid (St (Value.slice a3 L.length c3).ownBlock w3 m g most L L q) := Lib.hid (hSA.out.ext kb3 (fun k e => .inl (hO3.lt k e).1))
              have hO3' := Lib.hid hO3
              have hK3 : Kp (Value.slice a3 L.length c3).ownBlock m wA w3 := Kp.of_below kb3 hSA.out.size
              clear hO3
              go_wp2_with fail
              refine (st_rkeys hS3.out hL1).mono ?_
              rintro e w4 ⟨⟨a4, c4, rfl, hO4⟩, kb4⟩
              have hO34 := Lib.hid (hO3'.out.ext kb4)
              have hS4 : Hid (St (Value.slice a3 L.length c3).ownBlock w4 m g most L L q) := Lib.hid (hS3.out.ext kb4 (fun k e => .inr e))
              have hK4 := hK3.trans (Kp.of_below kb4 hS3.out.size)
              have hr3 : Hid (Rd intE w4 a3 L.length c3 (kys L)) := Lib.hid (by obtain ⟨a', c', e, r⟩ := hO34.out.rd; rw [kys_length] at e r; cases e; exact r)
              have hr4 : Hid (Rd intE w4 a4 L.length c4 (kys L)) := Lib.hid (by obtain ⟨a', c', e, r⟩ := hO4.rd; rw [kys_length] at e r; cases e; exact r)
              clear hO4
              go_wp2_with fail
              refine (same_ints hr3.out hr4.out hL1 hL1).mono ?_
              rw [show decide (kys L = kys L) = true by simp]
              rintro e w5 ⟨rfl, kb5⟩
              have hO5 := Lib.hid (hO34.out.ext kb5)
              have hS5 : Hid (St (Value.slice a3 L.length c3).ownBlock w5 m g most L L q) := Lib.hid (hS4.out.ext kb5 (fun k e => .inr e))
              have hK5 := hK4.trans (Kp.of_below kb5 hS4.out.size)
              have hb5 : Below m W w5 := hbA.trans hK5.below
              have hzA : m ≤ wA.heap.size := hSA.out.size
              clear hS3 hS4 hK3 hK4 hK5 hO3' hO34 hr3 hr4 kb3 kb4 kb5 hSA hbA d0 d1 d2
              go_wp2_with fail
              go_loopw [17] (fun j wr2 => ∃ (j' : Nat) (l2 : List Int), j' ≤ L.length ∧ j = .int .i64 j' ∧ Hid (Own intE wr2 wA.heap.size (.slice a3 L.length c3) l2) ∧ Hid (l2.length = L.length) ∧ Hid (St (Value.slice a3 L.length c3).ownBlock wr2 m g most L L q) ∧ Below m W wr2)
                (fun j _ => L.length - (intOf j).toNat)
              case atStart => exact ⟨0, kys L, Nat.zero_le _, rfl, hO5, Lib.hid (kys_length L), hS5, hb5⟩
              case round =>
                clear hO5 hS5 hb5
                obtain ⟨j, l2, hj, rfl, hO, hl2, hS2, hbb⟩ := hrel
                by_cases hjl : j < L.length
                · have hjI : (j : Int) < L.length := by omega
                  rcases hO.out with ⟨e, e2⟩ | ⟨gl, cap, X, e, hbg, hB, hX, hle, hcm, htk⟩
                  · exfalso
                    have := hl2.out
                    rw [e2] at this
                    simp at this
                    omega
                  · simp only [Value.slice.injEq] at e
                    obtain ⟨rfl, e2, rfl⟩ := e
                    have hXj : j < X.length := by have := hl2.out; omega
                    have r1 : wr.cell? ⟨gl, j, none⟩ = some (.int .i64 (X[j]'hXj)) := by
                      rw [hB.cell]
                      have := rowOf_get intE X j 0 hXj (by decide)
                      simpa [intE] using this
                    have r2 : wr.frozen? ⟨gl, j, none⟩ = false := by rw [hB.frozen]; simp
                    have hT : Tch (fun k => k = gl) wr (wr.setCell ⟨gl, j, none⟩ (.int .i64 (-7))) := Tch.setCell (S := fun k => k = gl) wr (p := ⟨gl, j, none⟩) rfl _
                    have hS3 : Hid (St (Value.slice (some ⟨gl, 0, none⟩) L.length c3).ownBlock (wr.setCell ⟨gl, j, none⟩ (.int .i64 (-7))) m g most L L q) := Lib.hid (hS2.out.tch hT (fun k _ _ hne e => hne (by rw [e]; rfl)) (fun k e => .inr e))
                    have hO3 : Hid (Own intE (wr.setCell ⟨gl, j, none⟩ (.int .i64 (-7))) wA.heap.size (.slice (some ⟨gl, 0, none⟩) L.length c3) (l2.set j (-7))) := Lib.hid (by
                      refine .inr ⟨gl, c3, X.set j (-7), by simp [e2], hbg, ?_, by simpa using hX, by simpa using hle, hcm, ?_⟩
                      · have := hB.set j (.int .i64 (-7))
                        have e3 : (rowOf intE X).set j (.int .i64 (-7)) = rowOf intE (X.set j (-7)) := by
                          have er : ∀ Y : List Int, rowOf intE Y = Y.map fun x => Value.int .i64 x := fun Y => by
                            induction Y with
                            | nil => rfl
                            | cons y r ih => simp only [rowOf, List.flatMap_cons, List.map_cons] at ih ⊢; rw [ih]; rfl
                          rw [er, er, List.map_set]
                        rw [e3] at this
                        exact this
                      · rw [List.length_set, List.take_set, htk])
                    have hb3 : Below m W (wr.setCell ⟨gl, j, none⟩ (.int .i64 (-7))) := hbb.setCell (by have := hzA; show m ≤ gl; omega) _
                    have hl3 : Hid ((l2.set j (-7)).length = L.length) := Lib.hid (by rw [List.length_set]; exact hl2.out)
                    clear e2 hX htk hle hB hT
                    go_wp2_with fail
                    go_roundw
                    case rel => exact ⟨j + 1, _, by omega, by go_num, hO3, hl3, hS3, hb3⟩
                    case measure => simp [intOf]; omega
                · have hj' : j = L.length := by omega
                  subst hj'
                  go_wp2_with fail
                  go_roundw
                  case rel => exact ⟨k + 1, L, q, by omega, by go_num, Lib.hid (hS2.out.ext (Below.refl _ _) (fun k e => by cases e)), hg, hLm, by omega, hbb⟩
                  case measure => simp [intOf]; omega
            · have hb0 : (tk == 0) = false := by simp [hk0]
              have hb1 : (tk == 1) = false := by simp [hk1]
              have hb2 : (tk == 2) = false := by simp [hk2]
              have kA : Below wr.heap.size wr (wr.alloc (.cells #[.int .i64 tk, .int .u16 id, .int .i64 key] 32)) := (Below.refl _ _).alloc (Nat.le_refl _) _
              have hSA : Hid (St (some wr.heap.size) (wr.alloc (.cells #[.int .i64 tk, .int .u16 id, .int .i64 key] 32)) m g most L L q) := Lib.hid (hS.out.ext kA (fun k e => by cases e; exact .inl (Nat.le_refl _)))
              have hB := Blk.new wr 32 (0, 0) #[.int .i64 tk, .int .u16 id, .int .i64 key]
              have d0 : (wr.alloc (.cells #[.int .i64 tk, .int .u16 id, .int .i64 key] 32)).cell? ⟨wr.heap.size, 0, none⟩ = some (.int .i64 tk) := by rw [hB.cell]; rfl
              have d1 : (wr.alloc (.cells #[.int .i64 tk, .int .u16 id, .int .i64 key] 32)).cell? ⟨wr.heap.size, 1, none⟩ = some (.int .u16 id) := by rw [hB.cell]; rfl
              have d2 : (wr.alloc (.cells #[.int .i64 tk, .int .u16 id, .int .i64 key] 32)).cell? ⟨wr.heap.size, 2, none⟩ = some (.int .i64 key) := by rw [hB.cell]; rfl
              have hz : wr.heap.size < (wr.alloc (.cells #[.int .i64 tk, .int .u16 id, .int .i64 key] 32)).heap.size := hB.lt
              have hbA : Below m W (wr.alloc (.cells #[.int .i64 tk, .int .u16 id, .int .i64 key] 32)) := hb.trans (kA.mono hS.out.size)
              clear hB kA
              go_wp2_with fail
              go_roundw
              case rel => exact ⟨k + 1, L, q, by omega, by go_num, Lib.hid (hSA.out.ext (Below.refl _ _) (fun k e => by cases e)), hg, hLm, by omega, hbA⟩
              case measure => simp [intOf]; omega
      · have hk' : k = l.length := by omega
        subst hk'
        go_wp2_with fail
        refine (st_keys hS.out hg.out hL1).mono ?_
        rintro e w3 ⟨⟨a3, c3, rfl, hO3⟩, kb3⟩
        have hS3 : Hid (St none w3 m g most L L q) := Lib.hid (hS.out.ext kb3 (fun k e => by cases e))
        have hO3' := Lib.hid hO3
        clear hO3
        go_wp2_with fail
        refine (st_rkeys hS3.out hL1).mono ?_
        rintro e w4 ⟨⟨a4, c4, rfl, hO4⟩, kb4⟩
        have hr3 : Hid (Rd intE w4 a3 L.length c3 (kys L)) := Lib.hid (by obtain ⟨a', c', e, r⟩ := (hO3'.out.ext kb4).rd; rw [kys_length] at e r; cases e; exact r)
        have hr4 : Hid (Rd intE w4 a4 L.length c4 (kys L)) := Lib.hid (by obtain ⟨a', c', e, r⟩ := hO4.rd; rw [kys_length] at e r; cases e; exact r)
        have hz3 := hS3.out.size
        have hz0 := hS.out.size
        clear hO4
        go_wp2_with fail
        refine (same_ints hr3.out hr4.out hL1 hL1).mono ?_
        rw [show decide (kys L = kys L) = true by simp]
        rintro e w5 ⟨rfl, kb5⟩
        go_wp2_with fail
        go_ret
        exact ⟨rfl, by rw [hm1]; exact hb.trans ((kb3.mono hz0).trans ((kb4.mono hz3).trans (kb5.mono (by have := kb4.size; omega))))⟩
  · go_enter Try.func3, Try.ntmps3
    go_wp2_with fail
    refine (pnew_no W most (by omega)).mono ?_
    rintro e w1 ⟨rfl, rfl⟩
    go_wp2_with fail
    refine (rnew_no W most (by omega)).mono ?_
    rintro e w1 ⟨rfl, rfl⟩
    go_wp2_with fail
    go_loopw [9] (fun i wr => i = .int .i64 0 ∧ W = wr) (fun _ _ => 0)
    case atStart => exact ⟨rfl, rfl⟩
    case round =>
      obtain ⟨rfl, rfl⟩ := hrel
      go_wp2_with fail
      go_ret
      exact ⟨rfl, Below.refl _ _⟩
section
open Go.ChangeShapes Go.WideShapes Go.Deep
def fieldsOf (P : Program) (t : TypeId) : List (TypeId × Nat) := match P.underlying t with
  | some (.struct fs) => fs.toList.map fun f => (f.type, f.offset)
  | _ => []
theorem three_fields {P : Program} {t a b c d e f : Nat} (h : fieldsOf P t = [(a, b), (c, d), (e, f)]) : ∃ f0 f1 f2 : Field, P.underlying t = some (.struct #[f0, f1, f2]) ∧ f0.offset = b ∧ f1.offset = d ∧ f2.offset = f ∧ f0.type = a ∧ f1.type = c ∧ f2.type = e := by
  unfold fieldsOf at h
  split at h
  · rename_i fs hfs
    obtain ⟨fl⟩ := fs
    match fl, h with
    | [f0, f1, f2], h =>
      simp at h
      exact ⟨f0, f1, f2, hfs, h.1.2, h.2.1.2, h.2.2.2, h.1.1, h.2.1.1, h.2.2.1⟩
  · cases h
set_option maxRecDepth 100000 in
theorem open_acts {H : Type} {enc : TypeId × Value → H} {w : World} {v : Value} {d : DataW H} {p : List MemPlace} {r : Reach} {b0 : Nat} (hv : Value.okWide Try.prog w r b0 22 v) (h : DataW.Trod enc Try.prog w 0 (fun _ => true) true 22 v d p) :
    ∃ a n c l, v = .slice a n c ∧ Rd actE w a n c l ∧ ∀ t ∈ l, okAct t := by
  obtain ⟨a0, n0, c0, rfl⟩ := okWide_slice (e := 32) (by kernel_rfl) hv
  obtain ⟨fuel, hf⟩ := h
  obtain ⟨f0, f1, f2, he, o0, o1, o2, t0, t1, t2⟩ := three_fields (P := Try.prog) (t := 32) (a := 3) (b := 0) (c := 30) (d := 1) (e := 3) (f := 2) (by kernel_rfl)
  have ce : Try.prog.cellsOf 32 = 3 := by kernel_rfl
  have c3 : Try.prog.cellsOf 3 = 1 := by kernel_rfl
  have c30 : Try.prog.cellsOf 30 = 1 := by kernel_rfl
  rcases open_slice (t := 22) (e := 32) (by kernel_rfl) hf with ⟨hcs, _⟩ | ⟨x, len, cap, m, k, D, Pl, hcs, _, hl, hm, hmm, _, hx⟩
  · simp [Value.cells] at hcs
    obtain ⟨rfl, rfl, rfl⟩ := hcs
    exact ⟨none, 0, 0, [], rfl, Rd.nil _ _, fun t ht => by cases ht⟩
  · simp [Value.cells] at hcs
    obtain ⟨rfl, rfl, rfl⟩ := hcs
    have hm' : m = c0 := by simpa using hmm
    have each : ∀ i, i < c0 → ∃ p : A3, w.cell? (x.add (i * 3)) = some (.int .i64 p.1) ∧ w.cell? (x.add (i * 3 + 1)) = some (.int .u16 p.2.1) ∧ w.cell? (x.add (i * 3 + 2)) = some (.int .i64 p.2.2) ∧ okAct p := by
      intro i hi
      obtain ⟨cs', h1, h2⟩ := hx i (by omega)
      rw [ce] at h1
      obtain ⟨_, hlen, hcell⟩ := World.cells?_some h1
      obtain ⟨xs, n, hn, hxy, _, hxl, hfs⟩ := DataW.trod_struct he h2
      match xs, hxl, cs', hlen with
      | [y0, y1, y2], _, [v0, v1, v2], _ =>
        have g0 := hfs 0 f0 rfl
        have g1 := hfs 1 f1 rfl
        have g2 := hfs 2 f2 rfl
        simp [o0, o1, o2, t0, t1, t2, c3, c30] at g0 g1 g2
        obtain ⟨z0, e0, _, _⟩ := DataW.trod_int Try.underlying3 g0
        obtain ⟨z1, e1, _, w1⟩ := DataW.trod_int Try.underlying30 g1
        obtain ⟨z2, e2, _, w2⟩ := DataW.trod_int Try.underlying3 g2
        have k0 := hcell 0 (by omega)
        have k1 := hcell 1 (by omega)
        have k2 := hcell 2 (by omega)
        rw [add_add] at k0 k1 k2
        simp at e0 e1 e2
        subst e0 e1 e2
        exact ⟨(z0, z1, z2), by simpa using k0, by simpa using k1, by simpa using k2, w1, w2⟩
    obtain ⟨q, hq⟩ := choose_lt each
    refine ⟨_, n0, c0, (List.range n0).map q, rfl, ⟨by simp, hl, hm, fun j hj i hi => ?_⟩, fun t ht => ?_⟩
    rotate_left
    · simp only [List.mem_map, List.mem_range] at ht
      obtain ⟨j, hj, rfl⟩ := ht
      exact (hq j (by omega)).2.2.2
    have hj' : j < n0 := by simpa using hj
    obtain ⟨b, o, rfl⟩ := spot_none (by simpa [Addr.add] using (hq 0 (by omega)).1)
    refine ⟨b, o, rfl, ?_⟩
    have h1 := hq j (by omega)
    rw [Addr.add_lit, Addr.add_lit, Addr.add_lit] at h1
    have hi2 : i = 0 ∨ i = 1 ∨ i = 2 := by have : actE.k = 3 := rfl; omega
    rcases hi2 with rfl | rfl | rfl
    · have e : o + (j * actE.k + 0) = o + j * 3 := rfl
      rw [e, h1.1]; simp [actE]
    · have e : o + (j * actE.k + 1) = o + (j * 3 + 1) := rfl
      rw [e, h1.2.1]; simp [actE]
    · have e : o + (j * actE.k + 2) = o + (j * 3 + 2) := rfl
      rw [e, h1.2.2.1]; simp [actE]
theorem streamPipe_law {H : Type} {enc : TypeId × Value → H} {W : World} {ts : List TypeId} {ds : List (DataW H)} (x : Int) (_ : (Lit.int .i64 x).wf = true) (v : Value) (d : DataW H) (p : List MemPlace) (h : DataW.Trod enc Try.prog W 0 (fun _ => true) true 22 v d p) {r : Reach} {b0 : Nat} (hv : Value.okWide Try.prog W r b0 22 v) (_ : (DataW.weightsEach Try.prog ts ds).all (· ≤ reachBytes) = true) (_ : World) :
    Calls Try.prog 3 #[.int .i64 x, v] W fun e w' => e = .returned (.bool true) ∧ Below W.heap.size W w' := by
  obtain ⟨a, n, c, l, rfl, hr, ho⟩ := open_acts hv h
  exact streamPipe_walk x hr ho
end
end Go.Proofs.Ytmimbfikjnfhdaa
