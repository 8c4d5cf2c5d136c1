/- The document's picker: Choose 29; printed by gen_choose29.py. -/
import Derived.Test.YtjkeijjfjbcaiaaPkR
import Derived.Test.YtjkeijjfjbcaiaaPkH
import Derived.Deep.Draws
namespace Go.Proofs.Ytjkeijjfjbcaiaa
open Go.RowKit
theorem below_drewN {B : Nat} {w0 w : World} (h : Below B w0 w) (n : Nat) : Below B w0 (w.drewN n) := ⟨h.os, h.tape, h.output, h.size, h.block⟩
theorem S_tr {W w w3 : World} {Q : Prop} (h : Below W.heap.size W w ∧ Q) (hb : Below w.heap.size w w3) : Below W.heap.size W w3 := h.1.trans (hb.mono h.1.size)
theorem S_end {u W w : World} {Q : Prop} (hu : Below u.heap.size u W) (h : Below W.heap.size W w ∧ Q) : Below u.heap.size u w := hu.trans (h.1.mono hu.size)
set_option maxHeartbeats 16000000 in
set_option maxRecDepth 100000 in
theorem choose29 {w : World} {p : Nat} {room : Int} {a : Option Addr} {c : Nat} {L : List Kn} (h : Rk w p room a c L) (hl : L.length ≤ 100000) {a2 : Option Addr} {n c2 : Nat} {l : List Int} (hR : Rd u32E w a2 n c2 l) (hn : n ≤ 100000) (now : Int) :
    Calls Try.prog 29 #[.pointer (some ⟨p, 0, none⟩), .slice a2 n c2, .int .i64 now] w fun e w' => e = .returned (.tuple #[.int .u32 (chooseK L now l), .bool (decide (l.length ≠ 0))]) ∧ Below w.heap.size w w' := by
  have hln := hR.len
  have h' := Lib.hid h
  have hl' := Lib.hid hl
  have hR' := Lib.hid hR
  have hnM : (n : Int) ≤ 100000 := by omega
  clear h hl hR
  go_enter Try.func29, Try.ntmps29
  go_wp2_with fail
  go_loopw [8, 9, 10, 11] (fun bb ee i _ wr => ∃ k : Nat, k ≤ n ∧ i = .int .i64 k ∧ ∃ bv ev : Int, bb = .int .i64 bv ∧ ee = .int .i64 ev ∧ Cho L now (l.take k) bv ev ∧ Below w.heap.size w wr) (fun _ _ i _ _ => n - (intOf i).toNat)
  case atStart => exact ⟨0, Nat.zero_le _, rfl, -1, -1, rfl, rfl, .none rfl, Below.refl _ _⟩
  case round =>
    obtain ⟨k, hk, rfl, bv, ev, rfl, rfl, hC0, hb0⟩ := hrel
    have hC := Lib.hid hC0
    have hb := Lib.hid hb0
    clear hC0 hb0
    by_cases hlt : k < n
    · have hkI : (k : Int) < n := by omega
      have hk0 : (0 : Int) ≤ k := by omega
      obtain ⟨b, o, rfl, hbs, hc⟩ := rd_u32 (hR'.out.ext hb.out) (by omega)
      have hck := hc k (by omega)
      have hpl : Hid ((l.take k).length = k) := Lib.hid (by rw [List.length_take]; omega)
      have htk : Hid (l.take (k + 1) = l.take k ++ [l[k]'(by omega)]) := Lib.hid (List.take_succ_eq_append_getElem (by omega))
      obtain ⟨x, hxk⟩ : ∃ x, Hid (l[k]'(by omega) = x) := ⟨_, Lib.hid rfl⟩
      rw [hxk.out] at hck htk
      have hcA := Lib.hid hc
      clear hc
      go_wp2_with fail
      refine (of39 (h'.out.ext hb.out) hl'.out x).mono ?_
      rintro e w1 ⟨rfl, hb1⟩
      obtain ⟨z, hz⟩ : ∃ z, Hid (ofD L x = z) := ⟨_, Lib.hid rfl⟩
      rw [hz.out]
      generalize (ofK L x).isSome = was
      obtain ⟨za, zt, zf, zg⟩ := z
      unfold knV
      dsimp only
      obtain ⟨W2, hW2⟩ : ∃ W2, w1.alloc (.cells #[.int .u32 za, .int .i64 zt, .int .i64 zf, .int .i64 zg] 34) = W2 := ⟨_, rfl⟩
      have hN : Blk W2 w1.heap.size 34 (0, 0) [.int .u32 za, .int .i64 zt, .int .i64 zf, .int .i64 zg] := by rw [← hW2]; exact Blk.new w1 34 (0, 0) _
      have hc3 : Hid (W2.cell? ⟨w1.heap.size, 3, none⟩ = some (.int .i64 zg)) := Lib.hid (hN.cell 3)
      have hc1 : Hid (W2.cell? ⟨w1.heap.size, 1, none⟩ = some (.int .i64 zt)) := Lib.hid (hN.cell 1)
      have hbx : Hid (w1.heap.size < W2.heap.size) := Lib.hid hN.lt
      have hbr2 : Below wr.heap.size wr W2 := by rw [← hW2]; exact hb1.alloc hb1.size _
      have hb2 : Hid (Below w.heap.size w W2) := Lib.hid (hb.out.trans (hbr2.mono hb.out.size))
      have h2 := Lib.hid (h'.out.ext hb2.out)
      have hbs2 : Hid (b < W2.heap.size) := Lib.hid (Nat.lt_of_lt_of_le hbs hbr2.size)
      have hcs : Hid (∀ j (hj : j < l.length), W2.cell? ⟨b, o + j, none⟩ = some (.int .u32 l[j])) := Lib.hid (fun j hj => (World.cell?_of_block (w := wr) (hbr2.block b hbs)).trans (hcA.out j hj))
      have d3 := hc3.out
      have d1 := hc1.out
      clear hN hbr2 hb1 hck hcA
      by_cases hx : zg ≤ now
      · have hxe : Hid (erl L now x = true) := Lib.hid (by unfold erl; rw [hz.out]; exact decide_eq_true hx)
        have hxb : decide (zg ≤ now) = true := decide_eq_true hx
        obtain ⟨s1, s2, s3, s4⟩ := hC.out.some_step hxe.out
        have s1' := Lib.hid s1
        have s2' := Lib.hid s2
        have s3' := Lib.hid s3
        have s4' := Lib.hid s4
        clear s1 s2 s3 s4
        by_cases hev : ev < 0
        · have hbv : bv < 0 := by
            have hp := congrArg List.length (s4'.out hev)
            simp only [List.length_nil] at hp
            by_cases h : bv < 0
            · exact h
            · obtain ⟨q, _⟩ := s2'.out bv.toNat (by omega)
              omega
          have hevb : decide (ev < 0) = true := decide_eq_true hev
          have hbvb : decide (bv < 0) = true := decide_eq_true hbv
          go_wp2_with fail
          go_region
          go_wp2_with fail
          go_region
          go_wp2_with fail
          go_roundw
          case rel =>
            refine ⟨k + 1, by omega, by go_num, _, _, rfl, rfl, ?_, hb2.out.trans (Below.drew (Below.drew (Below.refl _ _)))⟩
            rw [htk.out]
            have hq := s1'.out hbv k (by have := hpl.out; omega)
            first
              | exact hq
              | (rw [hpl.out] at hq; exact hq)
          case measure => simp [intOf]; omega
        · obtain ⟨e', rfl⟩ := Int.eq_ofNat_of_zero_le (by omega : 0 ≤ ev)
          have hep : Hid (e' < (l.take k).length) := Lib.hid (s3'.out e' rfl)
          have hek : e' < k := by have := hep.out; have := hpl.out; omega
          have hce9 : Hid (W2.cell? ⟨b, o + e', none⟩ = some (.int .u32 (l[e']'(by omega)))) := Lib.hid (hcs.out e' (by omega))
          have mk9 : Hid (∀ w', Below W2.heap.size W2 w' → Below W2.heap.size W2 w' ∧ w'.cell? ⟨b, o + e', none⟩ = some (.int .u32 (l[e']'(by omega))) ∧ w'.cell? ⟨w1.heap.size, 3, none⟩ = some (.int .i64 zg)) := Lib.hid (fun w' hb => ⟨hb, (World.cell?_of_block (hb.block b hbs2.out)).trans hce9.out, (World.cell?_of_block (hb.block _ hbx.out)).trans hc3.out⟩)
          have hnn9 : decide ((e' : Int) < 0) = false := decide_eq_false (by omega)
          have hnm9 : ¬ ((e' : Int) < 0) := by omega
          have hni9 : (e' : Int) < n := by omega
          have hnj9 : (0 : Int) ≤ e' := by omega
          obtain ⟨m9, hm9⟩ : ∃ m, Hid (l[e']'(by omega) = m) := ⟨_, Lib.hid rfl⟩
          rw [hm9.out] at mk9
          obtain ⟨g9, hg9⟩ : ∃ g, Hid ((ofD L m9).g = g) := ⟨_, Lib.hid rfl⟩
          by_cases hbv : bv < 0
          · have hbvb : decide (bv < 0) = true := decide_eq_true hbv
            by_cases hlt9 : zg < g9
            · go_wp2_with fail
              go_region
              go_wp2_with fail
              go_region_held3 (fun w' => Below W2.heap.size W2 w' ∧ w'.cell? ⟨b, o + e', none⟩ = some (.int .u32 m9) ∧ w'.cell? ⟨w1.heap.size, 3, none⟩ = some (.int .i64 zg))
                (first | assumption | exact mk9.out _ (Below.refl _ _).drew | exact mk9.out _ (Below.refl _ _).drew.drew | exact mk9.out _ (below_drewN (Below.refl _ _) _).drew | exact mk9.out _ (by assumption) | exact mk9.out _ (below_drewN (by assumption) _) | exact mk9.out _ (Below.drew (And.left (by assumption))) | exact mk9.out _ (Below.drew (below_drewN (And.left (by assumption)) _)) | exact mk9.out _ (Below.drew (by assumption)) | exact mk9.out _ (Below.drew (below_drewN (by assumption) _)))
                (first | (go_at_call 41; refine (from41 (h2.out.ext (And.left (by assumption))) hl'.out m9).mono ?_; rw [hg9.out]; rintro en w9 ⟨rfl, hbb9⟩; have hbc9 := S_tr (by assumption) hbb9))
              all_goals
                go_wp2_with fail
                go_roundw
                case rel =>
                  refine ⟨k + 1, by omega, by go_num, _, _, rfl, rfl, ?_, S_end hb2.out (by assumption)⟩
                  rw [htk.out]
                  have hq := s1'.out hbv k (by have := hpl.out; omega)
                  first
                    | exact hq
                    | (rw [hpl.out] at hq; exact hq)
                case measure => simp [intOf]; omega

            · have hlt9b : decide (zg < g9) = false := decide_eq_false hlt9
              go_wp2_with fail
              go_region
              go_wp2_with fail
              go_region_held3 (fun w' => Below W2.heap.size W2 w' ∧ w'.cell? ⟨b, o + e', none⟩ = some (.int .u32 m9) ∧ w'.cell? ⟨w1.heap.size, 3, none⟩ = some (.int .i64 zg))
                (first | assumption | exact mk9.out _ (Below.refl _ _).drew | exact mk9.out _ (Below.refl _ _).drew.drew | exact mk9.out _ (below_drewN (Below.refl _ _) _).drew | exact mk9.out _ (by assumption) | exact mk9.out _ (below_drewN (by assumption) _) | exact mk9.out _ (Below.drew (And.left (by assumption))) | exact mk9.out _ (Below.drew (below_drewN (And.left (by assumption)) _)) | exact mk9.out _ (Below.drew (by assumption)) | exact mk9.out _ (Below.drew (below_drewN (by assumption) _)))
                (first | (go_at_call 41; refine (from41 (h2.out.ext (And.left (by assumption))) hl'.out m9).mono ?_; rw [hg9.out]; rintro en w9 ⟨rfl, hbb9⟩; have hbc9 := S_tr (by assumption) hbb9))
              all_goals
                go_wp2_with fail
                go_roundw
                case rel =>
                  refine ⟨k + 1, by omega, by go_num, _, _, rfl, rfl, ?_, S_end hb2.out (by assumption)⟩
                  rw [htk.out]
                  have hq := s1'.out hbv e' (by have := hpl.out; omega)
                  first
                    | exact hq
                    | (rw [hpl.out] at hq; exact hq)
                case measure => simp [intOf]; omega
          · obtain ⟨b', rfl⟩ := Int.eq_ofNat_of_zero_le (by omega : 0 ≤ bv)
            have hbp : Hid (b' < (l.take k).length) := Lib.hid (s2'.out b' rfl).1
            have hbk : b' < k := by have := hbp.out; have := hpl.out; omega
            have hce7 : Hid (W2.cell? ⟨b, o + b', none⟩ = some (.int .u32 (l[b']'(by omega)))) := Lib.hid (hcs.out b' (by omega))
            have mk7 : Hid (∀ w', Below W2.heap.size W2 w' → Below W2.heap.size W2 w' ∧ w'.cell? ⟨b, o + b', none⟩ = some (.int .u32 (l[b']'(by omega))) ∧ w'.cell? ⟨w1.heap.size, 1, none⟩ = some (.int .i64 zt)) := Lib.hid (fun w' hb => ⟨hb, (World.cell?_of_block (hb.block b hbs2.out)).trans hce7.out, (World.cell?_of_block (hb.block _ hbx.out)).trans hc1.out⟩)
            have hnn7 : decide ((b' : Int) < 0) = false := decide_eq_false (by omega)
            have hnm7 : ¬ ((b' : Int) < 0) := by omega
            have hni7 : (b' : Int) < n := by omega
            have hnj7 : (0 : Int) ≤ b' := by omega
            obtain ⟨m7, hm7⟩ : ∃ m, Hid (l[b']'(by omega) = m) := ⟨_, Lib.hid rfl⟩
            rw [hm7.out] at mk7
            obtain ⟨g7, hg7⟩ : ∃ g, Hid ((ofD L m7).t = g) := ⟨_, Lib.hid rfl⟩
            have hnew7 : Hid (zt < g7 → ∀ e2 : Nat, e2 < (l.take k).length + 1 → Cho L now (l.take k ++ [x]) (l.take k).length e2) := Lib.hid (fun hh => by
              obtain ⟨q, r1, r2⟩ := s2'.out b' rfl
              exact r1 (by rw [List.getElem_take, hm7.out, hg7.out, hz.out]; exact hh))
            have hold7 : Hid (¬ zt < g7 → ∀ e2 : Nat, e2 < (l.take k).length + 1 → Cho L now (l.take k ++ [x]) b' e2) := Lib.hid (fun hh => by
              obtain ⟨q, r1, r2⟩ := s2'.out b' rfl
              exact r2 (by rw [List.getElem_take, hm7.out, hg7.out, hz.out]; exact hh))
            by_cases hlt7 : zt < g7
            · by_cases hlt9 : zg < g9
              · go_wp2_with fail
                go_region_held3 (fun w' => Below W2.heap.size W2 w' ∧ w'.cell? ⟨b, o + b', none⟩ = some (.int .u32 m7) ∧ w'.cell? ⟨w1.heap.size, 1, none⟩ = some (.int .i64 zt))
                  (first | assumption | exact mk7.out _ (Below.refl _ _).drew | exact mk7.out _ (Below.refl _ _).drew.drew | exact mk7.out _ (below_drewN (Below.refl _ _) _).drew | exact mk7.out _ (by assumption) | exact mk7.out _ (below_drewN (by assumption) _) | exact mk7.out _ (Below.drew (And.left (by assumption))) | exact mk7.out _ (Below.drew (below_drewN (And.left (by assumption)) _)) | exact mk7.out _ (Below.drew (by assumption)) | exact mk7.out _ (Below.drew (below_drewN (by assumption) _)))
                  (first | (go_at_call 40; refine (trip40 (h2.out.ext (And.left (by assumption))) hl'.out m7).mono ?_; rw [hg7.out]; rintro en w7 ⟨rfl, hbb7⟩; have hbc7 := S_tr (by assumption) hbb7))
                all_goals
                  go_wp2_with fail
                  go_region_held3 (fun w' => Below W2.heap.size W2 w' ∧ w'.cell? ⟨b, o + e', none⟩ = some (.int .u32 m9) ∧ w'.cell? ⟨w1.heap.size, 3, none⟩ = some (.int .i64 zg))
                    (first | assumption | exact mk9.out _ (Below.refl _ _).drew | exact mk9.out _ (Below.refl _ _).drew.drew | exact mk9.out _ (below_drewN (Below.refl _ _) _).drew | exact mk9.out _ (by assumption) | exact mk9.out _ (below_drewN (by assumption) _) | exact mk9.out _ (Below.drew (And.left (by assumption))) | exact mk9.out _ (Below.drew (below_drewN (And.left (by assumption)) _)) | exact mk9.out _ (Below.drew (by assumption)) | exact mk9.out _ (Below.drew (below_drewN (by assumption) _)))
                    (first | (go_at_call 41; refine (from41 (h2.out.ext (And.left (by assumption))) hl'.out m9).mono ?_; rw [hg9.out]; rintro en w9 ⟨rfl, hbb9⟩; have hbc9 := S_tr (by assumption) hbb9))
                  all_goals
                    go_wp2_with fail
                    go_roundw
                    case rel =>
                      refine ⟨k + 1, by omega, by go_num, _, _, rfl, rfl, ?_, S_end hb2.out (by assumption)⟩
                      rw [htk.out]
                      have hq := hnew7.out hlt7 k (by have := hpl.out; omega)
                      first
                        | exact hq
                        | (rw [hpl.out] at hq; exact hq)
                    case measure => simp [intOf]; omega

              · have hlt9b : decide (zg < g9) = false := decide_eq_false hlt9
                go_wp2_with fail
                go_region_held3 (fun w' => Below W2.heap.size W2 w' ∧ w'.cell? ⟨b, o + b', none⟩ = some (.int .u32 m7) ∧ w'.cell? ⟨w1.heap.size, 1, none⟩ = some (.int .i64 zt))
                  (first | assumption | exact mk7.out _ (Below.refl _ _).drew | exact mk7.out _ (Below.refl _ _).drew.drew | exact mk7.out _ (below_drewN (Below.refl _ _) _).drew | exact mk7.out _ (by assumption) | exact mk7.out _ (below_drewN (by assumption) _) | exact mk7.out _ (Below.drew (And.left (by assumption))) | exact mk7.out _ (Below.drew (below_drewN (And.left (by assumption)) _)) | exact mk7.out _ (Below.drew (by assumption)) | exact mk7.out _ (Below.drew (below_drewN (by assumption) _)))
                  (first | (go_at_call 40; refine (trip40 (h2.out.ext (And.left (by assumption))) hl'.out m7).mono ?_; rw [hg7.out]; rintro en w7 ⟨rfl, hbb7⟩; have hbc7 := S_tr (by assumption) hbb7))
                all_goals
                  go_wp2_with fail
                  go_region_held3 (fun w' => Below W2.heap.size W2 w' ∧ w'.cell? ⟨b, o + e', none⟩ = some (.int .u32 m9) ∧ w'.cell? ⟨w1.heap.size, 3, none⟩ = some (.int .i64 zg))
                    (first | assumption | exact mk9.out _ (Below.refl _ _).drew | exact mk9.out _ (Below.refl _ _).drew.drew | exact mk9.out _ (below_drewN (Below.refl _ _) _).drew | exact mk9.out _ (by assumption) | exact mk9.out _ (below_drewN (by assumption) _) | exact mk9.out _ (Below.drew (And.left (by assumption))) | exact mk9.out _ (Below.drew (below_drewN (And.left (by assumption)) _)) | exact mk9.out _ (Below.drew (by assumption)) | exact mk9.out _ (Below.drew (below_drewN (by assumption) _)))
                    (first | (go_at_call 41; refine (from41 (h2.out.ext (And.left (by assumption))) hl'.out m9).mono ?_; rw [hg9.out]; rintro en w9 ⟨rfl, hbb9⟩; have hbc9 := S_tr (by assumption) hbb9))
                  all_goals
                    go_wp2_with fail
                    go_roundw
                    case rel =>
                      refine ⟨k + 1, by omega, by go_num, _, _, rfl, rfl, ?_, S_end hb2.out (by assumption)⟩
                      rw [htk.out]
                      have hq := hnew7.out hlt7 e' (by have := hpl.out; omega)
                      first
                        | exact hq
                        | (rw [hpl.out] at hq; exact hq)
                    case measure => simp [intOf]; omega
            · have hlt7b : decide (zt < g7) = false := decide_eq_false hlt7
              by_cases hlt9 : zg < g9
              · go_wp2_with fail
                go_region_held3 (fun w' => Below W2.heap.size W2 w' ∧ w'.cell? ⟨b, o + b', none⟩ = some (.int .u32 m7) ∧ w'.cell? ⟨w1.heap.size, 1, none⟩ = some (.int .i64 zt))
                  (first | assumption | exact mk7.out _ (Below.refl _ _).drew | exact mk7.out _ (Below.refl _ _).drew.drew | exact mk7.out _ (below_drewN (Below.refl _ _) _).drew | exact mk7.out _ (by assumption) | exact mk7.out _ (below_drewN (by assumption) _) | exact mk7.out _ (Below.drew (And.left (by assumption))) | exact mk7.out _ (Below.drew (below_drewN (And.left (by assumption)) _)) | exact mk7.out _ (Below.drew (by assumption)) | exact mk7.out _ (Below.drew (below_drewN (by assumption) _)))
                  (first | (go_at_call 40; refine (trip40 (h2.out.ext (And.left (by assumption))) hl'.out m7).mono ?_; rw [hg7.out]; rintro en w7 ⟨rfl, hbb7⟩; have hbc7 := S_tr (by assumption) hbb7))
                all_goals
                  go_wp2_with fail
                  go_region_held3 (fun w' => Below W2.heap.size W2 w' ∧ w'.cell? ⟨b, o + e', none⟩ = some (.int .u32 m9) ∧ w'.cell? ⟨w1.heap.size, 3, none⟩ = some (.int .i64 zg))
                    (first | assumption | exact mk9.out _ (Below.refl _ _).drew | exact mk9.out _ (Below.refl _ _).drew.drew | exact mk9.out _ (below_drewN (Below.refl _ _) _).drew | exact mk9.out _ (by assumption) | exact mk9.out _ (below_drewN (by assumption) _) | exact mk9.out _ (Below.drew (And.left (by assumption))) | exact mk9.out _ (Below.drew (below_drewN (And.left (by assumption)) _)) | exact mk9.out _ (Below.drew (by assumption)) | exact mk9.out _ (Below.drew (below_drewN (by assumption) _)))
                    (first | (go_at_call 41; refine (from41 (h2.out.ext (And.left (by assumption))) hl'.out m9).mono ?_; rw [hg9.out]; rintro en w9 ⟨rfl, hbb9⟩; have hbc9 := S_tr (by assumption) hbb9))
                  all_goals
                    go_wp2_with fail
                    go_roundw
                    case rel =>
                      refine ⟨k + 1, by omega, by go_num, _, _, rfl, rfl, ?_, S_end hb2.out (by assumption)⟩
                      rw [htk.out]
                      have hq := hold7.out hlt7 k (by have := hpl.out; omega)
                      first
                        | exact hq
                        | (rw [hpl.out] at hq; exact hq)
                    case measure => simp [intOf]; omega

              · have hlt9b : decide (zg < g9) = false := decide_eq_false hlt9
                go_wp2_with fail
                go_region_held3 (fun w' => Below W2.heap.size W2 w' ∧ w'.cell? ⟨b, o + b', none⟩ = some (.int .u32 m7) ∧ w'.cell? ⟨w1.heap.size, 1, none⟩ = some (.int .i64 zt))
                  (first | assumption | exact mk7.out _ (Below.refl _ _).drew | exact mk7.out _ (Below.refl _ _).drew.drew | exact mk7.out _ (below_drewN (Below.refl _ _) _).drew | exact mk7.out _ (by assumption) | exact mk7.out _ (below_drewN (by assumption) _) | exact mk7.out _ (Below.drew (And.left (by assumption))) | exact mk7.out _ (Below.drew (below_drewN (And.left (by assumption)) _)) | exact mk7.out _ (Below.drew (by assumption)) | exact mk7.out _ (Below.drew (below_drewN (by assumption) _)))
                  (first | (go_at_call 40; refine (trip40 (h2.out.ext (And.left (by assumption))) hl'.out m7).mono ?_; rw [hg7.out]; rintro en w7 ⟨rfl, hbb7⟩; have hbc7 := S_tr (by assumption) hbb7))
                all_goals
                  go_wp2_with fail
                  go_region_held3 (fun w' => Below W2.heap.size W2 w' ∧ w'.cell? ⟨b, o + e', none⟩ = some (.int .u32 m9) ∧ w'.cell? ⟨w1.heap.size, 3, none⟩ = some (.int .i64 zg))
                    (first | assumption | exact mk9.out _ (Below.refl _ _).drew | exact mk9.out _ (Below.refl _ _).drew.drew | exact mk9.out _ (below_drewN (Below.refl _ _) _).drew | exact mk9.out _ (by assumption) | exact mk9.out _ (below_drewN (by assumption) _) | exact mk9.out _ (Below.drew (And.left (by assumption))) | exact mk9.out _ (Below.drew (below_drewN (And.left (by assumption)) _)) | exact mk9.out _ (Below.drew (by assumption)) | exact mk9.out _ (Below.drew (below_drewN (by assumption) _)))
                    (first | (go_at_call 41; refine (from41 (h2.out.ext (And.left (by assumption))) hl'.out m9).mono ?_; rw [hg9.out]; rintro en w9 ⟨rfl, hbb9⟩; have hbc9 := S_tr (by assumption) hbb9))
                  all_goals
                    go_wp2_with fail
                    go_roundw
                    case rel =>
                      refine ⟨k + 1, by omega, by go_num, _, _, rfl, rfl, ?_, S_end hb2.out (by assumption)⟩
                      rw [htk.out]
                      have hq := hold7.out hlt7 e' (by have := hpl.out; omega)
                      first
                        | exact hq
                        | (rw [hpl.out] at hq; exact hq)
                    case measure => simp [intOf]; omega
      · have hxe : Hid (erl L now x = false) := Lib.hid (by unfold erl; rw [hz.out]; exact decide_eq_false hx)
        have hxb : decide (zg ≤ now) = false := decide_eq_false hx
        obtain ⟨s1, s2⟩ := hC.out.late_step hxe.out
        have s1' := Lib.hid s1
        have s2' := Lib.hid s2
        clear s1 s2
        by_cases hev : ev < 0
        · have hevb : decide (ev < 0) = true := decide_eq_true hev
          go_wp2_with fail
          go_region
          go_wp2_with fail
          go_roundw
          case rel =>
            refine ⟨k + 1, by omega, by go_num, _, _, rfl, rfl, ?_, hb2.out.trans (Below.drew (Below.refl _ _))⟩
            rw [htk.out]
            have hq := s1'.out hev
            first
              | exact hq
              | (rw [hpl.out] at hq; exact hq)
          case measure => simp [intOf]; omega
        · obtain ⟨e', rfl⟩ := Int.eq_ofNat_of_zero_le (by omega : 0 ≤ ev)
          have hep : Hid (e' < (l.take k).length) := Lib.hid (s2'.out e' rfl).1
          have hek : e' < k := by have := hep.out; have := hpl.out; omega
          have hce9 : Hid (W2.cell? ⟨b, o + e', none⟩ = some (.int .u32 (l[e']'(by omega)))) := Lib.hid (hcs.out e' (by omega))
          have mk9 : Hid (∀ w', Below W2.heap.size W2 w' → Below W2.heap.size W2 w' ∧ w'.cell? ⟨b, o + e', none⟩ = some (.int .u32 (l[e']'(by omega))) ∧ w'.cell? ⟨w1.heap.size, 3, none⟩ = some (.int .i64 zg)) := Lib.hid (fun w' hb => ⟨hb, (World.cell?_of_block (hb.block b hbs2.out)).trans hce9.out, (World.cell?_of_block (hb.block _ hbx.out)).trans hc3.out⟩)
          have hnn9 : decide ((e' : Int) < 0) = false := decide_eq_false (by omega)
          have hnm9 : ¬ ((e' : Int) < 0) := by omega
          have hni9 : (e' : Int) < n := by omega
          have hnj9 : (0 : Int) ≤ e' := by omega
          obtain ⟨m9, hm9⟩ : ∃ m, Hid (l[e']'(by omega) = m) := ⟨_, Lib.hid rfl⟩
          rw [hm9.out] at mk9
          obtain ⟨g9, hg9⟩ : ∃ g, Hid ((ofD L m9).g = g) := ⟨_, Lib.hid rfl⟩
          have hnew : Hid (zg < g9 → Cho L now (l.take k ++ [x]) bv (l.take k).length) := Lib.hid (fun hh => by
            obtain ⟨q, r1, r2⟩ := s2'.out e' rfl
            exact r1 (by rw [List.getElem_take, hm9.out, hg9.out, hz.out]; exact hh))
          have hold : Hid (¬ zg < g9 → Cho L now (l.take k ++ [x]) bv e') := Lib.hid (fun hh => by
            obtain ⟨q, r1, r2⟩ := s2'.out e' rfl
            exact r2 (by rw [List.getElem_take, hm9.out, hg9.out, hz.out]; exact hh))
          by_cases hlt9 : zg < g9
          · go_wp2_with fail
            go_region_held3 (fun w' => Below W2.heap.size W2 w' ∧ w'.cell? ⟨b, o + e', none⟩ = some (.int .u32 m9) ∧ w'.cell? ⟨w1.heap.size, 3, none⟩ = some (.int .i64 zg))
              (first | assumption | exact mk9.out _ (Below.refl _ _).drew | exact mk9.out _ (Below.refl _ _).drew.drew | exact mk9.out _ (below_drewN (Below.refl _ _) _).drew | exact mk9.out _ (by assumption) | exact mk9.out _ (below_drewN (by assumption) _) | exact mk9.out _ (Below.drew (And.left (by assumption))) | exact mk9.out _ (Below.drew (below_drewN (And.left (by assumption)) _)) | exact mk9.out _ (Below.drew (by assumption)) | exact mk9.out _ (Below.drew (below_drewN (by assumption) _)))
              (first | (go_at_call 41; refine (from41 (h2.out.ext (And.left (by assumption))) hl'.out m9).mono ?_; rw [hg9.out]; rintro en w9 ⟨rfl, hbb9⟩; have hbc9 := S_tr (by assumption) hbb9))
            all_goals
              go_wp2_with fail
              go_roundw
              case rel =>
                refine ⟨k + 1, by omega, by go_num, _, _, rfl, rfl, ?_, S_end hb2.out (by assumption)⟩
                rw [htk.out]
                have hq := hnew.out hlt9
                first
                  | exact hq
                  | (rw [hpl.out] at hq; exact hq)
              case measure => simp [intOf]; omega

          · have hlt9b : decide (zg < g9) = false := decide_eq_false hlt9
            go_wp2_with fail
            go_region_held3 (fun w' => Below W2.heap.size W2 w' ∧ w'.cell? ⟨b, o + e', none⟩ = some (.int .u32 m9) ∧ w'.cell? ⟨w1.heap.size, 3, none⟩ = some (.int .i64 zg))
              (first | assumption | exact mk9.out _ (Below.refl _ _).drew | exact mk9.out _ (Below.refl _ _).drew.drew | exact mk9.out _ (below_drewN (Below.refl _ _) _).drew | exact mk9.out _ (by assumption) | exact mk9.out _ (below_drewN (by assumption) _) | exact mk9.out _ (Below.drew (And.left (by assumption))) | exact mk9.out _ (Below.drew (below_drewN (And.left (by assumption)) _)) | exact mk9.out _ (Below.drew (by assumption)) | exact mk9.out _ (Below.drew (below_drewN (by assumption) _)))
              (first | (go_at_call 41; refine (from41 (h2.out.ext (And.left (by assumption))) hl'.out m9).mono ?_; rw [hg9.out]; rintro en w9 ⟨rfl, hbb9⟩; have hbc9 := S_tr (by assumption) hbb9))
            all_goals
              go_wp2_with fail
              go_roundw
              case rel =>
                refine ⟨k + 1, by omega, by go_num, _, _, rfl, rfl, ?_, S_end hb2.out (by assumption)⟩
                rw [htk.out]
                have hq := hold.out hlt9
                first
                  | exact hq
                  | (rw [hpl.out] at hq; exact hq)
              case measure => simp [intOf]; omega
    · have hk' : k = n := by omega
      subst hk'
      rw [List.take_of_length_le (by omega)] at hC
      by_cases h0 : k = 0
      · subst h0
        have hnil : l = [] := List.eq_nil_of_length_eq_zero hln
        subst hnil
        go_wp2_with fail
        go_ret2
        exact ⟨rfl, hb.out⟩
      · have h0I : ¬ (k : Int) = 0 := by omega
        obtain ⟨b, o, rfl, hbs, hc⟩ := rd_u32 (hR'.out.ext hb.out) (by omega)
        obtain ⟨d1, d2⟩ := hC.out.done (by omega)
        have d1' := Lib.hid d1
        have d2' := Lib.hid d2
        clear d1 d2
        by_cases hbv : bv < 0
        · obtain ⟨e', he, rfl, hce⟩ := d1'.out hbv
          have hck := hc e' he
          rw [hce] at hck
          have heI : (e' : Int) < k := by omega
          have heI0 : (0 : Int) ≤ e' := by omega
          clear hc d1' d2'
          go_wp2_with fail
          go_ret2
          first
            | exact ⟨rfl, hb.out⟩
            | (rw [hln, decide_eq_true h0]; exact ⟨rfl, hb.out⟩)
        · obtain ⟨b', hb', rfl, hce⟩ := d2'.out hbv
          have hck := hc b' hb'
          rw [hce] at hck
          have heI : (b' : Int) < k := by omega
          have heI0 : (0 : Int) ≤ b' := by omega
          clear hc d1' d2'
          go_wp2_with fail
          go_ret2
          first
            | exact ⟨rfl, hb.out⟩
            | (rw [hln, decide_eq_true h0]; exact ⟨rfl, hb.out⟩)
end Go.Proofs.Ytjkeijjfjbcaiaa
