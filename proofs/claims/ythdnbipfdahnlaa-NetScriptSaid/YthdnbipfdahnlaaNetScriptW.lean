/- NetScript 6. Printed by gen_nuh.py. -/
import Derived.Test.YthdnbipfdahnlaaNuG
import Derived.Deep.QuietTactic
import Derived.BigQuiet
namespace Go.Proofs.Ythdnbipfdahnlaa
open Go Go.RowKit
/-- more than is gone through -/
def bigB (fn an : Nat) : Bool := (decide (60 < fn) && decide (fn ≤ 65536)) || decide (65540 < fn) || decide (60 < an)
/-- the cells of an act -/
theorem ad_cells {w : World} {a : Option Addr} {n c : Nat} {l : List AD} (h : Rd acE w a n c l) {j : Nat} {q : AD} (hj : l[j]? = some q) : ∃ b o, a = some ⟨b, o, none⟩ ∧ w.cell? ⟨b, o + j * 8, none⟩ = some (.int .i64 q.k) ∧ w.cell? ⟨b, o + j * 8 + 1, none⟩ = some (.int .u32 q.p.h.from_) ∧ w.cell? ⟨b, o + j * 8 + 2, none⟩ = some (.int .u16 q.p.h.fport) ∧ w.cell? ⟨b, o + j * 8 + 3, none⟩ = some (.int .u32 q.p.h.to_) ∧ w.cell? ⟨b, o + j * 8 + 4, none⟩ = some (.int .u16 q.p.h.tport) ∧ w.cell? ⟨b, o + j * 8 + 5, none⟩ = some (.bool q.p.h.stream) ∧ w.cell? ⟨b, o + j * 8 + 6, none⟩ = some (.slice q.p.da q.p.dn q.p.dc) ∧ w.cell? ⟨b, o + j * 8 + 7, none⟩ = some (.int .i64 q.y) := by
  have hlt : j < l.length := by
    rcases Nat.lt_or_ge j l.length with h1 | h1
    · exact h1
    · rw [List.getElem?_eq_none h1] at hj; cases hj
  have hl := h.len
  obtain ⟨b, o, e, _, hc⟩ := h.addr (by omega)
  rw [List.getElem?_eq_getElem hlt] at hj
  cases hj
  have hc := hc j hlt
  exact ⟨b, o, e, hc 0 (by decide), hc 1 (by decide), hc 2 (by decide), hc 3 (by decide), hc 4 (by decide), hc 5 (by decide), hc 6 (by decide), hc 7 (by decide)⟩
set_option maxHeartbeats 8000000 in
set_option maxRecDepth 100000 in
theorem script_any {w : World} {fa : Option Addr} {fn fc : Nat} {F : List Fate} (hF : Rd fateE w fa fn fc F) {aa : Option Addr} {an ac : Nat} {R : List AD} (hR : RdA w aa an ac R) (ha : an ≤ 100000000000000) (hf : fn ≤ 100000000000000) :
    Calls Try.prog 6 #[.slice fa fn fc, .slice aa an ac] w fun e w' => e = .returned (.bool true) ∧ Below w.heap.size w w' := by
  have HF := Lib.hid hF
  have HR := Lib.hid hR
  have hfl := Lib.hid hF.len
  have hrl := Lib.hid hR.1.len
  clear hF hR
  go_enter Try.func6, Try.ntmps6
  go_upto_region 1 with (fail)
  go_cut [31] from 14 to 31 (fun v wc => v = .bool (bigB fn an) ∧ wc = w)
  case first =>
    by_cases a1 : 60 < fn
    · have i1 : (60 : Int) < fn := by omega
      by_cases a2 : fn ≤ 65536
      · have i2 : (fn : Int) ≤ 65536 := by omega
        go_wp2_with fail
        go_meet
        case rel => exact ⟨by unfold bigB; simp [a1, a2], rfl⟩
      · have i2 : ¬ (fn : Int) ≤ 65536 := by omega
        by_cases a3 : 65540 < fn
        · have i3 : (65540 : Int) < fn := by omega
          go_wp2_with fail
          go_meet
          case rel => exact ⟨by unfold bigB; simp [a1, a2, a3], rfl⟩
        · have i3 : ¬ (65540 : Int) < fn := by omega
          go_wp2_with fail
          go_meet
          case rel => exact ⟨by unfold bigB; simp [a2, a3] <;> omega, rfl⟩
    · have i1 : ¬ (60 : Int) < fn := by omega
      have i3 : ¬ (65540 : Int) < fn := by omega
      have a3 : ¬ 65540 < fn := by omega
      go_wp2_with fail
      go_meet
      case rel => exact ⟨by unfold bigB; simp [a1, a3] <;> omega, rfl⟩
  case rest =>
    obtain ⟨rfl, rfl⟩ := hcut
    cases hbig : bigB fn an with
    | true => 
      go_wp2_with fail
      go_ret
      exact ⟨rfl, Below.refl _ _⟩
    | false =>
      have hfn : fn ≤ 65540 ∧ an ≤ 60 := by
        unfold bigB at hbig
        simp only [Bool.or_eq_false_iff, Bool.and_eq_false_iff, decide_eq_false_iff_not] at hbig
        omega
      obtain ⟨hf1, ha1⟩ := hfn
      clear hbig hf ha
      go_wp2_with fail
      go_loop [5] (fun i => ∃ k : Nat, k ≤ an ∧ i = .int .i64 k) (fun i => an - (intOf i).toNat)
      case atStart => exact ⟨0, Nat.zero_le _, rfl⟩
      case round =>
        obtain ⟨k, hk, rfl⟩ := hrel
        by_cases hlt : k < an
        case pos =>
          have hkI : (k : Int) < an := by omega
          have hk0 : (0 : Int) ≤ k := by omega
          obtain ⟨q, hq⟩ : ∃ q, R[k]? = some q := ⟨R[k]'(by rw [hrl.out]; exact hlt), List.getElem?_eq_getElem _⟩
          obtain ⟨b, o, rfl, -, -, -, -, -, -, d6, -⟩ := ad_cells HR.out.1 hq
          clear hq
          obtain ⟨dn, hdn⟩ : ∃ x, q.p.dn = x := ⟨_, rfl⟩
          rw [hdn] at d6
          clear hdn
          by_cases b1 : 300 < dn
          · have i1 : (300 : Int) < dn := by omega
            by_cases b2 : dn ≤ 65533
            · have i2 : (dn : Int) ≤ 65533 := by omega
              go_wp2_with fail
              go_ret
              exact ⟨rfl, Below.refl _ _⟩
            have i2 : ¬ (dn : Int) ≤ 65533 := by omega
            by_cases b3 : 65538 < dn
            · have i3 : (65538 : Int) < dn := by omega
              go_wp2_with fail
              go_ret
              exact ⟨rfl, Below.refl _ _⟩
            have i3 : ¬ (65538 : Int) < dn := by omega
            by_cases b4 : 9 < an
            · have i4 : (9 : Int) < an := by omega
              go_wp2_with fail
              go_ret
              exact ⟨rfl, Below.refl _ _⟩
            have i4 : ¬ (9 : Int) < an := by omega
            go_wp2_with fail
            go_round
            case rel => exact ⟨k + 1, by omega, by go_num⟩
            case measure => simp [intOf]; omega
          · have i1 : ¬ (300 : Int) < dn := by omega
            go_wp2_with fail
            go_round
            case rel => exact ⟨k + 1, by omega, by go_num⟩
            case measure => simp [intOf]; omega
        case neg =>
          obtain rfl : k = an := by omega
          have hkI : ¬ (k : Int) < k := by omega
          obtain ⟨j0, hj, jz0, jz1, jz2⟩ := info_parts Try.info51
          obtain ⟨W7, hW7⟩ : ∃ W, wc.alloc (.cells #[] 51) = W := ⟨_, rfl⟩
          have k7 : Hid (Below wc.heap.size wc W7) := Lib.hid (by rw [← hW7]; exact alloc_bel _ _)
          have own7 : Hid (Own fateE W7 wc.heap.size (.slice (some ⟨wc.heap.size, 0, none⟩) 0 0) []) := Lib.hid (by rw [← hW7]; exact Own.made fateE wc #[] [] 0 rfl rfl (by simp [maxLen]))
          have src1 := Lib.hid ((HF.out.ext k7.out).src (P := Try.prog) (tx := 40) Try.underlying40)
          have hc1 : Hid (([] : List Fate).length + F.length ≤ maxLen) := Lib.hid (by have h1 := hfl.out; simp [maxLen]; omega)
          have hc2 : Hid ((([] : List Fate).length + F.length) * 24 ≤ 140737488355328) := Lib.hid (by have h1 := hfl.out; simp; omega)
          go_wp2_with (at_builtin; refine app_own (E := fateE) (l := []) (news := F) (base := wc.heap.size) rfl (.tmp 60) (.tmp 61) 40 40 rfl Try.underlying40 hj jz0 jz1 jz2 rfl rfl own7.out rfl src1.out hc1.out hc2.out k7.out.size ?_)
          intro v8 w8 ho8 hg8 _
          obtain ⟨a8, c8, rfl⟩ := ho8.shape
          try rw [List.nil_append] at ho8
          try rw [List.nil_append]
          rw [hfl.out] at ho8 ⊢
          have k8 : Hid (Below wc.heap.size wc w8) := Lib.hid (own_below k7.out hg8 own7.out k7.out.size (Nat.le_refl _))
          have own8 := Lib.hid ho8
          clear ho8 hg8 own7 src1 hc1 hc2 hW7 k7
          have hnw := Lib.hid (new_any (own_rd_at own8.out).1 (by omega))
          go_wp2_with fail
          refine hnw.out.mono ?_
          rintro e w9 ⟨hN, hb⟩
          clear hnw
          unfold NewB at hN
          have k9 := Lib.hid (k8.out.trans (hb.mono k8.out.size))
          have own9 := Lib.hid (own8.out.ext hb)
          have hz9 : Hid (w8.heap.size ≤ w9.heap.size ∧ wc.heap.size ≤ w8.heap.size) := Lib.hid ⟨hb.size, k8.out.size⟩
          clear hb
          by_cases hE : newE F = 0
          case neg =>
            rw [if_neg hE] at hN
            subst hN
            have hrn := Lib.hid (rnew_any (S := fun _ => False) (HF.out.ext k9.out) (by omega) (fun _ _ _ _ _ h => h) (fun _ h => h.elim))
            unfold RNewB at hrn
            simp only [if_neg hE] at hrn
            clear hE
            obtain ⟨z, hz⟩ : ∃ z, newE F = z := ⟨_, rfl⟩
            rw [hz] at hrn ⊢
            clear hz
            go_wp2_with fail
            refine hrn.out.mono ?_
            rintro e w10 ⟨rfl, hb⟩
            have k10 := Lib.hid (k9.out.trans (hb.mono k9.out.size))
            have own10 := Lib.hid (own9.out.ext hb)
            clear hb hrn
            have OG0 : Hid (∃ G : List Fate, Own fateE w10 wc.heap.size (.slice a8 fn c8) G ∧ ∀ j, 0 ≤ j → G[j]? = F[j]?) := Lib.hid ⟨F, own10.out, fun _ _ => rfl⟩
            go_wp2_with fail
            go_loopw [12] (fun i wr => ∃ k2 : Nat, k2 ≤ fn ∧ i = .int .i64 k2 ∧ Hid (∃ G : List Fate, Own fateE wr wc.heap.size (.slice a8 fn c8) G ∧ ∀ j, k2 ≤ j → G[j]? = F[j]?) ∧ Hid (Tch (fun g => (Value.slice a8 fn c8).ownBlock = some g) w10 wr)) (fun i _ => fn - (intOf i).toNat)
            case atStart => exact ⟨0, Nat.zero_le _, rfl, OG0, Lib.hid (Tch.refl _ _)⟩
            case round =>
              clear OG0
              obtain ⟨k2, hk2, rfl, OG, KT⟩ := hrel
              by_cases hlt2 : k2 < fn
              case pos =>
                have hk2I : (k2 : Int) < fn := by omega
                have hk20 : (0 : Int) ≤ k2 := by omega
                obtain ⟨G, hG, hGF⟩ := OG.out
                obtain ⟨f, hf⟩ : ∃ f, F[k2]? = some f := ⟨F[k2]'(by rw [hfl.out]; exact hlt2), List.getElem?_eq_getElem _⟩
                have KW : Hid (Below wc.heap.size wc wr) := Lib.hid (k10.out.trans (KT.out.below (B := wc.heap.size) k10.out.size (fun b _ hb => (own10.out.lt b hb).1)))
                have hGl := (own_rd_at hG).2
                have hGk : G[k2]? = some f := by rw [hGF k2 (Nat.le_refl _)]; exact hf
                obtain ⟨bg, og, rfl, -, hcg⟩ := rd_ft (own_rd_at hG).1 (by omega)
                obtain ⟨bf, of, rfl, -, hcf⟩ := rd_ft (HF.out.ext KW.out) (by omega)
                obtain ⟨g0, g1, g2⟩ := hcg k2 (by omega)
                obtain ⟨f0, f1, f2⟩ := hcf k2 (by rw [hfl.out]; exact hlt2)
                have e1 : G[k2]'(by omega) = f := by rw [List.getElem?_eq_getElem (by omega)] at hGk; exact Option.some.inj hGk
                have e2 : F[k2]'(by rw [hfl.out]; exact hlt2) = f := by rw [List.getElem?_eq_getElem (by rw [hfl.out]; exact hlt2)] at hf; exact Option.some.inj hf
                rw [e1] at g0 g1 g2
                rw [e2] at f0 f1 f2
                clear e1 e2 hcg hcf hf hGk
                obtain ⟨x0, x1, x2⟩ := f
                dsimp only at g0 g1 g2 f0 f1 f2
                have HG := Lib.hid hG
                have HGF := Lib.hid hGF
                have HGl := Lib.hid hGl
                clear hG hGF hGl OG
                go_upto_region 17 with (fail)
                go_quiet (fail)
                obtain ⟨Y, hY⟩ : ∃ Y, wr.drewN nq = Y := ⟨_, rfl⟩
                have kY : Hid (Below wr.heap.size wr Y) := Lib.hid (by rw [← hY]; exact bel_drewN _ _)
                rw [hY]
                clear hY g0 g1 g2 f0 f1 f2
                obtain ⟨gg, e3, hgb, hgl, hcs, hown⟩ := own_fate (HG.out.ext kY.out) hlt2 (1, 0, 0)
                cases e3
                obtain ⟨⟨v0, hv0⟩, z0⟩ := hcs 0 (by decide)
                obtain ⟨⟨v1, hv1⟩, z1⟩ := hcs 1 (by decide)
                obtain ⟨⟨v2, hv2⟩, z2⟩ := hcs 2 (by decide)
                simp only [Nat.add_zero] at hv0 z0
                have HOW := Lib.hid hown
                clear hcs hown hgl
                go_wp2_with fail
                refine ⟨⟨k2 + 1, by omega, by go_num, Lib.hid ⟨_, HOW.out, fun j hj => ?_⟩, Lib.hid ?_⟩, by simp [intOf]; omega⟩
                · rw [List.getElem?_set_ne (by omega)]
                  exact HGF.out j (by omega)
                · exact (((KT.out.trans (Tch.of_below (S := fun _ => False) kY.out) (fun _ _ e => e.elim)).trans (Tch.setCell (S := fun g => (Value.slice (some ⟨bg, 0, none⟩) fn c8).ownBlock = some g) Y (p := ⟨bg, k2 * 3, none⟩) rfl _) (fun _ _ e => e)).trans (Tch.setCell (S := fun g => (Value.slice (some ⟨bg, 0, none⟩) fn c8).ownBlock = some g) _ (p := ⟨bg, k2 * 3 + 1, none⟩) rfl _) (fun _ _ e => e)).trans (Tch.setCell (S := fun g => (Value.slice (some ⟨bg, 0, none⟩) fn c8).ownBlock = some g) _ (p := ⟨bg, k2 * 3 + 2, none⟩) rfl _) (fun _ _ e => e)
              case neg =>
                have hk2I : ¬ (k2 : Int) < fn := by omega
                go_wp2_with fail
                refine wp_loop_rounds 1 ?_
                rw [rounds_succ]
                go_wp2_with fail
                go_ret
                exact ⟨rfl, k10.out.trans (KT.out.below (B := wc.heap.size) k10.out.size (fun b _ hb => (own10.out.lt b hb).1))⟩
          case pos =>
            rw [if_pos hE] at hN
            obtain ⟨pp, rfl, hnp⟩ := hN
            have NA9 : Hid (NetA w9 pp wc.heap.size w9.heap.size (fun g => w8.heap.size ≤ g ∧ g < w9.heap.size) ⟨F, 0, [], ⟨0, 0, 0, 0⟩⟩) := Lib.hid (NetA.of hnp (fun g hg => Nat.le_trans k8.out.size hg) k9.out.size)
            clear hnp
            obtain ⟨S9, hS9⟩ : ∃ S9 : Nat → Prop, S9 = fun g => w8.heap.size ≤ g ∧ g < w9.heap.size := ⟨_, rfl⟩
            rw [← hS9] at NA9
            have hS9i : Hid (∀ x, S9 x → w8.heap.size ≤ x ∧ x < w9.heap.size) := Lib.hid (fun x hx => by rw [hS9] at hx; exact hx)
            clear hS9
            have hpar : Hid (∀ b o s, 0 < fn → fa = some ⟨b, o, s⟩ → b < wc.heap.size) := Lib.hid (fun b o s h0 e => by
              obtain ⟨b1, o1, e1, hlt, _⟩ := HF.out.addr h0
              rw [e1] at e
              cases e
              exact hlt)
            have hrn := Lib.hid (rnew_any (S := fun g => g < w9.heap.size ∧ ∀ b o s, 0 < fn → fa = some ⟨b, o, s⟩ → g ≠ b) (HF.out.ext k9.out) (by omega) (fun b o s h0 e h => h.2 b o s h0 e rfl) (fun x h => h.1))
            unfold RNewB at hrn
            simp only [if_pos hE] at hrn
            go_wp2_with fail
            refine hrn.out.mono ?_
            rintro e w10 ⟨⟨r, rfl, hr9, hrp⟩, hb⟩
            replace hr9 := Lib.hid hr9
            have k10 := Lib.hid (k9.out.trans (hb.mono k9.out.size))
            have own10 := Lib.hid (own9.out.ext hb)
            have NA10 := Lib.hid ((NA9.out.ext hb).wide hb.size (Nat.le_refl _))
            have RP10 := Lib.hid hrp
            clear hb hrn hrp NA9
            have hrB : Hid (wc.heap.size ≤ r) := Lib.hid (Nat.le_trans k9.out.size hr9.out)
            have hSin : Hid (∀ x, wc.heap.size ≤ x → x < w9.heap.size → (x < w9.heap.size ∧ ∀ b o s, 0 < fn → fa = some ⟨b, o, s⟩ → x ≠ b)) := Lib.hid (fun x h1 h2 => ⟨h2, fun b o s h0 e e2 => by have h3 := hpar.out b o s h0 e; omega⟩)
            have OG0 : Hid (∃ G : List Fate, Own fateE w10 wc.heap.size (.slice a8 fn c8) G ∧ ∀ j, 0 ≤ j → G[j]? = F[j]?) := Lib.hid ⟨F, own10.out, fun _ _ => rfl⟩
            go_wp2_with fail
            go_loopw [12] (fun i wr => ∃ k2 : Nat, k2 ≤ fn ∧ i = .int .i64 k2 ∧ Hid (∃ G : List Fate, Own fateE wr wc.heap.size (.slice a8 fn c8) G ∧ ∀ j, k2 ≤ j → G[j]? = F[j]?) ∧ Hid (Tch (fun g => (Value.slice a8 fn c8).ownBlock = some g) w10 wr)) (fun i _ => fn - (intOf i).toNat)
            case atStart => exact ⟨0, Nat.zero_le _, rfl, OG0, Lib.hid (Tch.refl _ _)⟩
            case round =>
              clear OG0
              obtain ⟨k2, hk2, rfl, OG, KT⟩ := hrel
              by_cases hlt2 : k2 < fn
              case pos =>
                have hk2I : (k2 : Int) < fn := by omega
                have hk20 : (0 : Int) ≤ k2 := by omega
                obtain ⟨G, hG, hGF⟩ := OG.out
                obtain ⟨f, hf⟩ : ∃ f, F[k2]? = some f := ⟨F[k2]'(by rw [hfl.out]; exact hlt2), List.getElem?_eq_getElem _⟩
                have KW : Hid (Below wc.heap.size wc wr) := Lib.hid (k10.out.trans (KT.out.below (B := wc.heap.size) k10.out.size (fun b _ hb => (own10.out.lt b hb).1)))
                have hGl := (own_rd_at hG).2
                have hGk : G[k2]? = some f := by rw [hGF k2 (Nat.le_refl _)]; exact hf
                obtain ⟨bg, og, rfl, -, hcg⟩ := rd_ft (own_rd_at hG).1 (by omega)
                obtain ⟨bf, of, rfl, -, hcf⟩ := rd_ft (HF.out.ext KW.out) (by omega)
                obtain ⟨g0, g1, g2⟩ := hcg k2 (by omega)
                obtain ⟨f0, f1, f2⟩ := hcf k2 (by rw [hfl.out]; exact hlt2)
                have e1 : G[k2]'(by omega) = f := by rw [List.getElem?_eq_getElem (by omega)] at hGk; exact Option.some.inj hGk
                have e2 : F[k2]'(by rw [hfl.out]; exact hlt2) = f := by rw [List.getElem?_eq_getElem (by rw [hfl.out]; exact hlt2)] at hf; exact Option.some.inj hf
                rw [e1] at g0 g1 g2
                rw [e2] at f0 f1 f2
                clear e1 e2 hcg hcf hf hGk
                obtain ⟨x0, x1, x2⟩ := f
                dsimp only at g0 g1 g2 f0 f1 f2
                have HG := Lib.hid hG
                have HGF := Lib.hid hGF
                have HGl := Lib.hid hGl
                clear hG hGF hGl OG
                go_upto_region 17 with (fail)
                go_quiet (fail)
                obtain ⟨Y, hY⟩ : ∃ Y, wr.drewN nq = Y := ⟨_, rfl⟩
                have kY : Hid (Below wr.heap.size wr Y) := Lib.hid (by rw [← hY]; exact bel_drewN _ _)
                rw [hY]
                clear hY g0 g1 g2 f0 f1 f2
                obtain ⟨gg, e3, hgb, hgl, hcs, hown⟩ := own_fate (HG.out.ext kY.out) hlt2 (1, 0, 0)
                cases e3
                obtain ⟨⟨v0, hv0⟩, z0⟩ := hcs 0 (by decide)
                obtain ⟨⟨v1, hv1⟩, z1⟩ := hcs 1 (by decide)
                obtain ⟨⟨v2, hv2⟩, z2⟩ := hcs 2 (by decide)
                simp only [Nat.add_zero] at hv0 z0
                have HOW := Lib.hid hown
                clear hcs hown hgl
                go_wp2_with fail
                refine ⟨⟨k2 + 1, by omega, by go_num, Lib.hid ⟨_, HOW.out, fun j hj => ?_⟩, Lib.hid ?_⟩, by simp [intOf]; omega⟩
                · rw [List.getElem?_set_ne (by omega)]
                  exact HGF.out j (by omega)
                · exact (((KT.out.trans (Tch.of_below (S := fun _ => False) kY.out) (fun _ _ e => e.elim)).trans (Tch.setCell (S := fun g => (Value.slice (some ⟨bg, 0, none⟩) fn c8).ownBlock = some g) Y (p := ⟨bg, k2 * 3, none⟩) rfl _) (fun _ _ e => e)).trans (Tch.setCell (S := fun g => (Value.slice (some ⟨bg, 0, none⟩) fn c8).ownBlock = some g) _ (p := ⟨bg, k2 * 3 + 1, none⟩) rfl _) (fun _ _ e => e)).trans (Tch.setCell (S := fun g => (Value.slice (some ⟨bg, 0, none⟩) fn c8).ownBlock = some g) _ (p := ⟨bg, k2 * 3 + 2, none⟩) rfl _) (fun _ _ e => e)
              case neg =>
                have hk2I : ¬ (k2 : Int) < fn := by omega
                have KW : Hid (Below wc.heap.size wc wr) := Lib.hid (k10.out.trans (KT.out.below (B := wc.heap.size) k10.out.size (fun b _ hb => (own10.out.lt b hb).1)))
                have NA0 : Hid (NetA wr pp wc.heap.size wr.heap.size S9 ⟨F, 0, [], ⟨0, 0, 0, 0⟩⟩) := Lib.hid ((NA10.out.tch KT.out (fun x hx e => by have h1 := (hS9i.out x hx).1; have h2 := (own8.out.lt x e).2; omega)).wide KT.out.size (Nat.le_refl _))
                have RP0 : Hid (RefP wr S9 r F [] ⟨0, 0, 0, 0⟩) := Lib.hid (RP10.out.tch KT.out (fun x _ e => hSin.out x (own8.out.lt x e).1 (own9.out.lt x e).2) (fun x _ hx => hSin.out x (Nat.le_trans k8.out.size (hS9i.out x hx).1) (hS9i.out x hx).2))
                have hbp : BthP ⟨F, 0, [], ⟨0, 0, 0, 0⟩⟩ [] 0 := ⟨rfl, Nat.zero_le _, ?fates, Nat.zero_le _, ?mf, fun f hf => (by cases hf), ⟨Int.le_refl 0, Int.le_refl 0⟩, ⟨Int.le_refl 0, Int.le_refl 0⟩, ⟨Int.le_refl 0, Int.le_refl 0⟩, ⟨Int.le_refl 0, Int.le_refl 0⟩⟩
                case fates => unfold newE at hE; rcases Nat.lt_or_ge 65536 F.length with h | h; rw [if_pos h] at hE; cases hE; exact h
                case mf => unfold newE at hE; split at hE; cases hE; split at hE; rename_i hall; exact List.all_eq_true.1 hall; cases hE
                have BT0 : Hid (∃ S s L, Bth wr pp wc.heap.size S s r L 0) := Lib.hid ⟨_, _, _, Bth.mk' NA0.out RP0.out hrB.out hbp⟩
                clear hbp NA0 RP0
                go_wp2_with fail
                obtain ⟨wl, rfl⟩ : ∃ wl, wl = wr := ⟨_, rfl⟩
                go_loopw [13] (fun i wr => ∃ k3 : Nat, k3 ≤ k ∧ i = .int .i64 k3 ∧ Hid (∃ S s L, Bth wr pp wc.heap.size S s r L k3) ∧ Hid (Below wc.heap.size wc wr)) (fun i _ => k - (intOf i).toNat)
                case atStart => exact ⟨0, Nat.zero_le _, rfl, BT0, KW⟩
                case round =>
                  clear BT0 KW
                  obtain ⟨k3, hk3, rfl, BT, KW⟩ := hrel
                  by_cases hlt3 : k3 < k
                  case pos =>
                    have hk3I : (k3 : Int) < k := by omega
                    have hk30 : (0 : Int) ≤ k3 := by omega
                    obtain ⟨S, s, L, hB⟩ := BT.out
                    obtain ⟨q, hq⟩ : ∃ q, R[k3]? = some q := ⟨R[k3]'(by rw [hrl.out]; exact hlt3), List.getElem?_eq_getElem _⟩
                    obtain ⟨b, o, rfl, d0, d1, d2, d3, d4, d5, d6, d7⟩ := ad_cells (HR.out.1.ext KW.out) hq
                    obtain ⟨l, hl, hl2⟩ := HR.out.2 q (List.mem_of_getElem? hq)
                    obtain ⟨qk, ⟨h, da, dn, dc⟩, qy⟩ := q
                    dsimp only at d0 d1 d2 d3 d4 d5 d6 d7 hl hl2
                    have hac := Lib.hid (act_any hB (by omega) qk qy h (hl.ext KW.out) hl2 (fun b2 o2 s2 h0 e => by
                      obtain ⟨b1, o1, e1, hlt, _⟩ := hl.addr h0
                      rw [e1] at e
                      cases e
                      exact ⟨fun hs => by have h1 := hB.a.lo _ hs; omega, fun e => by have h1 := hB.br; omega⟩))
                    unfold acC pkC at hac
                    simp only [List.cons_append, List.nil_append] at hac
                    clear hB hq BT hl hl2
                    go_wp2_with fail
                    refine hac.out.mono ?_
                    rintro e wq ⟨rfl, hb, hBt⟩
                    have KW2 := Lib.hid (KW.out.trans hb)
                    have BT2 := Lib.hid hBt
                    clear hac hb hBt d0 d1 d2 d3 d4 d5 d6 d7 KW
                    go_wp2_with fail
                    go_roundw
                    case rel => exact ⟨k3 + 1, by omega, by go_num, BT2, KW2⟩
                    case measure => simp [intOf]; omega
                  case neg =>
                    have hk3I : ¬ (k3 : Int) < k := by omega
                    obtain ⟨S, s, L, hB⟩ := BT.out
                    have hfl2 := Lib.hid (lflights_any hB.a.P hB.q hB.e (by rw [hB.p.len]; exact hB.room) (fun f hf => by rw [hB.e] at hf; have h1 := hB.dl f ((srtK_mem _ _ f).1 hf); omega))
                    clear hB BT
                    go_wp2_with fail
                    refine hfl2.out.mono ?_
                    rintro e wq ⟨rfl, hb⟩
                    have KW2 := Lib.hid (KW.out.trans (hb.mono KW.out.size))
                    clear hb hfl2
                    go_wp2_with fail
                    go_ret
                    exact ⟨rfl, KW2.out⟩
section
open Go.ChangeShapes Go.WideShapes
variable {H : Type} {enc : TypeId × Value → H}
set_option maxRecDepth 100000 in
theorem netScript_law {W : World} {r : Reach} {b0 : Nat} {ts : List TypeId} {ds : List (DataW H)} (v0 : Value) (d0 : DataW H) (p0 : List MemPlace) (h0 : DataW.Trod enc Try.prog W 0 (fun _ => true) true 40 v0 d0 p0) (hv0 : Value.okWide Try.prog W r b0 40 v0)
    (_ : (DataW.weightsEach Try.prog ts ds).all (· ≤ reachBytes) = true) (z0 : Sz Try.prog 40 d0) (v1 : Value) (d1 : DataW H) (p1 : List MemPlace) (h1 : DataW.Trod enc Try.prog W 0 (fun _ => true) true 52 v1 d1 p1) (hv1 : Value.okWide Try.prog W r b0 52 v1) (_ : (DataW.weightsEach Try.prog ts ds).all (· ≤ reachBytes) = true) (z1 : Sz Try.prog 52 d1) (_ : World) : Calls Try.prog 6 #[v0, v1] W fun e w' => e = .returned (.bool true) ∧ Below W.heap.size W w' := by
  obtain ⟨a0, n0, c0, rfl⟩ := okWide_slice (by kernel_rfl : Try.prog.underlying 40 = some (.slice 51)) hv0
  obtain ⟨a1, n1, c1, rfl⟩ := okWide_slice (by kernel_rfl : Try.prog.underlying 52 = some (.slice 54)) hv1
  obtain ⟨f0, hf0⟩ := h0
  obtain ⟨f1, hf1⟩ := h1
  obtain ⟨a, n, c, L, e, h, hn⟩ := in_fates (v := .slice a0 n0 c0) (y := (d0, p0)) (by simpa only [Value.cells] using hf0) z0
  obtain ⟨a', n', c', L', e', h', hn'⟩ := in_acts (v := .slice a1 n1 c1) (y := (d1, p1)) (by simpa only [Value.cells] using hf1) z1
  rw [e, e']
  exact script_any h h' hn' hn
end
end Go.Proofs.Ythdnbipfdahnlaa
