/- NameTexts returns true for any two names and any text. The walk. -/
import Derived.Test.YtffdcfannnmjnaaNameJ
import Derived.Test.YtffdcfannnmjnaaNameCallsW
namespace Go.Proofs.Ytffdcfannnmjnaa
open Go.RowKit
set_option maxHeartbeats 16000000 in
set_option maxRecDepth 100000 in
theorem nameTexts_walk {W : World} {a b : Option Addr} {na ca nb cb : Nat} {la lb : Nm} (h1 : RT W a na ca la) (h2 : RT W b nb cb lb) (s : List UInt8) (hs : s.length ≤ 140737488355328) :
    Calls Try.prog 16 #[.slice a na ca, .string (mk s), .slice b nb cb] W fun e w' => e = .returned (.bool true) ∧ Below W.heap.size W w' := by
  by_cases fa : fewL la = true
  · by_cases fb : fewL lb = true
    · by_cases z4 : s.length ≤ 1500
      · obtain ⟨hA0, z1⟩ := fewL_nmd h1 fa
        obtain ⟨hB0, z2⟩ := fewL_nmd h2 fb
        have s1 : ∀ s ∈ la, s.length ≤ 300 := fun s hs => by
          unfold fewL at fa; simp only [Bool.and_eq_true, List.all_eq_true, decide_eq_true_eq] at fa; exact fa.1 s hs
        have s2 : ∀ s ∈ lb, s.length ≤ 300 := fun s hs => by
          unfold fewL at fb; simp only [Bool.and_eq_true, List.all_eq_true, decide_eq_true_eq] at fb; exact fb.1 s hs
        have hNA := Lib.hid hA0
        have hNB := Lib.hid hB0
        have h1 := Lib.hid h1
        have h2 := Lib.hid h2
        have s1 := Lib.hid s1
        have s2 := Lib.hid s2
        clear hA0 hB0
        obtain ⟨tl, te, hT⟩ : ∃ pl pe, textN la = (pl, pe) := ⟨_, _, rfl⟩
        obtain ⟨pl, pe, hP⟩ : ∃ pl pe, parseN s = (pl, pe) := ⟨_, _, rfl⟩
        obtain ⟨rl, re, hR⟩ : ∃ pl pe, relN s lb = (pl, pe) := ⟨_, _, rfl⟩
        go_enter Try.func16, Try.ntmps16
        go_wp2_with fail
        refine (few_any h1.out.rd h1.out.texts).mono ?_
        rw [fa]
        rintro e w0 ⟨rfl, rfl⟩
        go_wp2_with fail
        refine (few_any h2.out.rd h2.out.texts).mono ?_
        rw [fb]
        rintro e w0 ⟨rfl, rfl⟩
        go_wp2_with fail
        refine (lent_name h1.out.rd (by omega)).mono ?_
        rintro e w1 ⟨rfl, hB1, kb1⟩
        have hB1' := Lib.hid hB1
        clear hB1
        go_wp2_with fail
        refine (lent_name (h2.out.rd.ext kb1) (by omega)).mono ?_
        rintro e w2 ⟨rfl, hB2, kb2⟩
        have hB2' := Lib.hid hB2
        have hB1b := Lib.hid (hB1'.out.below kb2 hB1'.out.lt)
        clear hB2 hB1'
        have hbW : Below W.heap.size W w2 := kb1.trans (kb2.mono kb1.size)
        have hX : Hid (Nms w2 (some ⟨W.heap.size, 0, none⟩) na (na + 3) la) := Lib.hid ⟨⟨rd_pre (E := strE) (l := la) (r := [lentS, lentS, lentS]) hB1b.out na (na + 3) hNA.out.rd.len.symm (by rw [hNA.out.rd.len]; rfl) (by simp [maxLen]; omega), hNA.out.few, hNA.out.short⟩, fun s hs => Nat.le_trans (s1.out s hs) (by omega)⟩
        have hY : Hid (Nms w2 (some ⟨w1.heap.size, 0, none⟩) nb (nb + 3) lb) := Lib.hid ⟨⟨rd_pre (E := strE) (l := lb) (r := [lentS, lentS, lentS]) hB2'.out nb (nb + 3) hNB.out.rd.len.symm (by rw [hNB.out.rd.len]; rfl) (by simp [maxLen]; omega), hNB.out.few, hNB.out.short⟩, fun s hs => Nat.le_trans (s2.out s hs) (by omega)⟩
        have hA : Hid (Nms w2 a na ca la) := Lib.hid ⟨hNA.out.ext hbW, fun s hs => Nat.le_trans (s1.out s hs) (by omega)⟩
        have hB : Hid (Nms w2 b nb cb lb) := Lib.hid ⟨hNB.out.ext hbW, fun s hs => Nat.le_trans (s2.out s hs) (by omega)⟩
        have hxl := hB1b.out.lt
        have hyl := hB2'.out.lt
        have hb2 : Below w2.heap.size w2 w2 := Below.refl _ _
        have ht2 : Hid (Told 300 w2.heap.size w2 []) := Lib.hid (Told.nil _ _ _)
        have z3 : na ≤ 1099511627776 := by omega
        have z5 : nb ≤ 1099511627776 := by omega
        have z4 : s.length ≤ 1000000 := by omega
        have z1 : na ≤ 8796093022208 := by omega
        have z2 : nb ≤ 8796093022208 := by omega
        generalize hgx : W.heap.size = gx at *
        generalize w1.heap.size = gy at *
        clear hNA hNB h1 h2
        go_wp2_with fail
        refine (textN_any (hX.out.ext hb2).nm.rd z1).mono ?_
        rw [hT]
        rintro e w3 ⟨rfl, k3⟩
        have hb3 : Below w2.heap.size w2 w3 := hb2.trans (k3.mono hb2.size)
        have ht3 := Lib.hid (ht2.out.ext k3)
        clear ht2
        go_wp2_with fail
        refine (rtextN_any (hA.out.ext hb3).nm.rd z1).mono ?_
        rw [hT]
        rintro e w4 ⟨rfl, k4⟩
        have hb4 : Below w2.heap.size w2 w4 := hb3.trans (k4.mono hb3.size)
        have ht4 := Lib.hid (ht3.out.ext k4)
        clear ht3
        go_wp2_with fail
        refine (parse_any (M := 300) (by omega) s _ z4).mono ?_
        rw [hP]
        dsimp only
        rintro e w5 ⟨⟨v, rfl, ho⟩, k5⟩
        obtain ⟨a_a, c_a, hv, _⟩ := ho.rd
        subst hv
        have hb5 : Below w2.heap.size w2 w5 := hb4.trans (k5.mono hb4.size)
        have ht5 := Lib.hid ((ht4.out.ext k5).cons ho hb4.size)
        clear ht4 ho
        go_wp2_with fail
        refine (rparse_any (M := 300) (by omega) s _ z4).mono ?_
        rw [hP]
        dsimp only
        rintro e w6 ⟨⟨v, rfl, ho⟩, k6⟩
        obtain ⟨a_b, c_b, hv, _⟩ := ho.rd
        subst hv
        have hb6 : Below w2.heap.size w2 w6 := hb5.trans (k6.mono hb5.size)
        have ht6 := Lib.hid ((ht5.out.ext k6).cons ho hb5.size)
        clear ht5 ho
        go_wp2_with fail
        refine (rel_any (M := 300) (by omega) s z4 (hY.out.ext hb6).nm.rd z2).mono ?_
        rw [hR]
        dsimp only
        rintro e w7 ⟨⟨v, rfl, ho⟩, k7⟩
        obtain ⟨a_c, c_c, hv, _⟩ := ho.rd
        subst hv
        have hb7 : Below w2.heap.size w2 w7 := hb6.trans (k7.mono hb6.size)
        have ht7 := Lib.hid ((ht6.out.ext k7).cons ho hb6.size)
        clear ht6 ho
        go_wp2_with fail
        refine (rrel_any (M := 300) (by omega) s z4 (hB.out.ext hb7).nm.rd z2).mono ?_
        rw [hR]
        dsimp only
        rintro e w8 ⟨⟨v, rfl, ho⟩, k8⟩
        obtain ⟨a_d, c_d, hv, _⟩ := ho.rd
        subst hv
        have hb8 : Below w2.heap.size w2 w8 := hb7.trans (k8.mono hb7.size)
        have ht8 := Lib.hid ((ht7.out.ext k8).cons ho hb7.size)
        clear ht7 ho
        go_wp2_with fail
        refine (same_name (ht8.out.get 3 rfl) (ht8.out.get 2 rfl)).mono ?_
        rw [beq_self_eq_true]
        rintro e w9 ⟨rfl, k9⟩
        have hb9 : Below w2.heap.size w2 w9 := hb8.trans (k9.mono hb8.size)
        have ht9 := Lib.hid (ht8.out.ext k9)
        clear ht8
        go_wp2_with fail
        refine (same_name (ht9.out.get 1 rfl) (ht9.out.get 0 rfl)).mono ?_
        rw [beq_self_eq_true]
        rintro e w10 ⟨rfl, k10⟩
        have hb10 : Below w2.heap.size w2 w10 := hb9.trans (k10.mono hb9.size)
        have ht10 := Lib.hid (ht9.out.ext k10)
        clear ht9
        go_wp2_with fail
        refine (over_texts (B := 300) (by omega) (ht10.out.ov 1 rfl)).mono ?_
        rintro e wo ⟨rfl, _, hgr, hg⟩
        have hbo : Below w2.heap.size w2 wo := hb10.grown hgr hb10.size (fun k hk => (hg k hk).1)
        have rx : Rd strE wo (some ⟨gx, 0, none⟩) (na + 3) (na + 3) (lentT la) := rd_blk (E := strE) (hB1b.out.below hbo hxl) _ (by rw [lentT_length, hA.out.nm.rd.len]) (by simp [maxLen]; omega)
        have rx' := Lib.hid rx
        clear rx hgr hg
        go_wp2_with fail
        refine (kept_name (n := na) rx'.out (hA.out.ext hbo).nm.rd z3 rfl).mono ?_
        rw [beq_self_eq_true]
        rintro e wn ⟨rfl, kn⟩
        have hbn : Below w2.heap.size w2 wn := hbo.trans (kn.mono hbo.size)
        have ry : Rd strE wn (some ⟨gy, 0, none⟩) (nb + 3) (nb + 3) (lentT lb) := rd_blk (E := strE) (hB2'.out.below hbn hyl) _ (by rw [lentT_length, hB.out.nm.rd.len]) (by simp [maxLen]; omega)
        have ry' := Lib.hid ry
        clear ry
        go_wp2_with fail
        refine (kept_name (n := nb) ry'.out (hB.out.ext hbn).nm.rd z5 rfl).mono ?_
        rw [beq_self_eq_true]
        rintro e wm ⟨rfl, km⟩
        have hbm : Below w2.heap.size w2 wm := hbn.trans (km.mono hbn.size)
        go_wp2_with fail
        go_ret
        exact ⟨rfl, by rw [hgx]; exact hbW.trans (hbm.mono (by omega))⟩
      · have h1 := Lib.hid h1
        have h2 := Lib.hid h2
        have z6 : (1500 : Int) < s.length := by omega
        go_enter Try.func16, Try.ntmps16
        go_wp2_with fail
        refine (few_any h1.out.rd h1.out.texts).mono ?_
        rw [fa]
        rintro e w0 ⟨rfl, rfl⟩
        go_wp2_with fail
        refine (few_any h2.out.rd h2.out.texts).mono ?_
        rw [fb]
        rintro e w0 ⟨rfl, rfl⟩
        go_wp2_with fail
        go_ret
        exact ⟨rfl, Below.refl _ _⟩
    · have fb : fewL lb = false := by simpa using fb
      have h1 := Lib.hid h1
      have h2 := Lib.hid h2
      go_enter Try.func16, Try.ntmps16
      go_wp2_with fail
      refine (few_any h1.out.rd h1.out.texts).mono ?_
      rw [fa]
      rintro e w0 ⟨rfl, rfl⟩
      go_wp2_with fail
      refine (few_any h2.out.rd h2.out.texts).mono ?_
      rw [fb]
      rintro e w0 ⟨rfl, rfl⟩
      go_wp2_with fail
      go_ret
      exact ⟨rfl, Below.refl _ _⟩
  · have fa : fewL la = false := by simpa using fa
    have h1 := Lib.hid h1
    go_enter Try.func16, Try.ntmps16
    go_wp2_with fail
    refine (few_any h1.out.rd h1.out.texts).mono ?_
    rw [fa]
    rintro e w0 ⟨rfl, rfl⟩
    go_wp2_with fail
    go_ret
    exact ⟨rfl, Below.refl _ _⟩
theorem nameTexts_law {W : World} (a : Option Addr) (na ca : Nat) (la : Nm) (h1 : RT W a na ca la) (s : List UInt8) (hs : s.length ≤ reachBytes) (b : Option Addr) (nb cb : Nat) (lb : Nm) (h2 : RT W b nb cb lb) (_ : World) :
    Calls Try.prog 16 #[.slice a na ca, .string (mk s), .slice b nb cb] W fun e w' => e = .returned (.bool true) ∧ Below W.heap.size W w' := nameTexts_walk h1 h2 s (Nat.le_trans hs (by decide))
end Go.Proofs.Ytffdcfannnmjnaa
