/- The law PickSound, walked. -/
import Derived.Test.YtjkeijjfjbcaiaaPkSd
namespace Go.Proofs.Ytjkeijjfjbcaiaa
open Go.RowKit Go.ChangeShapes Go.WideShapes
set_option linter.unusedSimpArgs false
set_option maxHeartbeats 16000000 in
set_option maxRecDepth 100000 in
theorem pickSound_walk {W : World} {a : Option Addr} {n c : Nat} {xs : List Int} (hR : Rd intE W a n c xs) {a2 : Option Addr} {n2 c2 : Nat} {l : List Int} (hS : Rd u32E W a2 n2 c2 l) (now later : Int) : Calls Try.prog 3 #[.slice a n c, .slice a2 n2 c2, .int .i64 now, .int .i64 later] W fun e w' => e = .returned (.bool true) ∧ Below W.heap.size W w' := by
  have hR' := Lib.hid hR
  have hS' := Lib.hid hS
  have hl := hR.len
  have hl2 := hS.len
  have hcap := hR.cap
  have hmax := hR.most
  have hcap2 := hS.cap
  have hmax2 := hS.most
  have hnM : (n : Int) ≤ 9223372036854775807 := by
    simp only [maxLen] at hmax
    omega
  have hnM2 : (n2 : Int) ≤ 9223372036854775807 := by
    simp only [maxLen] at hmax2
    omega
  clear hR hmax hcap hS hcap2 hmax2
  go_enter Try.func3, Try.ntmps3
  go_wp2_with fail
  refine (awake9 W).mono ?_
  rintro e w1 ⟨rfl, hb1⟩
  have hb1' := Lib.hid hb1
  clear hb1
  by_cases h1 : (60 : Int) < n
  · go_wp2_with fail
    go_ret
    exact ⟨rfl, hb1'.out⟩
  by_cases h1' : (20 : Int) < n2
  · go_wp2_with fail
    go_ret
    exact ⟨rfl, hb1'.out⟩
  by_cases h2 : now < 0
  · go_wp2_with fail
    go_ret
    exact ⟨rfl, hb1'.out⟩
  by_cases h3 : 1000000 < now
  · go_wp2_with fail
    go_ret
    exact ⟨rfl, hb1'.out⟩
  by_cases h4 : later < 0
  · go_wp2_with fail
    go_ret
    exact ⟨rfl, hb1'.out⟩
  by_cases h5 : 10000 < later
  · go_wp2_with fail
    go_ret
    exact ⟨rfl, hb1'.out⟩
  go_wp2_with fail
  refine (told10 (room := 8) (by decide) (by decide) (by omega) (by omega) (hR'.out.ext hb1'.out) (by omega)).mono ?_
  rintro e w3 ⟨rfl, hP3⟩
  have hlen := Lib.hid (toldK_room (room := 8) (now := now) (by decide) xs)
  have hok := Lib.hid (toldK_ok 8 now xs)
  have hll : Hid ((toldK 8 now xs).length ≤ 100000) := Lib.hid (by have := hlen.out; omega)
  have hkb : Hid (∀ k ∈ toldK 8 now xs, KB k) := Lib.hid (fun k hk => (hok.out k hk).kb)
  have hP3' := Lib.hid hP3
  clear hP3 hok hlen
  generalize toldK 8 now xs = L at *
  have hS3 := Lib.hid (hS'.out.ext (hb1'.out.trans (hP3'.out.below.mono hb1'.out.size)))
  go_wp2_with fail
  refine (chooseU hP3'.out (by decide) hll.out hS3.out (now + later)).mono ?_
  rintro e w4 ⟨rfl, hb4, hP4⟩
  have hP4' := Lib.hid hP4
  have hS4 := Lib.hid (hS3.out.ext hb4)
  clear hb4 hP4 hS3 hP3'
  by_cases h0 : n2 = 0
  · subst h0
    have : l = [] := List.eq_nil_of_length_eq_zero hl2
    subst this
    go_wp2_with fail
    go_ret
    exact ⟨rfl, hb1'.out.trans (hP4'.out.below.mono hb1'.out.size)⟩
  have h0I : ¬ (n2 : Int) = 0 := by omega
  have hlaw := Lib.hid (ss_law (now := now + later) (l := l) (by omega) hkb.out)
  rw [hl2, decide_eq_true h0]
  obtain ⟨T, hT⟩ : ∃ T, Hid (now + later = T) := ⟨_, Lib.hid rfl⟩
  rw [hT.out] at hlaw ⊢
  generalize chooseK L T l = x at *
  go_wp2_with fail
  refine (knownU hP4'.out (by decide) hll.out).mono ?_
  rintro e w5 ⟨⟨a5, c5, rfl, hR5⟩, hb5, hP5⟩
  have hR5' := Lib.hid hR5
  have hP5' := Lib.hid hP5
  have hS5 := Lib.hid (hS4.out.ext hb5)
  clear hR5 hP5 hb5 hS4 hP4'
  go_wp2_with fail
  go_loopw [14, 15, 16, 17, 18, 20, 21] (fun i m s t b j _ wr => ∃ k : Nat, k ≤ n2 ∧ j = .int .i64 k ∧ i = .bool (ssAll L T x (l.take k)).i ∧ m = .bool (ssAll L T x (l.take k)).m ∧ s = .bool (ssAll L T x (l.take k)).s ∧ t = .int .i64 (ssAll L T x (l.take k)).t ∧ b = .int .i64 (ssAll L T x (l.take k)).b ∧ Below w5.heap.size w5 wr) (fun _ _ _ _ _ j _ _ => n2 - (intOf j).toNat)
  case atStart => exact ⟨0, Nat.zero_le _, rfl, rfl, rfl, rfl, rfl, rfl, Below.refl _ _⟩
  case round =>
    obtain ⟨k, hk, rfl, rfl, rfl, rfl, rfl, rfl, hb⟩ := hrel
    by_cases hlt : k < n2
    · have hkI : (k : Int) < n2 := by omega
      obtain ⟨b, o, rfl, hbs, hc⟩ := rd_u32 (hS5.out.ext hb) (by omega)
      have hck := hc k (by omega)
      have hs := ssAll_snoc L T x (l.take k) (l[k]'(by omega))
      rw [← List.take_succ_eq_append_getElem (by omega)] at hs
      have hs' := Lib.hid hs
      have hb' := Lib.hid hb
      clear hc hs hb
      generalize l[k]'(by omega) = y at *
      generalize ssAll L T x (l.take k) = st at *
      obtain ⟨si, sm, ss, st, sb⟩ := st
      dsimp only at *
      go_wp2_with fail
      refine (lof13 (hR5'.out.ext hb'.out) (by have := hll.out; omega) y).mono ?_
      rintro e w6 ⟨rfl, hb6⟩
      obtain ⟨z, hz⟩ : ∃ z, Hid (ofD L y = z) := ⟨_, Lib.hid rfl⟩
      rw [hz.out]
      obtain ⟨za, zt, zf, zg⟩ := z
      unfold knV
      dsimp only at *
      have hst : Hid (ssAll L T x (l.take (k + 1)) = ⟨si || decide (y = x), if y = x then decide (zg ≤ now + later) else sm, ss || decide (zg ≤ now + later), if y = x then zt else st, if decide (zg ≤ now + later) = true then mn sb zt else sb⟩) := Lib.hid (by
        rw [hs'.out]; unfold ssStep erl; rw [hz.out, hT.out])
      have ck6 : (w6.alloc (.cells #[.int .u32 za, .int .i64 zt, .int .i64 zf, .int .i64 zg] 34)).cell? ⟨b, o + k, none⟩ = some (.int .u32 y) := Lib.cell?_alloc_some _ ((World.cell?_of_block (w := wr) (hb6.block b hbs)).trans hck)
      have hb7 : Hid (Below w5.heap.size w5 (w6.alloc (.cells #[.int .u32 za, .int .i64 zt, .int .i64 zf, .int .i64 zg] 34))) := Lib.hid (by
        have := hb'.out.trans (hb6.mono hb'.out.size)
        exact this.alloc this.size _)
      clear hs' hz hb6 hck
      by_cases he : zg ≤ now + later
      · have he2 : decide (zg ≤ now + later) = true := decide_eq_true he
        by_cases hyx : y = x
        · have hyb : (y == x) = true := beq_iff_eq.2 hyx
          cases si
          all_goals
            go_wp2_with fail
            go_region
            go_wp2_with fail
            all_goals
              go_roundw
              case rel =>
                refine ⟨k + 1, by omega, by go_num, ?_, ?_, ?_, ?_, ?_, hb7.out.drew⟩
                all_goals rw [hst.out]
                all_goals (first | rfl | (simp [hyx, he, he2]; done) | (dsimp only; simp only [hyx, he2, if_true, if_false, decide_true, decide_false, Bool.false_eq_true, Value.int.injEq, true_and]; unfold mn; split <;> omega))
              case measure => simp [intOf]; omega
        · have hyb : (y == x) = false := beq_eq_false_iff_ne.2 hyx
          cases si
          all_goals
            go_wp2_with fail
            all_goals
              go_roundw
              case rel =>
                refine ⟨k + 1, by omega, by go_num, ?_, ?_, ?_, ?_, ?_, hb7.out⟩
                all_goals rw [hst.out]
                all_goals (first | rfl | (simp [hyx, he, he2]; done) | (dsimp only; simp only [hyx, he2, if_true, if_false, decide_true, decide_false, Bool.false_eq_true, Value.int.injEq, true_and]; unfold mn; split <;> omega))
              case measure => simp [intOf]; omega
      · have he2 : decide (zg ≤ now + later) = false := decide_eq_false he
        by_cases hyx : y = x
        · have hyb : (y == x) = true := beq_iff_eq.2 hyx
          cases si
          all_goals
            go_wp2_with fail
            go_region
            go_wp2_with fail
            all_goals
              go_roundw
              case rel =>
                refine ⟨k + 1, by omega, by go_num, ?_, ?_, ?_, ?_, ?_, hb7.out.drew⟩
                all_goals rw [hst.out]
                all_goals (first | rfl | (simp [hyx, he, he2]; done) | (dsimp only; simp only [hyx, he2, if_true, if_false, decide_true, decide_false, Bool.false_eq_true, Value.int.injEq, true_and]; unfold mn; split <;> omega))
              case measure => simp [intOf]; omega
        · have hyb : (y == x) = false := beq_eq_false_iff_ne.2 hyx
          cases si
          all_goals
            go_wp2_with fail
            all_goals
              go_roundw
              case rel =>
                refine ⟨k + 1, by omega, by go_num, ?_, ?_, ?_, ?_, ?_, hb7.out⟩
                all_goals rw [hst.out]
                all_goals (first | rfl | (simp [hyx, he, he2]; done) | (dsimp only; simp only [hyx, he2, if_true, if_false, decide_true, decide_false, Bool.false_eq_true, Value.int.injEq, true_and]; unfold mn; split <;> omega))
              case measure => simp [intOf]; omega
    · have hk' : k = n2 := by omega
      subst hk'
      rw [List.take_of_length_le (by omega)]
      obtain ⟨q1, q2, q3⟩ := hlaw.out
      generalize ssAll L T x l = st at *
      obtain ⟨si, sm, ss, st, sb⟩ := st
      dsimp only at *
      subst q1 q2
      have hb' := Lib.hid hb
      clear hb
      have hE : Hid (Below W.heap.size W wr) := Lib.hid ((hb1'.out.trans (hP5'.out.below.mono hb1'.out.size)).trans (hb'.out.mono (hb1'.out.trans (hP5'.out.below.mono hb1'.out.size)).size))
      cases sm
      · go_wp2_with fail
        go_ret
        exact ⟨rfl, hE.out⟩
      · have := q3 rfl
        subst this
        go_wp2_with fail
        go_ret
        exact ⟨rfl, hE.out⟩
theorem pickSound_law {H : Type} {enc : TypeId × Value → H} {W : World} {ts : List TypeId} {ds : List (DataW H)} (v : Value) (d : DataW H) (p : List MemPlace) (h : DataW.Trod enc Try.prog W 0 (fun _ => true) true 22 v d p) {rr : Reach} {b0 : Nat} (hv : Value.okWide Try.prog W rr b0 22 v)
    (_ : (DataW.weightsEach Try.prog ts ds).all (· ≤ reachBytes) = true) (v' : Value) (d' : DataW H) (p' : List MemPlace) (h' : DataW.Trod enc Try.prog W 0 (fun _ => true) true 23 v' d' p') {rr' : Reach} {b0' : Nat} (hv' : Value.okWide Try.prog W rr' b0' 23 v')
    (_ : (DataW.weightsEach Try.prog ts ds).all (· ≤ reachBytes) = true) (now : Int) (_ : (Lit.int .i64 now).wf = true) (later : Int) (_ : (Lit.int .i64 later).wf = true) (_ : World) :
    Calls Try.prog 3 #[v, v', .int .i64 now, .int .i64 later] W fun e w' => e = .returned (.bool true) ∧ Below W.heap.size W w' := by
  obtain ⟨a, n, c, l, rfl, hR, _⟩ := open_nums Try.underlying22 hv h
  obtain ⟨a', n', c', l', rfl, hS, _⟩ := open_u32s Try.underlying23 hv' h'
  exact pickSound_walk hR hS now later
end Go.Proofs.Ytjkeijjfjbcaiaa
