/- The law PickOthers, walked. -/
import Derived.Test.YtjkeijjfjbcaiaaPkN
import Derived.Test.YtjkeijjfjbcaiaaOpenN
namespace Go.Proofs.Ytjkeijjfjbcaiaa
open Go.RowKit Go.ChangeShapes Go.WideShapes
theorem stepK_len (room now : Int) (L : List Kn) (x : Nat) : (stepK room now L x).length ≤ L.length + 1 := by
  unfold stepK
  split
  · exact hrd_len _ _ _
  · split <;> exact hrd_len _ _ _
theorem toldK_len (room now : Int) (xs : List Int) : (toldK room now xs).length ≤ xs.length := by
  suffices h : ∀ (xs : List Int) (L : List Kn), (xs.foldl (fun L x => stepK room now L (pn x)) L).length ≤ L.length + xs.length by
    have := h xs []
    simpa [toldK] using this
  intro xs
  induction xs with
  | nil => intro L; exact Nat.le_refl _
  | cons x r ih =>
    intro L
    have h1 := ih (stepK room now L (pn x))
    have h2 := stepK_len room now L (pn x)
    simp only [List.foldl_cons, List.length_cons]
    omega
def kOf (o : Option Kn) (a now : Int) (x : Nat) : Kn :=
  if x / 4 % 4 < 2 then (match o with | none => ⟨a, mn (x / 16 : Nat) 10000, 0, now⟩ | some k => ⟨a, (7 * k.t + mn (x / 16 : Nat) 10000) / 8, 0, now⟩)
  else if x / 4 % 4 = 2 then bad1 (o.getD (kn0 a)) now else ⟨a, (o.getD (kn0 a)).t, (o.getD (kn0 a)).f, now + 900⟩
theorem stepK_of {room now : Int} {L : List Kn} {x : Nat} (hr : (L.length : Int) + 1 ≤ room) (a : Int) : ofK (stepK room now L x) a = if a = (x % 4 : Nat) then some (kOf (ofK L a) a now x) else ofK L a := by
  have hw : ∀ b, ((wo L b).length : Int) + 1 ≤ room := fun b => by have := wo_len L b; omega
  unfold stepK
  by_cases ha : a = (x % 4 : Nat)
  · rw [if_pos ha, ← ha]
    unfold kOf
    split
    · rw [ofK_hear (hw _), knGood_a, if_pos rfl]; rfl
    · split
      · rw [ofK_hear (hw _), knBad_a, if_pos rfl]; rfl
      · rw [ofK_hear (hw _), if_pos (show a = (knLame L a now).a from rfl)]; rfl
  · rw [if_neg ha]
    split
    · rw [ofK_hear (hw _), knGood_a, if_neg ha]
    · split
      · rw [ofK_hear (hw _), knBad_a, if_neg ha]
      · rw [ofK_hear (hw _), if_neg (show ¬ a = (knLame L _ now).a from ha)]
/-- what is heard of others changes nothing -/
theorem told_others (now : Int) (xs : List Int) (r : Nat) (hn : xs.length ≤ 60) : ofK (toldK 100 now xs) r = ofK (toldK 100 now (xs.filter fun x => decide (pn x % 4 = r))) r := by
  suffices h : ∀ (xs : List Int) (L M : List Kn), L.length + xs.length ≤ 60 → M.length + xs.length ≤ 60 → ofK L r = ofK M r →
      ofK (xs.foldl (fun L x => stepK 100 now L (pn x)) L) r = ofK ((xs.filter fun x => decide (pn x % 4 = r)).foldl (fun L x => stepK 100 now L (pn x)) M) r from h xs [] [] (by simpa using hn) (by simpa using hn) rfl
  intro xs
  induction xs with
  | nil => intro L M _ _ h; exact h
  | cons x t ih =>
    intro L M h1 h2 h
    simp only [List.length_cons] at h1 h2
    have hl := stepK_len 100 now L (pn x)
    have hm := stepK_len 100 now M (pn x)
    simp only [List.foldl_cons]
    by_cases hx : pn x % 4 = r
    · rw [List.filter_cons_of_pos (by simpa using hx)]
      simp only [List.foldl_cons]
      refine ih _ _ (by omega) (by omega) ?_
      rw [stepK_of (by omega), stepK_of (by omega), h]
    · rw [List.filter_cons_of_neg (by simpa using hx)]
      refine ih _ _ (by omega) (by omega) ?_
      rw [stepK_of (by omega), if_neg (by omega)]
      exact h
theorem ofD_of {L M : List Kn} {a : Int} (h : ofK L a = ofK M a) : ofD L a = ofD M a := by unfold ofD; rw [h]
theorem and_u32 (a : Nat) (ha : a < 4294967296) : bits .and .u32 (a : Int) 3 = ((a % 4 : Nat) : Int) := by
  rw [← and3]
  exact (bits_nat .u32 32 (by decide) (fun n h0 h1 => by rw [IntKind.wrap_u32]; omega) a 3 (by omega) (by decide)).1
theorem Try.info3x : (Try.prog.info? 3).map (fun i => (i.zero, i.size, i.bytes)) = some (some (.int .i64 0), 1, 8) := by kernel_rfl
set_option maxHeartbeats 8000000 in
set_option maxRecDepth 100000 in
theorem pickOthers_walk {W : World} {a : Option Addr} {n c : Nat} {xs : List Int} (hR : Rd intE W a n c xs) (A : Nat) (hA : A < 4294967296) (now : Int) : Calls Try.prog 6 #[.slice a n c, .int .u32 A, .int .i64 now] W fun e w' => e = .returned (.bool true) ∧ Below W.heap.size W w' := by
  have hR' := Lib.hid hR
  have hl := hR.len
  have hcap := hR.cap
  have hmax := hR.most
  have hnM : (n : Int) ≤ 9223372036854775807 := by
    simp only [maxLen] at hmax
    omega
  clear hR hmax hcap
  have hand := and_u32 A hA
  go_enter Try.func6, Try.ntmps6
  go_wp2_with fail
  refine (awake9 W).mono ?_
  rintro e w1 ⟨rfl, hb1⟩
  have hb1' := Lib.hid hb1
  clear hb1
  by_cases h1 : (60 : Int) < n
  · go_wp2_with fail
    go_ret
    exact ⟨rfl, hb1'.out⟩
  by_cases h2 : now < 0
  · go_wp2_with fail
    go_ret
    exact ⟨rfl, hb1'.out⟩
  by_cases h3 : 1000000 < now
  · go_wp2_with fail
    go_ret
    exact ⟨rfl, hb1'.out⟩
  go_wp2_with fail
  refine (told10 (room := 100) (by decide) (by decide) (by omega) (by omega) (hR'.out.ext hb1'.out) (by omega)).mono ?_
  rintro e w3 ⟨rfl, hP3⟩
  have hP3' := Lib.hid hP3
  have hto := Lib.hid (told_others now xs (A % 4) (by omega))
  have hlen := Lib.hid (toldK_len 100 now xs)
  have hok := Lib.hid (toldK_ok 100 now xs)
  clear hP3
  obtain ⟨r, hr⟩ : ∃ r, Hid (A % 4 = r) := ⟨_, Lib.hid rfl⟩
  rw [hr.out] at hand hto
  have hr4 : r < 4 := by have := hr.out; omega
  generalize toldK 100 now xs = L1 at *
  go_wp2_with fail
  have hRw := Lib.hid (hR'.out.ext (hb1'.out.trans (hP3'.out.below.mono hb1'.out.size)))
  go_loopw [10, 11] (fun v i wr => ∃ k : Nat, k ≤ n ∧ i = .int .i64 k ∧ Below w3.heap.size w3 wr ∧ Hid (Own intE wr w3.heap.size v ((xs.take k).filter fun x => decide (pn x % 4 = r)))) (fun _ i _ => n - (intOf i).toNat)
  case atStart => exact ⟨0, Nat.zero_le _, rfl, Below.refl _ _, Lib.hid (Own.nil _ _ _)⟩
  case round =>
    obtain ⟨k, hk, rfl, hb, hO⟩ := hrel
    by_cases hlt : k < n
    · have hkI : (k : Int) < n := by omega
      obtain ⟨b, o, rfl, hbs, hc⟩ := rd_int (hRw.out.ext hb) (by omega)
      have hck := hc k (by omega)
      have hf : (xs.take (k + 1)).filter (fun x => decide (pn x % 4 = r)) = (xs.take k).filter (fun x => decide (pn x % 4 = r)) ++ (if pn (xs[k]'(by omega)) % 4 = r then [xs[k]'(by omega)] else []) := by
        rw [List.take_succ_eq_append_getElem (by omega), List.filter_append]
        by_cases h : pn (xs[k]'(by omega)) % 4 = r <;> simp [h]
      have hf' := Lib.hid hf
      have hb' := Lib.hid hb
      clear hc hf hb
      generalize xs[k]'(by omega) = x at *
      obtain ⟨va, vc, hvE⟩ := hO.out.shape
      have hln : Hid (((xs.take k).filter fun x => decide (pn x % 4 = r)).length ≤ 60) := Lib.hid (by
        have := List.length_filter_le (fun x => decide (pn x % 4 = r)) (xs.take k)
        rw [List.length_take] at this
        omega)
      generalize (xs.take k).filter (fun x => decide (pn x % 4 = r)) = F at *
      go_wp2_with fail
      refine (pick22 x 4096 (by decide) (by decide) wr).mono ?_
      rintro e w4 ⟨rfl, rfl⟩
      rw [pn_eq]
      have hx := pn_lt x
      generalize pn x = y at *
      have f1 : bits .and .i64 (y : Int) 3 = ((y % 4 : Nat) : Int) := by rw [← and3]; exact and_i64 y 3 (by omega) (by decide)
      have hy0 : (0 : Int) ≤ y := by omega
      obtain ⟨s, hs⟩ : ∃ s, Hid (y % 4 = s) := ⟨_, Lib.hid rfl⟩
      rw [hs.out] at f1 hf'
      have hs4 : s < 4 := by have := hs.out; omega
      by_cases hsr : s = r
      · subst hsr
        rw [if_pos rfl] at hf'
        subst hvE
        obtain ⟨i0, hi, hz0, hz1, hz2⟩ := info_parts Try.info3x
        have hO2 := hO.out.ext (al_below wr (.cells #[.int .i64 x] 3))
        have hsrc : Src Try.prog intE.k 22 (.slice (some ⟨wr.heap.size, 0, none⟩) 1 1) [x].length (rowOf intE [x]) (wr.alloc (.cells #[.int .i64 x] 3)) := src_lit (E := intE) (e' := 3) Try.underlying22 _ [x] 1 rfl rfl
        obtain ⟨v', w5, hrun, ho, hg, -⟩ := run_append_Own (P := Try.prog) intE _ w3.heap.size 22 22 22 i0 _ 8 Try.underlying22 hi hz0 hz1 hz2 rfl _ _ hO2 _ [x] hsrc (by have := hln.out; simp [maxLen]; omega) (by have := hln.out; simp; omega) (by rw [size_al]; have := hb'.out.size; omega)
        have hb5 := Lib.hid (own_below (hb'.out.alloc hb'.out.size (.cells #[.int .i64 x] 3)) hg hO2 (by rw [size_al]; have := hb'.out.size; omega) (Nat.le_refl _))
        have hO5 := Lib.hid ho
        rw [← hf'.out] at hO5
        clear ho hg hsrc hO2
        go_wp2_with (at_builtin; refine app_run rfl (.tmp 49) (.tmp 54) 22 22 rfl rfl rfl hrun ?_)
        go_roundw
        case rel => exact ⟨k + 1, by omega, by go_num, hb5.out, hO5⟩
        case measure => simp [intOf]; omega
      · rw [if_neg hsr, List.append_nil] at hf'
        have hsb : ((s : Int) == (r : Int)) = false := by rw [beq_eq_false_iff_ne]; omega
        subst hvE
        go_wp2_with fail
        go_roundw
        case rel => exact ⟨k + 1, by omega, by go_num, hb'.out, by rw [hf'.out]; exact hO⟩
        case measure => simp [intOf]; omega
    · have hk' : k = n := by omega
      subst hk'
      rw [List.take_of_length_le (by omega)] at hO
      obtain ⟨va, vc, rfl, hRF⟩ := hO.out.rd
      have hFl : (xs.filter fun x => decide (pn x % 4 = r)).length ≤ 60 := Nat.le_trans (List.length_filter_le _ _) (by omega)
      have hRF' := Lib.hid hRF
      have hb' := Lib.hid hb
      clear hRF hb hO
      generalize xs.filter (fun x => decide (pn x % 4 = r)) = F at *
      go_wp2_with fail
      refine (told10 (room := 100) (by decide) (by decide) (by omega) (by omega) hRF'.out hFl).mono ?_
      rintro e w5 ⟨rfl, hP5⟩
      have hPp := Lib.hid ((hP3'.out.ext hb'.out).ext hP5.below)
      have hlen2 := Lib.hid (toldK_len 100 now F)
      have hok2 := Lib.hid (toldK_ok 100 now F)
      have hP5' := Lib.hid hP5
      clear hP5
      generalize toldK 100 now F = L2 at *
      have hkb1 : Hid (∀ k ∈ L1, KB k) := Lib.hid (fun k hk => (hok.out k hk).kb)
      have hkb2 : Hid (∀ k ∈ L2, KB k) := Lib.hid (fun k hk => (hok2.out k hk).kb)
      have hl1 : Hid (L1.length ≤ 100000) := Lib.hid (by have := hlen.out; omega)
      have hl2 : Hid (L2.length ≤ 100000) := Lib.hid (by have := hlen2.out; omega)
      have hW : Hid (waitK L2 r = waitK L1 r) := Lib.hid (by unfold waitK; rw [ofD_of hto.out])
      go_wp2_with fail
      refine (knownU hPp.out (by decide) hl1.out).mono ?_
      rintro e w6 ⟨⟨a6, c6, rfl, hR6⟩, hb6, hP6⟩
      have hR6' := Lib.hid hR6
      have hP6' := Lib.hid hP6
      have hQ6 := Lib.hid (hP5'.out.ext hb6)
      clear hR6 hP6 hb6 hPp hP5'
      go_wp2_with fail
      refine (lof13 hR6'.out (by have := hl1.out; omega) r).mono ?_
      rintro e w7 ⟨rfl, hb7⟩
      have hP7' := Lib.hid (hP6'.out.ext hb7)
      have hQ7 := Lib.hid (hQ6.out.ext hb7)
      clear hb7 hP6' hQ6
      have hx : Hid (ofD L2 r = ofD L1 r) := Lib.hid (ofD_of hto.out).symm
      generalize ofD L1 r = x at *
      obtain ⟨xa, xt, xf, xg⟩ := x
      unfold knV
      dsimp only at *
      go_wp2_with fail
      refine (knownU hQ7.out (by decide) hl2.out).mono ?_
      rintro e w8 ⟨⟨a8, c8, rfl, hR8⟩, hb8, hQ8⟩
      have hR8' := Lib.hid hR8
      have hQ8' := Lib.hid hQ8
      have hP8' := Lib.hid (hP7'.out.ext hb8)
      clear hR8 hQ8 hb8 hP7' hQ7
      go_wp2_with fail
      refine (lof13 hR8'.out (by have := hl2.out; omega) r).mono ?_
      rintro e w9 ⟨rfl, hb9⟩
      have hP9' := Lib.hid (hP8'.out.ext hb9)
      have hQ9 := Lib.hid (hQ8'.out.ext hb9)
      rw [hx.out]
      unfold knV
      dsimp only
      clear hb9 hP8' hQ8' hx
      go_wp2_with fail
      refine (waitU hP9'.out (by decide) hl1.out hkb1.out r).mono ?_
      rintro e w10 ⟨rfl, hb10, hP10⟩
      have hP10' := Lib.hid hP10
      have hQ10 := Lib.hid (hQ9.out.ext hb10)
      clear hb10 hP10 hP9' hQ9
      go_wp2_with fail
      refine (waitU hQ10.out (by decide) hl2.out hkb2.out r).mono ?_
      rintro e w11 ⟨rfl, hb11, hQ11⟩
      have hP11 := Lib.hid (hP10'.out.ext hb11)
      rw [hW.out]
      clear hb11 hQ11 hP10' hQ10
      generalize waitK L1 r = z at *
      go_wp2_with fail
      go_ret
      exact ⟨rfl, hb1'.out.trans (hP11.out.below.mono hb1'.out.size)⟩
theorem pickOthers_law {H : Type} {enc : TypeId × Value → H} {W : World} {ts : List TypeId} {ds : List (DataW H)} (v : Value) (d : DataW H) (p : List MemPlace) (h : DataW.Trod enc Try.prog W 0 (fun _ => true) true 22 v d p) {rr : Reach} {b0 : Nat} (hv : Value.okWide Try.prog W rr b0 22 v)
    (_ : (DataW.weightsEach Try.prog ts ds).all (· ≤ reachBytes) = true) (A : Int) (hA : (Lit.int .u32 A).wf = true) (now : Int) (_ : (Lit.int .i64 now).wf = true) (_ : World) :
    Calls Try.prog 6 #[v, .int .u32 A, .int .i64 now] W fun e w' => e = .returned (.bool true) ∧ Below W.heap.size W w' := by
  obtain ⟨a, n, c, l, rfl, hR, _⟩ := open_nums Try.underlying22 hv h
  have hr : 0 ≤ A ∧ A < 4294967296 := by
    simp [Lit.wf, IntKind.min, IntKind.max, IntKind.signed, IntKind.bits] at hA
    omega
  have := pickOthers_walk hR A.toNat (by omega) now
  rwa [Int.toNat_of_nonneg hr.1] at this
end Go.Proofs.Ytjkeijjfjbcaiaa
