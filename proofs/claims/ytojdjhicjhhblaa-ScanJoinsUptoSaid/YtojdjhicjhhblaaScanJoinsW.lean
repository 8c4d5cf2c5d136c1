/- ScanJoins. -/
import Derived.Test.YtojdjhicjhhblaaTlE
namespace Go.Proofs.Ytojdjhicjhhblaa
open Go Go.ChangeShapes Go.WideShapes Go.RowKit Go.Deep
set_option maxHeartbeats 8000000 in
set_option maxRecDepth 100000 in
theorem joins_walk {w : World} {a : Option Addr} {n c : Nat} {L : List Ent} (h : RdEn w a n c L) (hz : esum L ≤ 1048576) :
    Calls Try.prog 3 #[.slice a n c] w fun e w' => e = .returned (.bool true) ∧ Below w.heap.size w w' := by
  have hl := h.len
  have hte := tlen_esum L
  have hnI : (n : Int) ≤ 1048576 := by omega
  have hH := Lib.hid h
  have hL1 := Lib.hid hl
  have hZ := Lib.hid hz
  have hT := Lib.hid hte
  clear h hl hz hte
  go_enter Try.func3, Try.ntmps3
  go_wp2_with fail
  go_loopw [3, 4] (fun nv iv wr => ∃ i : Nat, nv = .int .i64 (tlen (L.take i) : Nat) ∧ iv = .int .i64 i ∧ i ≤ n ∧ Hid (w = wr) ∧ Hid (∀ e ∈ L.take i, e.words.length ≤ 70)) (fun _ iv _ => n - (intOf iv).toNat)
  case atStart => exact ⟨0, rfl, rfl, Nat.zero_le _, Lib.hid rfl, Lib.hid (fun e he => by simp at he)⟩
  case round =>
    obtain ⟨i, rfl, rfl, hin, hw, hall⟩ := hrel
    have hw2 := hw.out
    subst hw2
    clear hw
    by_cases hlt : i < n
    · have hltI : (i : Int) < n := by omega
      obtain ⟨en, hen, hmem⟩ := at_ex (L := L) (k := i) (by have := hL1.out; omega)
      have hE := Lib.hid hen
      have hTk : Hid (tlen (L.take (i + 1)) = tlen (L.take i) + tw en.words) := Lib.hid (by rw [at_take hen, tlen_app]; simp [tlen])
      have hTb : tlen (L.take (i + 1)) ≤ 1048576 := by have h1 := tlen_take L (i + 1); have h2 := hT.out; have h3 := hZ.out; omega
      have hwb : en.words.length ≤ 1048576 := by have h1 := wsum_mem hmem; have h2 := tw_wsum en.words; have h3 := hZ.out; omega
      have hwlI : (en.words.length : Int) ≤ 1048576 := by omega
      have hall2 : Hid (en.words.length ≤ 70 → ∀ e ∈ L.take (i + 1), e.words.length ≤ 70) := Lib.hid (fun h e he => by
        rw [at_take hen, List.mem_append, List.mem_singleton] at he
        rcases he with he | rfl
        · exact hall.out e he
        · exact h)
      obtain ⟨ab, ao, wa, wn, wc, rfl, -, a0, a1, a2, hwd⟩ := hH.out.at_ hlt en hen
      have hwl := hwd.len
      obtain rfl : wn = en.words.length := hwl.symm
      have hw0 := Lib.hid hwd
      obtain ⟨T0, hT0⟩ : ∃ T0, tlen (L.take i) = T0 := ⟨_, rfl⟩
      rw [hT0] at hTk ⊢
      have hTb2 : T0 + tw en.words ≤ 1048576 := by rw [← hTk.out]; exact hTb
      clear hen hmem hwl hwd a0 a1 hT0 hTb hall
      go_wp2_with fail
      go_loopw [3, 5] (fun nv kv wr => ∃ k : Nat, nv = .int .i64 (T0 + tw (en.words.take k) : Nat) ∧ kv = .int .i64 k ∧ k ≤ en.words.length ∧ Hid (w = wr)) (fun _ kv _ => en.words.length - (intOf kv).toNat)
      case atStart => exact ⟨0, by simp [tw], rfl, Nat.zero_le _, Lib.hid rfl⟩
      case round =>
        obtain ⟨k, rfl, rfl, hkn, hw⟩ := hrel
        have hw2 := hw.out
        subst hw2
        clear hw
        by_cases hk : k < en.words.length
        · have hkI : (k : Int) < en.words.length := by omega
          obtain ⟨x, hx, hxm⟩ := at_ex hk
          obtain ⟨wb, wo, rfl, -, x0, x1⟩ := rd_tr hw0.out hk x hx
          have hS : Hid (tw (en.words.take (k + 1)) = tw (en.words.take k) + x.1.length) := Lib.hid (by rw [at_take hx, tw_app]; simp [tw])
          have hb1 : T0 + tw (en.words.take k) + x.1.length ≤ 1048576 := by have h1 := tw_take en.words (k + 1); rw [hS.out] at h1; omega
          obtain ⟨T1, hT1⟩ : ∃ T1, T0 + tw (en.words.take k) = T1 := ⟨_, rfl⟩
          have hS2 : Hid (T0 + tw (en.words.take (k + 1)) = T1 + x.1.length) := Lib.hid (by rw [hS.out, ← hT1]; omega)
          rw [hT1] at hb1 ⊢
          obtain ⟨xt, xq⟩ := x
          dsimp only at x0 x1 hb1 hS2
          have hbI : (T1 : Int) + xt.length ≤ 1048576 := by omega
          have hbJ : (T1 : Int) ≤ 1048576 := by omega
          clear hx hxm hS hT1
          go_wp2_with fail
          refine ⟨⟨k + 1, by rw [hS2.out]; push_cast; rfl, by push_cast; rfl, by omega, (by first | exact Lib.hid rfl | exact Lib.hid trivial)⟩, by simp only [intOf]; omega⟩
        · obtain rfl : k = en.words.length := by omega
          have hfin : Hid (T0 + tw (en.words.take en.words.length) = tlen (L.take (i + 1))) := Lib.hid (by rw [List.take_length, hTk.out])
          clear hk
          rw [hfin.out]
          by_cases h70 : 70 < en.words.length
          · have hI : (70 : Int) < en.words.length := by omega
            clear h70
            go_wp2_with fail
            go_ret
            exact ⟨rfl, Below.refl _ _⟩
          · have hI : ¬ (70 : Int) < en.words.length := by omega
            have hall3 := Lib.hid (hall2.out (by omega))
            clear h70 hall2
            go_wp2_with fail
            refine ⟨⟨i + 1, rfl, by push_cast; rfl, by omega, (by first | exact Lib.hid rfl | exact Lib.hid trivial), hall3⟩, by simp only [intOf]; omega⟩
    · obtain rfl : i = n := by omega
      have hall2 : Hid (∀ e ∈ L, e.words.length ≤ 70) := Lib.hid (by have h := hall.out; rw [List.take_of_length_le (by have := hL1.out; omega)] at h; exact h)
      have hTt : Hid (tlen (L.take i) = tlen L) := Lib.hid (by rw [List.take_of_length_le (by have := hL1.out; omega)])
      rw [hTt.out]
      clear hlt hall
      have hTb : (tlen L : Int) ≤ 1048576 := by have h2 := hT.out; have h3 := hZ.out; omega
      by_cases h40 : 40 < i
      · have hI : (40 : Int) < i := by omega
        clear h40
        go_wp2_with fail
        go_ret
        exact ⟨rfl, Below.refl _ _⟩
      have hI : ¬ (40 : Int) < i := by omega
      have h40' := Lib.hid h40
      clear h40
      by_cases h3k : 3000 < tlen L
      · have hJ : (3000 : Int) < tlen L := by omega
        clear h3k
        go_wp2_with fail
        go_ret
        exact ⟨rfl, Below.refl _ _⟩
      have hJ : ¬ (3000 : Int) < tlen L := by omega
      have hF : Hid (Fits L) := Lib.hid (fits_of (n := 40) (m := 70) (t := 3000) (by have := hL1.out; have := h40'.out; omega) hall2.out (by omega) (by decide) (by decide) (by decide) (by decide))
      have hws : Hid (∀ e ∈ L, e.words.length ≤ 3000) := Lib.hid (fun e he => by have := hall2.out e he; omega)
      have hn3 : i ≤ 3000 := by have := h40'.out; omega
      clear h3k
      go_wp2_with fail
      refine (copy_any hH.out hn3 hws.out).mono ?_
      rintro e w1 ⟨k1, oa, on, oc, rfl, O1⟩
      replace k1 := Lib.hid k1
      replace O1 := Lib.hid O1
      go_wp2_with fail
      refine (pjoin_any O1.out.rd hF.out).mono ?_
      rintro e w2 ⟨rfl, k2⟩
      have O2 := Lib.hid (O1.out.ext k2)
      have kk2 := Lib.hid (k1.out.trans (k2.mono k1.out.size))
      clear k2 O1 k1
      obtain ⟨JR, hJR⟩ : ∃ JR, joinR L = JR := ⟨_, rfl⟩
      rw [hJR]
      go_wp2_with fail
      refine (rjoin_any (hH.out.ext kk2.out) hF.out).mono ?_
      rintro e w3 ⟨rfl, k3⟩
      have O3 := Lib.hid (O2.out.ext k3)
      have kk3 := Lib.hid (kk2.out.trans (k3.mono kk2.out.size))
      clear k3 O2 kk2
      rw [hJR]
      clear hJR
      go_wp2_with fail
      refine (copy_any (hH.out.ext kk3.out) hn3 hws.out).mono ?_
      rintro e w4 ⟨k4, oa4, on4, oc4, rfl, O4⟩
      have O5 := Lib.hid (O3.out.ext k4)
      have kk4 := Lib.hid (kk3.out.trans (k4.mono kk3.out.size))
      replace O4 := Lib.hid O4
      clear k4 O3 kk3
      go_wp2_with fail
      refine (same_any O5.out.rd O4.out.rd).mono ?_
      rintro e w5 ⟨rfl, k5⟩
      have kk5 := Lib.hid (kk4.out.trans (k5.mono kk4.out.size))
      clear k5 O4 O5 kk4
      rw [sameE_refl]
      go_wp2_with fail
      go_ret
      exact ⟨rfl, kk5.out⟩
section
variable {H : Type} {enc : TypeId × Value → H}
theorem open_ents {w : World} {v : Value} {d : DataW H} {p : List MemPlace} {r : Reach} {b0 : Nat} (hv : Value.okWide Try.prog w r b0 22 v) (h : DataW.Trod enc Try.prog w 0 (fun _ => true) true 22 v d p) (hz : Sz Try.prog 22 d) :
    ∃ a n c L, v = .slice a n c ∧ RdEn w a n c L ∧ esum L + 1 ≤ Rows.uptoBulk d := by
  obtain ⟨a0, n0, c0, rfl⟩ := okWide_slice Try.underlying22 hv
  obtain ⟨fuel, hf⟩ := h
  exact in_ents (y := (d, p)) (by simpa only [Value.cells] using hf) hz
theorem scanJoins_law {W : World} {r : Reach} {b0 : Nat} {ts : List TypeId} {ds : List (DataW H)} (v0 : Value) (d0 : DataW H) (p0 : List MemPlace) (h0 : DataW.Trod enc Try.prog W 0 (fun _ => true) true 22 v0 d0 p0) (hv0 : Value.okWide Try.prog W r b0 22 v0)
    (_ : (DataW.weightsEach Try.prog ts ds).all (· ≤ reachBytes) = true) {x : Nat} (hb : Rows.uptoBulk d0 + x ≤ 1048576) (z0 : Sz Try.prog 22 d0) (_ : World) : Calls Try.prog 3 #[v0] W fun e w' => e = .returned (.bool true) ∧ Below W.heap.size W w' := by
  obtain ⟨a, n, c, L, rfl, hR, hs⟩ := open_ents hv0 h0 z0
  exact joins_walk hR (by omega)
end
end Go.Proofs.Ytojdjhicjhhblaa
