/- The law's own of 13. -/
import Derived.Test.YtjkeijjfjbcaiaaPkK
namespace Go.Proofs.Ytjkeijjfjbcaiaa
open Go.RowKit
set_option maxHeartbeats 4000000 in
set_option maxRecDepth 100000 in
theorem lof13 {w : World} {a : Option Addr} {n c : Nat} {L : List Kn} (hR : Rd knE w a n c L) (hn : n ≤ 1000000) (y : Int) :
    Calls Try.prog 13 #[.slice a n c, .int .u32 y] w fun e w' => e = .returned (knV (ofD L y)) ∧ Below w.heap.size w w' := by
  have hl := hR.len
  have hR' := Lib.hid hR
  have hN : Hid (Blk (w.alloc (.cells #[.int .u32 0, .int .i64 0, .int .i64 0, .int .i64 0] 34)) w.heap.size 34 (0, 0) [.int .u32 0, .int .i64 0, .int .i64 0, .int .i64 0]) := Lib.hid (Blk.new w 34 (0, 0) _)
  have hb0 := Lib.hid (al_below w (.cells #[.int .u32 0, .int .i64 0, .int .i64 0, .int .i64 0] 34))
  have hbs : Hid (∀ b o, a = some ⟨b, o, none⟩ → 0 < n → b < w.heap.size) := Lib.hid (fun b o e h0 => by
    obtain ⟨b1, o1, e1, hb, _⟩ := rd_kn hR h0
    rw [e] at e1
    cases e1
    exact hb)
  clear hR
  go_enter Try.func13, Try.ntmps13
  go_wp2_with fail
  generalize w.alloc (.cells #[.int .u32 0, .int .i64 0, .int .i64 0, .int .i64 0] 34) = w0 at *
  go_loopw [5] (fun i wr => ∃ k : Nat, k ≤ n ∧ i = .int .i64 k ∧ w0 = wr ∧ Hid (∀ j, (hj : j < L.length) → j < k → L[j].a ≠ y)) (fun i _ => n - (intOf i).toNat)
  case atStart => exact ⟨0, Nat.zero_le _, rfl, rfl, Lib.hid (fun j _ hj => absurd hj (Nat.not_lt_zero _))⟩
  case round =>
    obtain ⟨k, hk, rfl, rfl, hno⟩ := hrel
    by_cases hlt : k < n
    · have hkI : (k : Int) < n := by omega
      obtain ⟨b, o, rfl, hb1, hc⟩ := rd_kn (hR'.out.ext hb0.out) (by omega)
      obtain ⟨hc0, hc1, hc2, hc3⟩ := hc k (by omega)
      have hne : b ≠ w.heap.size := by have := hbs.out b o rfl (by omega); omega
      clear hc
      have hks : k < L.length := by omega
      obtain ⟨x, hx⟩ : ∃ x, Hid (L[k] = x) := ⟨_, Lib.hid rfl⟩
      rw [hx.out] at hc0 hc1 hc2 hc3
      by_cases hxy : x.a = y
      · have hid := idx_some k hks (by rw [hx.out]; exact hxy) (fun j hj => hno.out j (by omega) hj)
        have e1 : Hid (ofD L y = x) := Lib.hid (by
          rcases hid with ⟨e, _⟩ | ⟨k', h', e, _, e2, _⟩
          · omega
          · have : k = k' := by omega
            subst this
            unfold ofD; rw [e2, hx.out]; rfl)
        clear hid
        obtain ⟨xa, xt, xf, xg⟩ := x
        dsimp only at *
        go_wp2_with (refine store_whole rfl 34 (.tmp 4) (.tmp 22) rfl rfl rfl hN.out (by rfl) (by kernel_rfl) (by kernel_rfl) ?_; intro w3 hB3 hg3 hz3; have hB3' := Lib.hid hB3; have hg3' := Lib.hid hg3; clear hB3 hg3)
        refine bodyPost_ret (results_c rfl _ rfl hB3'.out Try.underlying34 rfl (by kernel_rfl)) rfl ?_
        rw [e1.out]
        subst hxy
        exact ⟨rfl, hb0.out.grown hg3'.out hb0.out.size (fun k hk => by cases hk; exact Nat.le_refl _)⟩
      · have hno2 : Hid (∀ j, (hj : j < L.length) → j < k + 1 → L[j].a ≠ y) := Lib.hid (fun j hj hjk => by
          by_cases hjk' : j < k
          · exact hno.out j hj hjk'
          · have : j = k := by omega
            subst this
            rw [hx.out]; exact hxy)
        have hxb : (x.a == y) = false := by simp [hxy]
        go_wp2_with fail
        go_roundw
        case rel => exact ⟨k + 1, by omega, by go_num, trivial, hno2⟩
        case measure => simp [intOf]; omega
    · have hk' : k = n := by omega
      subst hk'
      have e1 : Hid (ofD L y = kn0 y) := Lib.hid (by
        rcases idx_none (L := L) (y := y) (fun j hj => hno.out j hj (by omega)) with ⟨_, e⟩ | ⟨k', _, e, _⟩
        · unfold ofD; rw [e]; rfl
        · omega)
      go_wp2_with (refine store_whole rfl 34 (.tmp 4) (.tmp 24) rfl rfl rfl hN.out (by rfl) (by kernel_rfl) (by kernel_rfl) ?_; intro w3 hB3 hg3 hz3; have hB3' := Lib.hid hB3; have hg3' := Lib.hid hg3; clear hB3 hg3)
      refine bodyPost_ret (results_c rfl _ rfl hB3'.out Try.underlying34 rfl (by kernel_rfl)) rfl ?_
      rw [e1.out]
      exact ⟨rfl, hb0.out.grown hg3'.out hb0.out.size (fun k hk => by cases hk; exact Nat.le_refl _)⟩
end Go.Proofs.Ytjkeijjfjbcaiaa
