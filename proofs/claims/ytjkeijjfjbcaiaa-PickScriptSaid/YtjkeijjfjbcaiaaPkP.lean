/- The document's picker: its state, New 15, of 39, trip 40, from 41, moment 42. -/
import Derived.Test.YtjkeijjfjbcaiaaPkM
namespace Go.Proofs.Ytjkeijjfjbcaiaa
open Go.RowKit
/-- the document's picker: block p holds the room and a slice that reads as L -/
structure Rk (w : World) (p : Nat) (room : Int) (a : Option Addr) (c : Nat) (L : List Kn) : Prop where
  blk : Blk w p 49 (0, 0) [.int .i64 room, .slice a L.length c]
  rd : Rd knE w a L.length c L
  ne : ∀ b o s, a = some ⟨b, o, s⟩ → b ≠ p
theorem Rk.ext {w w' : World} {p : Nat} {room : Int} {a : Option Addr} {c : Nat} {L : List Kn} (h : Rk w p room a c L) (hb : Below w.heap.size w w') : Rk w' p room a c L :=
  ⟨h.blk.below hb h.blk.lt, h.rd.ext hb, h.ne⟩
theorem Rk.tch {w w' : World} {p : Nat} {room : Int} {a : Option Addr} {c : Nat} {L : List Kn} {S : Nat → Prop} (h : Rk w p room a c L) (t : Tch S w w') (h1 : ¬ S p) (h2 : ∀ b o s, a = some ⟨b, o, s⟩ → ¬ S b) : Rk w' p room a c L :=
  ⟨t.blk h.blk h1, t.rd h.rd h2, h.ne⟩
theorem new15 (room : Int) (h1 : 1 ≤ room) (h2 : room ≤ 4096) (w : World) : Calls Try.prog 15 #[.int .i64 room] w fun e w' => e = .returned (.tuple #[.pointer (some ⟨w.heap.size, 0, none⟩), .int .i64 0]) ∧ Rk w' w.heap.size room none 0 [] ∧ Below w.heap.size w w' := by
  have h3 : ¬ room < 1 := by omega
  have h4 : ¬ 4096 < room := by omega
  go_enter Try.func15, Try.ntmps15
  go_wp2_with fail
  go_ret2
  exact ⟨rfl, ⟨Blk.new w 49 (0, 0) _, Rd.nil _ _, fun b o s h => by cases h⟩, (Below.refl _ _).alloc (Nat.le_refl _) _⟩
theorem new15_no (room : Int) (h1 : room < 1 ∨ 4096 < room) (w : World) : Calls Try.prog 15 #[.int .i64 room] w fun e w' => e = .returned (.tuple #[.pointer none, .int .i64 2]) ∧ w = w' := by
  by_cases h3 : room < 1
  · go_enter Try.func15, Try.ntmps15
    go_wp2_with fail
    go_ret2
    exact ⟨rfl, rfl⟩
  · have h4 : 4096 < room := by omega
    go_enter Try.func15, Try.ntmps15
    go_wp2_with fail
    go_ret2
    exact ⟨rfl, rfl⟩
theorem moment42 (now : Int) (w : World) : Calls Try.prog 42 #[.int .i64 now] w fun e w' => e = .returned (.bool (momB now)) ∧ w = w' := by
  by_cases h0 : 0 ≤ now
  · by_cases h1 : now ≤ 1099511627776
    · have hm : Hid (momB now = true) := Lib.hid (by unfold momB; rw [decide_eq_true h0, decide_eq_true h1]; rfl)
      go_enter Try.func42, Try.ntmps42
      go_wp2_with fail
      go_ret
      rw [hm.out]
      exact ⟨rfl, rfl⟩
    · have hm : Hid (momB now = false) := Lib.hid (by unfold momB; rw [decide_eq_true h0, decide_eq_false h1]; rfl)
      go_enter Try.func42, Try.ntmps42
      go_wp2_with fail
      go_ret
      rw [hm.out]
      exact ⟨rfl, rfl⟩
  · have hm : Hid (momB now = false) := Lib.hid (by unfold momB; rw [decide_eq_false h0]; rfl)
    go_enter Try.func42, Try.ntmps42
    go_wp2_with fail
    go_ret
    rw [hm.out]
    exact ⟨rfl, rfl⟩
set_option maxHeartbeats 4000000 in
set_option maxRecDepth 100000 in
theorem of39 {w : World} {p : Nat} {room : Int} {a : Option Addr} {c : Nat} {L : List Kn} (h : Rk w p room a c L) (hl : L.length ≤ 100000) (y : Int) :
    Calls Try.prog 39 #[.pointer (some ⟨p, 0, none⟩), .int .u32 y] w fun e w' => e = .returned (.tuple #[knV (ofD L y), .bool (ofK L y).isSome]) ∧ Below w.heap.size w w' := by
  have hp := h.blk.lt
  have hN : Hid (Blk (w.alloc (.cells #[.int .u32 0, .int .i64 0, .int .i64 0, .int .i64 0] 34)) w.heap.size 34 (0, 0) [.int .u32 0, .int .i64 0, .int .i64 0, .int .i64 0]) := Lib.hid (Blk.new w 34 (0, 0) _)
  have hb0 := Lib.hid (al_below w (.cells #[.int .u32 0, .int .i64 0, .int .i64 0, .int .i64 0] 34))
  have h0 := Lib.hid (h.ext hb0.out)
  have hbs : Hid (∀ b o, a = some ⟨b, o, none⟩ → 0 < L.length → b < w.heap.size) := Lib.hid (fun b o e h0 => by
    obtain ⟨b1, o1, e1, hb, _⟩ := rd_kn h.rd h0
    rw [e] at e1
    cases e1
    exact hb)
  have hl' := Lib.hid hl
  have hLM : (L.length : Int) ≤ 100000 := by omega
  clear h hl
  go_enter Try.func39, Try.ntmps39
  go_wp2_with fail
  have hq1 : (w.alloc (.cells #[.int .u32 0, .int .i64 0, .int .i64 0, .int .i64 0] 34)).cell? ⟨p, 1, none⟩ = some (.slice a L.length c) := h0.out.blk.cell 1
  generalize w.alloc (.cells #[.int .u32 0, .int .i64 0, .int .i64 0, .int .i64 0] 34) = w0 at *
  go_loopw [6] (fun i wr => ∃ k : Nat, k ≤ L.length ∧ i = .int .i64 k ∧ w0 = wr ∧ Hid (∀ j, (hj : j < L.length) → j < k → L[j].a ≠ y)) (fun i _ => L.length - (intOf i).toNat)
  case atStart => exact ⟨0, Nat.zero_le _, rfl, rfl, Lib.hid (fun j _ hj => absurd hj (Nat.not_lt_zero _))⟩
  case round =>
    obtain ⟨k, hk, rfl, rfl, hno⟩ := hrel
    by_cases hlt : k < L.length
    · have hkI : (k : Int) < L.length := by omega
      obtain ⟨b, o, rfl, hb1, hc⟩ := rd_kn h0.out.rd (by omega)
      obtain ⟨hc0, hc1, hc2, hc3⟩ := hc k (by omega)
      have hne : b ≠ w.heap.size := by have := hbs.out b o rfl (by omega); omega
      clear hc
      obtain ⟨x, hx⟩ : ∃ x, Hid (L[k] = x) := ⟨_, Lib.hid rfl⟩
      rw [hx.out] at hc0 hc1 hc2 hc3
      by_cases hxy : x.a = y
      · have hid := idx_some k hlt (by rw [hx.out]; exact hxy) (fun j hj => hno.out j (by omega) hj)
        have e1 : Hid (ofD L y = x ∧ ofK L y = some x) := Lib.hid (by
          rcases hid with ⟨e, _⟩ | ⟨k', h', e, _, e2, _⟩
          · omega
          · have : k = k' := by omega
            subst this
            unfold ofD; rw [e2, hx.out]; exact ⟨rfl, rfl⟩)
        clear hid
        obtain ⟨xa, xt, xf, xg⟩ := x
        dsimp only at *
        go_wp2_with (refine store_whole rfl 34 (.tmp 4) (.tmp 32) rfl rfl rfl hN.out (by rfl) (by kernel_rfl) (by kernel_rfl) ?_; intro w3 hB3 hg3 hz3; have hB3' := Lib.hid hB3; have hg3' := Lib.hid hg3; clear hB3 hg3)
        refine bodyPost_ret (results_ct rfl _ rfl hB3'.out Try.underlying34 rfl (by kernel_rfl)) rfl ?_
        rw [e1.out.1, e1.out.2]
        subst hxy
        exact ⟨rfl, hb0.out.grown hg3'.out hb0.out.size (fun k hk => by cases hk; exact Nat.le_refl _)⟩
      · have hno2 : Hid (∀ j, (hj : j < L.length) → j < k + 1 → L[j].a ≠ y) := Lib.hid (fun j hj hjk => by
          by_cases hjk' : j < k
          · exact hno.out j hj hjk'
          · have : j = k := by omega
            subst this
            rw [hx.out]; exact hxy)
        have hxb : (x.a == y) = false := by simp [hxy]
        go_wp2_with fail
        go_roundw
        case rel => exact ⟨k + 1, by omega, by go_num, trivial, hno2⟩
        case measure => simp [intOf]; omega
    · have hk' : k = L.length := by omega
      subst hk'
      have e1 : Hid (ofD L y = kn0 y ∧ ofK L y = none) := Lib.hid (by
        rcases idx_none (L := L) (y := y) (fun j hj => hno.out j hj (by omega)) with ⟨_, e⟩ | ⟨k', _, e, _⟩
        · unfold ofD; rw [e]; exact ⟨rfl, rfl⟩
        · omega)
      go_wp2_with (refine store_whole rfl 34 (.tmp 4) (.tmp 34) rfl rfl rfl hN.out (by rfl) (by kernel_rfl) (by kernel_rfl) ?_; intro w3 hB3 hg3 hz3; have hB3' := Lib.hid hB3; have hg3' := Lib.hid hg3; clear hB3 hg3)
      refine bodyPost_ret (results_ct rfl _ rfl hB3'.out Try.underlying34 rfl (by kernel_rfl)) rfl ?_
      rw [e1.out.1, e1.out.2]
      exact ⟨rfl, hb0.out.grown hg3'.out hb0.out.size (fun k hk => by cases hk; exact Nat.le_refl _)⟩
theorem trip40 {w : World} {p : Nat} {room : Int} {a : Option Addr} {c : Nat} {L : List Kn} (h : Rk w p room a c L) (hl : L.length ≤ 100000) (y : Int) :
    Calls Try.prog 40 #[.pointer (some ⟨p, 0, none⟩), .int .u32 y] w fun e w' => e = .returned (.int .i64 (ofD L y).t) ∧ Below w.heap.size w w' := by
  have h' := Lib.hid h
  have hl' := Lib.hid hl
  clear h hl
  go_enter Try.func40, Try.ntmps40
  go_wp2_with fail
  refine (of39 h'.out hl'.out y).mono ?_
  rintro e w1 ⟨rfl, hb1⟩
  obtain ⟨x, hx⟩ : ∃ x, Hid (ofD L y = x) := ⟨_, Lib.hid rfl⟩
  rw [hx.out]
  generalize (ofK L y).isSome = was
  obtain ⟨xa, xt, xf, xg⟩ := x
  unfold knV
  dsimp only
  go_wp2_with fail
  go_ret
  rw [hx.out]
  exact ⟨rfl, hb1.alloc hb1.size _⟩
theorem from41 {w : World} {p : Nat} {room : Int} {a : Option Addr} {c : Nat} {L : List Kn} (h : Rk w p room a c L) (hl : L.length ≤ 100000) (y : Int) :
    Calls Try.prog 41 #[.pointer (some ⟨p, 0, none⟩), .int .u32 y] w fun e w' => e = .returned (.int .i64 (ofD L y).g) ∧ Below w.heap.size w w' := by
  have h' := Lib.hid h
  have hl' := Lib.hid hl
  clear h hl
  go_enter Try.func41, Try.ntmps41
  go_wp2_with fail
  refine (of39 h'.out hl'.out y).mono ?_
  rintro e w1 ⟨rfl, hb1⟩
  obtain ⟨x, hx⟩ : ∃ x, Hid (ofD L y = x) := ⟨_, Lib.hid rfl⟩
  rw [hx.out]
  generalize (ofK L y).isSome = was
  obtain ⟨xa, xt, xf, xg⟩ := x
  unfold knV
  dsimp only
  go_wp2_with fail
  go_ret
  rw [hx.out]
  exact ⟨rfl, hb1.alloc hb1.size _⟩
theorem wait33 {w : World} {p : Nat} {room : Int} {a : Option Addr} {c : Nat} {L : List Kn} (h : Rk w p room a c L) (hl : L.length ≤ 100000) (hL : ∀ k ∈ L, KB k) (y : Int) :
    Calls Try.prog 33 #[.pointer (some ⟨p, 0, none⟩), .int .u32 y] w fun e w' => e = .returned (.int .i64 (waitK L y)) ∧ Below w.heap.size w w' := by
  have h' := Lib.hid h
  have hl' := Lib.hid hl
  obtain ⟨t0, t1, -, -⟩ := ofD_kb hL y
  clear h hl hL
  go_enter Try.func33, Try.ntmps33
  go_wp2_with fail
  refine (trip40 h'.out hl'.out y).mono ?_
  rintro e w1 ⟨rfl, hb1⟩
  have hW : Hid (waitK L y = mn (mx ((2 * (ofD L y).t + 999) / 1000) 1) 8) := Lib.hid rfl
  generalize (ofD L y).t = t at *
  go_wp2_with fail
  all_goals
    go_ret
    refine ⟨?_, hb1⟩
    have e := hW.out
    unfold mn mx at e
    refine ret_int ?_
    rw [e]
    (repeat' split) <;> omega
end Go.Proofs.Ytjkeijjfjbcaiaa
