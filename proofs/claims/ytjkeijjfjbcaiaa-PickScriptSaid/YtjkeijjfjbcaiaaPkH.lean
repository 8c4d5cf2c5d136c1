/- The program's picker: Choose 11 with slices.MinFunc 24, the closure 25, cmp.Compare 27. -/
import Derived.Test.YtjkeijjfjbcaiaaPkG
import Derived.Test.YtjkeijjfjbcaiaaPkCho
namespace Go.Proofs.Ytjkeijjfjbcaiaa
open Go.RowKit
def u32E : Enc Int := ⟨28, 1, fun x => [.int .u32 x], 0, fun _ => rfl, fun x v hv => by simp at hv; subst hv; rfl, by decide⟩
theorem rd_u32 {w : World} {a : Option Addr} {n c : Nat} {l : List Int} (h : Rd u32E w a n c l) (h0 : 0 < n) : ∃ b o, a = some ⟨b, o, none⟩ ∧ b < w.heap.size ∧ ∀ j (hj : j < l.length), w.cell? ⟨b, o + j, none⟩ = some (.int .u32 l[j]) := by
  obtain ⟨b, o, h1, h3, h2⟩ := h.addr h0
  exact ⟨b, o, h1, h3, fun j hj => by have := h2 j hj 0 (by decide); simpa [u32E] using this⟩
def cmpI (a b : Int) : Int := if a < b then -1 else if b < a then 1 else 0
theorem nan38 (a : Int) (w : World) : Calls Try.prog 38 #[.int .i64 a] w fun e w' => e = .returned (.bool false) ∧ w = w' := by
  go_enter Try.func38, Try.ntmps38
  go_wp2_with fail
  go_ret
  exact ⟨rfl, rfl⟩
theorem cmp27 (a b : Int) (w : World) : Calls Try.prog 27 #[.int .i64 a, .int .i64 b] w fun e w' => e = .returned (.int .i64 (cmpI a b)) ∧ w = w' := by
  have hc : Hid (cmpI a b = if a < b then -1 else if b < a then 1 else 0) := Lib.hid rfl
  go_enter Try.func27, Try.ntmps27
  go_wp2_with fail
  refine (nan38 a w).mono ?_
  rintro e w1 ⟨rfl, rfl⟩
  go_wp2_with fail
  refine (nan38 b w).mono ?_
  rintro e w1 ⟨rfl, rfl⟩
  by_cases h1 : a < b
  · have hc' : Hid (cmpI a b = -1) := Lib.hid (by rw [hc.out, if_pos h1])
    clear hc
    go_wp2_with fail
    go_ret
    rw [hc'.out]
    exact ⟨rfl, rfl⟩
  · by_cases h2 : b < a
    · have hc' : Hid (cmpI a b = 1) := Lib.hid (by rw [hc.out, if_neg h1, if_pos h2])
      clear hc
      go_wp2_with fail
      go_ret
      rw [hc'.out]
      exact ⟨rfl, rfl⟩
    · have hc' : Hid (cmpI a b = 0) := Lib.hid (by rw [hc.out, if_neg h1, if_neg h2])
      clear hc
      go_wp2_with fail
      go_ret
      rw [hc'.out]
      exact ⟨rfl, rfl⟩
theorem cmpI_lt (a b : Int) : decide (cmpI a b < 0) = decide (a < b) := by
  unfold cmpI
  by_cases h1 : a < b
  · rw [if_pos h1, decide_eq_true h1]; rfl
  · rw [if_neg h1, decide_eq_false h1]
    split <;> rfl
set_option maxHeartbeats 8000000 in
set_option maxRecDepth 100000 in
theorem cmp25 {w : World} {p : Nat} {room : Int} {v : Value} {L : List Kn} (h : Pk w p room v L) (hl : L.length ≤ 100000) {q r : Nat} {now : Int} (hq : w.cell? ⟨q, 0, none⟩ = some (.pointer (some ⟨p, 0, none⟩))) (hr : w.cell? ⟨r, 0, none⟩ = some (.int .i64 now)) (a b : Int) :
    Calls Try.prog 25 #[.int .u32 a, .int .u32 b, .pointer (some ⟨q, 0, none⟩), .pointer (some ⟨r, 0, none⟩)] w fun e w' => (∃ c, e = .returned (.int .i64 c) ∧ decide (c < 0) = lessK L now a b) ∧ Below w.heap.size w w' := by
  have hq0 := World.block_lt_of_cell? w _ hq
  have hr0 := World.block_lt_of_cell? w _ hr
  have h' := Lib.hid h
  have hl' := Lib.hid hl
  have hr' := Lib.hid hr
  clear h hl
  go_enter Try.func25, Try.ntmps25
  go_wp2_with fail
  refine (of26 h'.out (by have := hl'.out; omega) a).mono ?_
  rintro e w1 ⟨rfl, hb1⟩
  have hq1 : w1.cell? ⟨q, 0, none⟩ = some (.pointer (some ⟨p, 0, none⟩)) := (World.cell?_of_block (w := w) (hb1.block q hq0)).trans hq
  have hr1 : w1.cell? ⟨r, 0, none⟩ = some (.int .i64 now) := (World.cell?_of_block (w := w) (hb1.block r hr0)).trans hr
  have hr1' := Lib.hid hr1
  have hs1 := hb1.size
  have hb1' := Lib.hid hb1
  obtain ⟨x, hx⟩ : ∃ x, Hid (ofD L a = x) := ⟨_, Lib.hid rfl⟩
  rw [hx.out]
  generalize (ofK L a).isSome = was at *
  obtain ⟨xa, xt, xf, xg⟩ := x
  unfold knV
  have hq2 := Lib.cell?_alloc_some (.cells #[.int .u32 xa, .int .i64 xt, .int .i64 xf, .int .i64 xg] 34) hq1
  have hr2 := Lib.cell?_alloc_some (.cells #[.int .u32 xa, .int .i64 xt, .int .i64 xf, .int .i64 xg] 34) hr1
  have hb2 := hb1.alloc hb1.size (.cells #[.int .u32 xa, .int .i64 xt, .int .i64 xf, .int .i64 xg] 34)
  have hP2 := Lib.hid (h'.out.ext hb2)
  have hr2' := Lib.hid hr2
  have hb2' := Lib.hid hb2
  have hN2 := Lib.hid (Blk.new w1 34 (0, 0) #[.int .u32 xa, .int .i64 xt, .int .i64 xf, .int .i64 xg])
  have hsz := Lib.hid (size_al w1 (.cells #[.int .u32 xa, .int .i64 xt, .int .i64 xf, .int .i64 xg] 34))
  clear hr hb1 hb2 hr2
  dsimp only at *
  go_wp2_with fail
  refine (of26 hP2.out (by have := hl'.out; omega) b).mono ?_
  rintro e w3 ⟨rfl, hb3⟩
  obtain ⟨y, hy⟩ : ∃ y, Hid (ofD L b = y) := ⟨_, Lib.hid rfl⟩
  rw [hy.out]
  generalize (ofK L b).isSome = was2 at *
  obtain ⟨ya, yt, yf, yg⟩ := y
  unfold knV
  have hr3 : w3.cell? ⟨r, 0, none⟩ = some (.int .i64 now) := (World.cell?_of_block (hb3.block r (by rw [hsz.out]; omega))).trans hr2'.out
  have hN3 : Blk w3 w1.heap.size 34 (0, 0) [.int .u32 xa, .int .i64 xt, .int .i64 xf, .int .i64 xg] := hN2.out.below hb3 (by rw [hsz.out]; omega)
  have hr4 := Lib.cell?_alloc_some (.cells #[.int .u32 ya, .int .i64 yt, .int .i64 yf, .int .i64 yg] 34) hr3
  have hx4 := Lib.cell?_alloc_some (.cells #[.int .u32 ya, .int .i64 yt, .int .i64 yf, .int .i64 yg] 34) (hN3.cell 3 : w3.cell? ⟨w1.heap.size, 3, none⟩ = some (.int .i64 xg))
  have hx5 := Lib.cell?_alloc_some (.cells #[.int .u32 ya, .int .i64 yt, .int .i64 yf, .int .i64 yg] 34) (hN3.cell 1 : w3.cell? ⟨w1.heap.size, 1, none⟩ = some (.int .i64 xt))
  have hb4 : Hid (Below w.heap.size w (w3.alloc (.cells #[.int .u32 ya, .int .i64 yt, .int .i64 yf, .int .i64 yg] 34))) := Lib.hid (by
    have hb3' : Below w.heap.size w w3 := hb2'.out.trans (hb3.mono hb2'.out.size)
    exact hb3'.alloc hb3'.size _)
  have hE1 : Hid (erl L now a = decide (xg ≤ now)) := Lib.hid (by unfold erl; rw [hx.out])
  have hE2 : Hid (erl L now b = decide (yg ≤ now)) := Lib.hid (by unfold erl; rw [hy.out])
  have hE3 : Hid ((ofD L a).t = xt ∧ (ofD L a).g = xg ∧ (ofD L b).t = yt ∧ (ofD L b).g = yg) := Lib.hid (by rw [hx.out, hy.out]; exact ⟨rfl, rfl, rfl, rfl⟩)
  clear hb3 hr3 hN3 hN2 hsz hP2 hr2' hq2 hq1 hr1 hx hy hq
  by_cases h1 : xg ≤ now
  · by_cases h2 : yg ≤ now
    · have hle : Hid (lessK L now a b = decide (xt < yt)) := Lib.hid (by
        rw [less_tt (by rw [hE1.out]; exact decide_eq_true h1) (by rw [hE2.out]; exact decide_eq_true h2), hE3.out.1, hE3.out.2.2.1])
      go_wp2_with fail
      refine (cmp27 xt yt _).mono ?_
      rintro e w5 ⟨rfl, rfl⟩
      go_wp2_with fail
      go_ret
      exact ⟨⟨_, rfl, by rw [hle.out]; exact cmpI_lt _ _⟩, hb4.out⟩
    · have hle : Hid (lessK L now a b = true) := Lib.hid (less_tf (by rw [hE1.out]; exact decide_eq_true h1) (by rw [hE2.out]; exact decide_eq_false h2))
      have d1 : decide (xg ≤ now) = true := decide_eq_true h1
      have d2 : decide (yg ≤ now) = false := decide_eq_false h2
      go_wp2_with fail
      go_ret
      exact ⟨⟨_, rfl, by rw [hle.out]; rfl⟩, hb4.out⟩
  · by_cases h2 : yg ≤ now
    · have hle : Hid (lessK L now a b = false) := Lib.hid (less_ft (by rw [hE1.out]; exact decide_eq_false h1) (by rw [hE2.out]; exact decide_eq_true h2))
      have d1 : decide (xg ≤ now) = false := decide_eq_false h1
      have d2 : decide (yg ≤ now) = true := decide_eq_true h2
      go_wp2_with fail
      go_ret
      exact ⟨⟨_, rfl, by rw [hle.out]; rfl⟩, hb4.out⟩
    · have hle : Hid (lessK L now a b = decide (xg < yg)) := Lib.hid (by
        rw [less_ff (by rw [hE1.out]; exact decide_eq_false h1) (by rw [hE2.out]; exact decide_eq_false h2), hE3.out.2.1, hE3.out.2.2.2])
      have d1 : decide (xg ≤ now) = false := decide_eq_false h1
      have d2 : decide (yg ≤ now) = false := decide_eq_false h2
      go_wp2_with fail
      refine (cmp27 xg yg _).mono ?_
      rintro e w5 ⟨rfl, rfl⟩
      go_wp2_with fail
      go_ret
      exact ⟨⟨_, rfl, by rw [hle.out]; exact cmpI_lt _ _⟩, hb4.out⟩
end Go.Proofs.Ytjkeijjfjbcaiaa
