/- How long a reply may be: Size 23; printed by gen_sz.py. -/
import Derived.Test.YthgnlbdolilklaaOfE
namespace Go.Proofs.Ythgnlbdolilklaa
open Go Go.RowKit
def szV (own s : Int) (is : Bool) (E : Int) : Int := if E ≠ 0 ∨ is = false then 512 else min own (max 512 s)
set_option maxHeartbeats 8000000 in
set_option maxRecDepth 100000 in
theorem size_bad (w : World) (own : Int) (h : own < 512 ∨ 65535 < own) (a : Option Addr) (n c : Nat) (m0 m1 m2 m3 m4 m5 m6 m7 m8 m9 m10 m11 m12 : Value) :
    Calls Try.prog 23 #[.agg #[m0, m1, m2, m3, m4, m5, m6, m7, m8, m9, m10, m11, m12, .slice a n c], .int .i64 own] w fun e w' => e = .returned (.tuple #[.int .i64 0, .int .i64 2]) ∧ Below w.heap.size w w' := by
  have hb : Hid (Below w.heap.size w (w.alloc (.cells #[m0, m1, m2, m3, m4, m5, m6, m7, m8, m9, m10, m11, m12, .slice a n c] 60))) := Lib.hid (alloc_bel _ _)
  by_cases h1 : own < 512
  · go_enter Try.func23, Try.ntmps23
    go_wp2_with fail
    refine bodyPost_ret (results_tmp2 rfl _ _ _) rfl ?_
    exact ⟨rfl, hb.out⟩
  · have h2 : 65535 < own := by omega
    go_enter Try.func23, Try.ntmps23
    go_wp2_with fail
    refine bodyPost_ret (results_tmp2 rfl _ _ _) rfl ?_
    exact ⟨rfl, hb.out⟩
set_option maxHeartbeats 8000000 in
set_option maxRecDepth 100000 in
theorem size_any {w : World} {a : Option Addr} {n c : Nat} {QS : List RD} {LS : List RL} (h : RdRs w a n c QS LS) {sC iC vC : Int} {dC : Bool} {AC : List Opt} {isC : Bool} {EC : Int} (hU : OfU QS LS sC iC vC dC AC isC EC) (own : Int) (h1 : 512 ≤ own) (h2 : own ≤ 65535) (m0 m1 m2 m3 m4 m5 m6 m7 m8 m9 m10 m11 m12 : Value) :
    Calls Try.prog 23 #[.agg #[m0, m1, m2, m3, m4, m5, m6, m7, m8, m9, m10, m11, m12, .slice a n c], .int .i64 own] w fun e w' => e = .returned (.tuple #[.int .i64 (szV own sC isC EC), .int .i64 0]) ∧ Below w.heap.size w w' := by
  obtain ⟨W1, hW1⟩ : ∃ W1, w.alloc (.cells #[m0, m1, m2, m3, m4, m5, m6, m7, m8, m9, m10, m11, m12, .slice a n c] 60) = W1 := ⟨_, rfl⟩
  have B1 : Hid (Blk W1 w.heap.size 60 (0, 0) [m0, m1, m2, m3, m4, m5, m6, m7, m8, m9, m10, m11, m12, .slice a n c]) := Lib.hid (by rw [← hW1]; exact Blk.new w 60 (0, 0) #[m0, m1, m2, m3, m4, m5, m6, m7, m8, m9, m10, m11, m12, .slice a n c])
  have k1 : Hid (Below w.heap.size w W1) := Lib.hid (by rw [← hW1]; exact alloc_bel _ _)
  have p0 : W1.cell? ⟨w.heap.size, 0, none⟩ = some (m0) := (B1.out.cell 0).trans rfl
  have p1 : W1.cell? ⟨w.heap.size, 1, none⟩ = some (m1) := (B1.out.cell 1).trans rfl
  have p2 : W1.cell? ⟨w.heap.size, 2, none⟩ = some (m2) := (B1.out.cell 2).trans rfl
  have p3 : W1.cell? ⟨w.heap.size, 3, none⟩ = some (m3) := (B1.out.cell 3).trans rfl
  have p4 : W1.cell? ⟨w.heap.size, 4, none⟩ = some (m4) := (B1.out.cell 4).trans rfl
  have p5 : W1.cell? ⟨w.heap.size, 5, none⟩ = some (m5) := (B1.out.cell 5).trans rfl
  have p6 : W1.cell? ⟨w.heap.size, 6, none⟩ = some (m6) := (B1.out.cell 6).trans rfl
  have p7 : W1.cell? ⟨w.heap.size, 7, none⟩ = some (m7) := (B1.out.cell 7).trans rfl
  have p8 : W1.cell? ⟨w.heap.size, 8, none⟩ = some (m8) := (B1.out.cell 8).trans rfl
  have p9 : W1.cell? ⟨w.heap.size, 9, none⟩ = some (m9) := (B1.out.cell 9).trans rfl
  have p10 : W1.cell? ⟨w.heap.size, 10, none⟩ = some (m10) := (B1.out.cell 10).trans rfl
  have p11 : W1.cell? ⟨w.heap.size, 11, none⟩ = some (m11) := (B1.out.cell 11).trans rfl
  have p12 : W1.cell? ⟨w.heap.size, 12, none⟩ = some (m12) := (B1.out.cell 12).trans rfl
  have p13 : W1.cell? ⟨w.heap.size, 13, none⟩ = some (.slice a n c) := (B1.out.cell 13).trans rfl
  have hof := Lib.hid (of_any (h.ext k1.out) hU m0 m1 m2 m3 m4 m5 m6 m7 m8 m9 m10 m11 m12)
  clear h hU
  have h1' : ¬ own < 512 := by omega
  have h2' : ¬ 65535 < own := by omega
  go_enter Try.func23, Try.ntmps23
  go_wp2_with fail
  try rw [hW1]
  clear hW1
  refine hof.out.mono ?_
  rintro e w1 ⟨⟨u, rfl, hu⟩, hb⟩
  obtain ⟨au, cu, rfl⟩ := hu.shape
  have hb2 := Lib.hid (k1.out.trans (hb.mono k1.out.size))
  generalize AC.length = nC at *
  clear hb hu hof p0 p1 p2 p3 p4 p5 p6 p7 p8 p9 p10 p11 p12 p13
  unfold eV
  obtain ⟨W4, hW4⟩ : ∃ W, w1.alloc (.cells #[.int .i64 0, .int .i64 0, .int .i64 0, .bool false, .slice none 0 0] 24) = W := ⟨_, rfl⟩
  have hN4 : Hid (Blk W4 w1.heap.size 24 (0, 0) [.int .i64 0, .int .i64 0, .int .i64 0, .bool false, .slice none 0 0]) := Lib.hid (by rw [← hW4]; exact Blk.new w1 24 (0, 0) #[.int .i64 0, .int .i64 0, .int .i64 0, .bool false, .slice none 0 0])
  have hk4 : Hid (Below w1.heap.size w1 W4) := Lib.hid (by rw [← hW4]; exact alloc_bel _ _)
  go_upto_region 4 with (refine store_whole rfl 24 (.tmp 6) (.tmp 18) rfl rfl rfl hN4.out (by rfl) (by kernel_rfl) (by kernel_rfl) ?_; intro w5 hB6 hg6 hz6; have hR5 := Lib.hid hB6; have hk5 := Lib.hid (fresh_store hk4.out hg6); clear hB6 hg6 hz6)
  have hb6 := Lib.hid (hb2.out.trans (hk5.out.mono hb2.out.size))
  have y0 : w5.cell? ⟨w1.heap.size, 0, none⟩ = some (.int .i64 sC) := (hR5.out.cell 0).trans rfl
  clear hW4 hN4 hk4
  by_cases hE : EC = 0
  · have hEb : (EC != 0) = false := by rw [hE]; rfl
    have hE' := Lib.hid hE
    clear hE
    cases isC with
    | false =>
      go_wp2_with fail
      refine bodyPost_ret (results_tmp2 rfl _ _ _) rfl ?_
      exact ⟨by unfold szV; rw [if_pos (.inr rfl)]; rfl, hb6.out⟩
    | true =>
      have hsz : Hid (szV own sC true EC = min own (max 512 sC)) := Lib.hid (by unfold szV; rw [if_neg (by rw [hE'.out]; simp)])
      by_cases hs : 512 < sC
      · by_cases ho : sC < own
        · have e1 : Hid (min own (max 512 sC) = sC) := Lib.hid (by omega)
          go_wp2_with fail
          refine bodyPost_ret (results_tmp2 rfl _ _ _) rfl ?_
          exact ⟨by rw [hsz.out, e1.out]; rfl, hb6.out⟩
        · have e1 : Hid (min own (max 512 sC) = own) := Lib.hid (by omega)
          go_wp2_with fail
          refine bodyPost_ret (results_tmp2 rfl _ _ _) rfl ?_
          exact ⟨by rw [hsz.out, e1.out]; rfl, hb6.out⟩
      · by_cases ho : 512 < own
        · have e1 : Hid (min own (max 512 sC) = 512) := Lib.hid (by omega)
          go_wp2_with fail
          refine bodyPost_ret (results_tmp2 rfl _ _ _) rfl ?_
          exact ⟨by rw [hsz.out, e1.out]; rfl, hb6.out⟩
        · have ho2 : own = 512 := by omega
          subst ho2
          have e1 : Hid (min (512 : Int) (max 512 sC) = 512) := Lib.hid (by omega)
          go_wp2_with fail
          refine bodyPost_ret (results_tmp2 rfl _ _ _) rfl ?_
          exact ⟨by rw [hsz.out, e1.out]; rfl, hb6.out⟩
  · have hEb : (EC != 0) = true := by simpa using hE
    have hE' := Lib.hid hE
    clear hE
    go_wp2_with fail
    refine bodyPost_ret (results_tmp2 rfl _ _ _) rfl ?_
    exact ⟨by unfold szV; rw [if_pos (.inl hE'.out)]; rfl, hb6.out⟩
end Go.Proofs.Ythgnlbdolilklaa
