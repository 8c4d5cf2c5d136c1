/- The scanner: Entries 12. -/
import Derived.Test.YtojdjhicjhhblaaDoorScS
namespace Go.Proofs.YtojdjhicjhhblaaDoor
open Go Go.RowKit
section
variable {P : Program} {w : World}
theorem results_tc {fn : Func} {t1 t3 : Tmp} {ty1 : TypeId} (h : fn.results = #[.tmp t3, .cell t1 ty1]) (tmps : Array Value) {b1 : Nat} {e1 : TypeId} {f1 : Nat × Nat} {C1 : List Value} {d1 : TypeDesc}
    (hp1 : tmps.getD t1 undef = .pointer (some ⟨b1, 0, none⟩)) (hB1 : Blk w b1 e1 f1 C1) (hu1 : P.underlying ty1 = some d1) (hd1 : d1.isRow = true) (hi1 : (P.info? ty1).map (·.size) = some C1.length) :
    (results fn tmps).run P w = .ok (.tuple #[tmps.getD t3 undef, .agg C1.toArray]) w := by
  have r1 := run_loadVar_mid (P := P) w b1 0 ty1 C1 d1 (range_of hB1) hu1 hd1 hi1
  have a1 : (asAddr (.pointer (some ⟨b1, 0, none⟩))).run P w = .ok ⟨b1, 0, none⟩ w := by simp [asAddr]
  have hp1' : tmps[t1]?.getD undef = .pointer (some ⟨b1, 0, none⟩) := by simpa using hp1
  simp [results, h, hp1', a1, r1, Result.andThen, Sem.run_bind]
end
/-- what Entries tells -/
def EntP (b : Nat) (R : List Ent × (Int × Int)) (e : Ending) (w : World) : Prop :=
  ∃ oa on oc eds m, e = .returned (.tuple #[.slice oa on oc, .agg #[.int .i64 R.2.1, .int .i64 R.2.2]]) ∧ Own enE w b (.slice oa on oc) eds ∧ eds.length = on ∧ Ents w b m eds R.1 ∧ m ≤ w.heap.size
theorem EntP.none (b : Nat) (f : Int × Int) (w : World) : EntP b ([], f) (.returned (.tuple #[.slice none 0 0, .agg #[.int .i64 f.1, .int .i64 f.2]])) w :=
  ⟨_, _, _, [], 0, rfl, Own.nil _ _ _, rfl, Ents.nil _ _ _, Nat.zero_le _⟩
theorem Ents.lower {w : World} {B B' m : Nat} {D : List ED} {L : List Ent} (h : Ents w B m D L) (hm : B' ≤ B) : Ents w B' m D L :=
  ⟨h.1, fun j d e hd he => ⟨(h.2 j d e hd he).1, (h.2 j d e hd he).2.1, (h.2 j d e hd he).2.2.1.mono hm, (h.2 j d e hd he).2.2.2⟩⟩
set_option maxHeartbeats 8000000 in
set_option maxRecDepth 100000 in
theorem entries_any (w : World) (s : List UInt8) (hs1 : (s.length : Int) ≤ 9223372036854775807) : Calls Tryd.prog 10 #[.string (mk s)] w fun e w' => Below w.heap.size w w' ∧ EntP w.heap.size (pEnt s) e w' := by
  by_cases hs : 65536 < s.length
  · have hp : pEnt s = ([], (3, 0)) := by unfold pEnt; rw [if_pos hs]
    rw [hp]
    have hI : (65536 : Int) < s.length := by omega
    clear hp hs1
    go_enter Tryd.func10, Tryd.ntmps10
    go_wp2_with fail
    refine bodyPost_ret (results_tc rfl _ rfl (Blk.new w 36 (0, 0) _) Tryd.underlying36 rfl (by kernel_rfl)) rfl ?_
    exact ⟨alloc_bel _ _, EntP.none _ (3, 0) _⟩
  have hp : pEnt s = prun (linesOf s) s sc0 := by unfold pEnt; rw [if_neg hs]
  rw [hp]
  have hI : ¬ (65536 : Int) < s.length := by omega
  have hsN := Lib.hid (show s.length ≤ 65536 by omega)
  clear hp hs1 hs
  obtain ⟨R, hR⟩ : ∃ R, prun (linesOf s) s sc0 = R := ⟨_, rfl⟩
  rw [hR]
  have HR := Lib.hid hR
  clear hR
  go_enter Tryd.func10, Tryd.ntmps10
  go_wp2_with fail
  obtain ⟨W1, hW1⟩ : ∃ W, w.alloc (.cells #[.int .i64 0, .int .i64 0] 36) = W := ⟨_, rfl⟩
  have B0 : Hid (Blk W1 w.heap.size 36 (0, 0) [.int .i64 0, .int .i64 0]) := Lib.hid (by rw [← hW1]; exact Blk.new w 36 (0, 0) #[.int .i64 0, .int .i64 0])
  have k1 : Hid (Below w.heap.size w W1) := Lib.hid (by rw [← hW1]; exact alloc_bel _ _)
  have z1 : Hid (W1.heap.size = w.heap.size + 1) := Lib.hid (by rw [← hW1]; exact World.size_alloc _ _)
  rw [hW1, show w.heap.size + 1 = W1.heap.size from z1.out.symm]
  clear hW1
  obtain ⟨W2, hW2⟩ : ∃ W, W1.alloc (.cells #[.string (mk s), .int .i64 1, .int .u8 0, .int .i64 0, .int .i64 0, .int .i64 0, .int .i64 0, .bool false, .slice none 0 0, .bool true, .slice none 0 0, .int .i64 0, .int .i64 0] 62) = W := ⟨_, rfl⟩
  have B2 : Hid (Blk W2 W1.heap.size 62 (0, 0) [.string (mk s), .int .i64 1, .int .u8 0, .int .i64 0, .int .i64 0, .int .i64 0, .int .i64 0, .bool false, .slice none 0 0, .bool true, .slice none 0 0, .int .i64 0, .int .i64 0]) := Lib.hid (by rw [← hW2]; exact Blk.new W1 62 (0, 0) #[.string (mk s), .int .i64 1, .int .u8 0, .int .i64 0, .int .i64 0, .int .i64 0, .int .i64 0, .bool false, .slice none 0 0, .bool true, .slice none 0 0, .int .i64 0, .int .i64 0])
  have k2 : Hid (Below W1.heap.size W1 W2) := Lib.hid (by rw [← hW2]; exact alloc_bel _ _)
  rw [hW2]
  clear hW2
  have S2 : SM W1.heap.size W1.heap.size s 0 sc0 ⟨0, none, 0, 0, none, 0, 0, [], W1.heap.size⟩ W2 :=
    ⟨Nat.le_refl _, B2.out, Own.nil _ _ _, rfl, Own.nil _ _ _, rfl, Ents.nil _ _ _, Nat.le_refl _, k2.out.size, fun h => by rcases h with h | h <;> cases h⟩
  refine (run_sm S2 hsN.out).mono ?_
  clear S2
  rintro e W3 ⟨rfl, k3, hP⟩
  replace k3 := Lib.hid k3
  have B3 : Hid (Blk W3 w.heap.size 36 (0, 0) [.int .i64 0, .int .i64 0]) := Lib.hid ((B0.out.below k2.out B0.out.lt).below k3.out B0.out.lt)
  have kk : Hid (Below w.heap.size w W3) := Lib.hid (k1.out.trans ((k2.out.trans k3.out).mono k1.out.size))
  rw [HR.out] at hP
  obtain ⟨R1, f1, f2⟩ := R
  have hwz : w.heap.size ≤ W1.heap.size := k1.out.size
  replace hwz := Lib.hid hwz
  rcases hP with ⟨h0, i, c, q, SM3, hout⟩ | ⟨h1, h2, hF⟩
  · cases h0
    obtain ⟨line, st, deep, cur, begun, eline, blank, words, fresh, out⟩ := c
    obtain ⟨frm, wa, wn, wk, oa, on, oc, eds, m⟩ := q
    replace SM3 := Lib.hid SM3
    replace hout := Lib.hid hout
    have c10 : W3.cell? ⟨W1.heap.size, 10, none⟩ = some (.slice oa on oc) := (SM3.out.blk.cell 10).trans rfl
    have c11 : W3.cell? ⟨W1.heap.size, 11, none⟩ = some (.int .i64 0) := (SM3.out.blk.cell 11).trans rfl
    have c12 : W3.cell? ⟨W1.heap.size, 12, none⟩ = some (.int .i64 0) := (SM3.out.blk.cell 12).trans rfl
    clear B0 B2 k1 k2 k3
    go_wp2_with (refine store_whole rfl 36 (.tmp 3) (.tmp 28) rfl rfl rfl B3.out (by rfl) (by kernel_rfl) (by kernel_rfl) ?_; intro W4 hB4 hg4 hz4; have B4 := Lib.hid hB4; have g4 := Lib.hid hg4; clear hB4 hg4 hz4)
    refine bodyPost_ret (results_tc rfl _ rfl B4.out Tryd.underlying36 rfl (by kernel_rfl)) rfl ?_
    refine ⟨kk.out.grown g4.out kk.out.size (fun k hk => by cases hk; exact Nat.le_refl _), oa, on, oc, eds, m, rfl, (own_store SM3.out.out B3.out (by decide) g4.out).mono hwz.out, SM3.out.ol, ?_, Nat.le_trans SM3.out.hi g4.out.size⟩
    have hen := SM3.out.ents
    dsimp only at hen
    rw [hout.out] at hen
    refine (hen.keep fun k C _ hC => g4.out.block k hC.lt (fun e => ?_)).lower hwz.out
    have e2 := Option.some.inj e
    subst e2
    exact absurd (blk_type hC B3.out) (by decide)
  · obtain rfl : R1 = [] := h1
    obtain ⟨x0, x1, x2, x3, x4, x5, x6, x7, x8, x9, x10, hB⟩ := hF
    dsimp only at hB h2
    have c11 : W3.cell? ⟨W1.heap.size, 11, none⟩ = some (.int .i64 f1) := (hB.cell 11).trans rfl
    have c12 : W3.cell? ⟨W1.heap.size, 12, none⟩ = some (.int .i64 f2) := (hB.cell 12).trans rfl
    have e0 : (f1 == 0) = false := by rw [beq_eq_false_iff_ne]; exact h2
    have e1 : (f1 != 0) = true := by rw [bne_iff_ne]; exact h2
    clear B0 B2 k1 k2 k3 h2 hB
    go_upto_region 6 with (fail)
    refine wp_region_still_tail 5 (by kernel_rfl) (by kernel_rfl) ?_
    simp only [List.take_succ_cons, List.take_zero, List.drop_succ_cons, List.drop_zero]
    iterate 5 still_step
    refine wpStill_nil ?_
    change wpList _ _ _ _ _ W3.drew
    have B5 : Hid (Blk W3.drew w.heap.size 36 (0, 0) [.int .i64 0, .int .i64 0]) := Lib.hid B3.out
    have kk5 : Hid (Below w.heap.size w W3.drew) := Lib.hid (kk.out.drew)
    generalize W3.drew = W4 at *
    go_wp2_with (refine store_whole rfl 36 (.tmp 3) (.tmp 23) rfl rfl rfl B5.out (by rfl) (by kernel_rfl) (by kernel_rfl) ?_; intro W5 hB4 hg4 hz4; have B6 := Lib.hid hB4; have g4 := Lib.hid hg4; clear hB4 hg4 hz4)
    refine bodyPost_ret (results_tc rfl _ rfl B6.out Tryd.underlying36 rfl (by kernel_rfl)) rfl ?_
    exact ⟨kk5.out.grown g4.out kk5.out.size (fun k hk => by cases hk; exact Nat.le_refl _), EntP.none _ (f1, f2) _⟩
end Go.Proofs.YtojdjhicjhhblaaDoor
