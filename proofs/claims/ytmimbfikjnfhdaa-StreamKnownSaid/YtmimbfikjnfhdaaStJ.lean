/- DeleteFunc 37. -/
import Derived.Test.YtmimbfikjnfhdaaStI
namespace Go.Proofs.Ytmimbfikjnfhdaa
open Go.RowKit
set_option maxHeartbeats 8000000 in
set_option maxRecDepth 100000 in
theorem del_any {w : World} {base : Nat} {v : Value} {L : List Int} (hO : Own idE w base v L) {q : Nat} {id : Int} (hq : w.cell? ⟨q, 0, none⟩ = some (.int .u16 id)) (hv : v.ownBlock ≠ some q) (hl : L.length ≤ 1000000) :
    Calls Try.prog 37 #[v, .func (.func 38) #[] #[.pointer (some ⟨q, 0, none⟩)]] w fun e w' => (∃ v', e = .returned v' ∧ Own idE w' base v' (L.filter fun x => decide (x ≠ id)) ∧ v'.ownBlock = v.ownBlock) ∧ w.grownBy w' v.ownBlock := by
  obtain ⟨a0, c0, e0, hR⟩ := hO.rd
  subst e0
  rcases first_of (L := L) (id := id) with hno | ⟨k0, hk0, hy, hn⟩
  · have hf : (L.filter fun x => decide (x ≠ id)) = L := by
      rw [List.filter_eq_self]
      intro x hx
      simpa using hno x hx
    have hO' := Lib.hid hO
    have hno' := Lib.hid hno
    have hR' := Lib.hid hR
    have hf' := Lib.hid hf
    clear hO hno hR hf
    go_enter Try.func37, Try.ntmps37
    go_wp2_with fail
    refine (idx_none hR'.out hl hq hno'.out).mono ?_
    rintro e w1 ⟨rfl, rfl⟩
    go_wp2_with fail
    go_ret
    refine ⟨⟨_, rfl, ?_, rfl⟩, ⟨rfl, rfl, rfl, Nat.le_refl _, fun _ _ _ => rfl⟩⟩
    rw [hf'.out]
    exact hO'.out
  · rcases hO with ⟨_, rfl⟩ | ⟨g, cap, X, e1, hbg, hB, hX, hle, hcm, htk⟩
    · exact absurd hk0 (Nat.not_lt_zero _)
    simp only [Value.slice.injEq, true_and] at e1
    obtain ⟨rfl, rfl⟩ := e1
    have hgq : g ≠ q := fun e => hv (by simp [Value.ownBlock, e])
    have hS := Lib.hid (DelS.start hX hk0 htk hy hn)
    have hR' := Lib.hid hR
    have hn' := Lib.hid hn
    have hy' := Lib.hid hy
    have hB' := Lib.hid hB
    have hXc := Lib.hid hX
    clear hR hn hy hB htk hX
    go_enter Try.func37, Try.ntmps37
    go_wp2_with fail
    refine (idx_some hR'.out hl hq k0 hk0 hy'.out hn'.out).mono ?_
    rintro e w1 ⟨rfl, rfl⟩
    have hkI : ((k0 : Int) == -1) = false := by rw [beq_eq_false_iff_ne]; omega
    go_wp2_with fail
    go_loopw [5, 6, 7] (fun i j y wr => ∃ (i' j' : Nat) (C : List Int), i = .int .i64 i' ∧ j = .int .i64 j' ∧ DelS L C id c0 i' j' ∧ Hid (Blk wr g 30 (0, 0) (rowOf idE C)) ∧ w.grownBy wr (some g))
      (fun _ j _ _ => L.length - (intOf j).toNat)
    case atStart => exact ⟨k0, k0 + 1, X, rfl, by go_num, hS.out, hB', ⟨rfl, rfl, rfl, Nat.le_refl _, fun _ _ _ => rfl⟩⟩
    case round =>
      clear hS hB'
      obtain ⟨i, j, C, rfl, rfl, hD, hB, hg⟩ := hrel
      have h1 := hD.lt
      have h2 := hD.le
      have h3 := hD.len
      have hqr : wr.cell? ⟨q, 0, none⟩ = some (.int .u16 id) := (World.cell?_of_block (w := w) (hg.block q (World.block_lt_of_cell? w _ hq) (fun e => hgq (by cases e; rfl)))).trans hq
      have hD' := Lib.hid hD
      have hqr' := Lib.hid hqr
      have hw0 := Lib.hid hq
      clear hD hq hqr
      by_cases hlt : j < L.length
      · have hjI : (j : Int) < L.length := by omega
        have hcj : wr.cell? ⟨g, j, none⟩ = some (.int .u16 L[j]) := by rw [hB.out.cell, rowOf_id, List.getElem?_map, hD'.out.rest j hlt (Nat.le_refl _)]; rfl
        by_cases hx : L[j] = id
        · have hD2 := Lib.hid (hD'.out.skip hlt hx)
          rw [hx] at hcj
          have hx' := Lib.hid hx
          clear hx
          go_wp2_with fail
          refine (same_yes hqr'.out).mono ?_
          rintro e w1 ⟨rfl, rfl⟩
          go_wp2_with fail
          go_roundw
          case rel => exact ⟨i, j + 1, C, rfl, by go_num, hD2.out, hB, hg⟩
          case measure => simp [intOf]; omega
        · have hD2 := Lib.hid (hD'.out.keep hlt hle hx)
          have hci : wr.cell? ⟨g, i, none⟩ = some (.int .u16 (C[i]'(by omega))) := by rw [hB.out.cell, rowOf_id, List.getElem?_map, List.getElem?_eq_getElem (by omega)]; rfl
          have hfi : wr.frozen? ⟨g, i, none⟩ = false := by rw [hB.out.frozen]; simp
          have hB2 : Hid (Blk (wr.setCell ⟨g, i, none⟩ (.int .u16 L[j])) g 30 (0, 0) (rowOf idE (C.set i L[j]))) := Lib.hid (by
            have := hB.out.set i (.int .u16 L[j])
            rw [rowOf_id] at this ⊢
            rwa [List.map_set])
          have hg2 : Hid (w.grownBy (wr.setCell ⟨g, i, none⟩ (.int .u16 L[j])) (some g)) := Lib.hid (grown_tr hg (grown_set1 _ _ _ _))
          generalize hLj : L[j] = x at *
          have hx' := Lib.hid hLj
          clear hLj
          go_wp2_with fail
          refine (same_no hqr'.out hx).mono ?_
          rintro e w1 ⟨rfl, rfl⟩
          go_wp2_with fail
          go_roundw
          case rel => exact ⟨i + 1, j + 1, C.set i x, by go_num, by go_num, hD2.out, hB2, hg2.out⟩
          case measure => simp [intOf]; omega
      · have hjl : j = L.length := by omega
        subst hjl
        have r1 := fun u => run_from (P := Try.prog) u 66 30 Try.underlying66 (by kernel_rfl) g L.length c0 i (by omega) (by omega) hle
        have r2 := fun u => run_upto (P := Try.prog) u 66 30 Try.underlying66 (by kernel_rfl) g L.length c0 i (by omega) (by omega) hle
        have r3 := Lib.run_clear_slice (P := Try.prog) wr 66 30 0 (.int .u16 0) Try.underlying66 (fun _ => by kernel_rfl) rfl rfl g i (L.length - i) (c0 - i) (by omega)
          (fun k hk => by rw [hB.out.cell, rowOf_id, List.getElem?_map, List.getElem?_eq_getElem (by omega)]; rfl) (fun k _ => by rw [hB.out.frozen]; simp)
        have hB2 : Hid (Blk (wr.setCells g i (List.replicate (L.length - i) (.int .u16 0))) g 30 (0, 0) (rowOf idE (splice C i (List.replicate (L.length - i) 0)))) := Lib.hid (by
          have := setCells_blk (List.replicate (L.length - i) (.int .u16 0)) i wr hB.out (by rw [rowOf_length]; simp [idE]; omega)
          rw [rowOf_id] at this ⊢
          unfold splice at this ⊢
          simp only [List.map_append, List.map_take, List.map_drop, List.map_replicate, List.length_replicate] at this ⊢
          exact this)
        have hg2 : Hid (wr.grownBy (wr.setCells g i (List.replicate (L.length - i) (.int .u16 0))) (some g)) := Lib.hid ⟨setCells_os _ _ _ _, setCells_tape _ _ _ _, setCells_output _ _ _ _, Nat.le_of_eq (setCells_size _ _ _ _).symm, fun k _ hk => setCells_other g (fun e => hk (by rw [e])) _ _ _⟩
        generalize wr.setCells g i (List.replicate (L.length - i) (.int .u16 0)) = w2 at *
        go_wp2_with fail
        go_ret
        have hkp := hD'.out.kept
        rw [List.take_of_length_le (Nat.le_refl _)] at hkp
        have hil : (L.filter fun x => decide (x ≠ id)).length = i := by rw [← hkp, List.length_take]; omega
        refine ⟨⟨_, rfl, .inr ⟨g, c0, splice C i (List.replicate (L.length - i) 0), by rw [hil]; rfl, hbg, hB2.out, ?_, by omega, hcm, ?_⟩, rfl⟩, grown_tr hg hg2.out⟩
        · unfold splice; simp; omega
        · rw [hil, ← hkp]
          unfold splice
          rw [List.take_left' (by rw [List.length_take]; omega)]
end Go.Proofs.Ytmimbfikjnfhdaa
