/- Layer 22: the document's clock: Pop. -/
import Derived.Test.YtckimjmidbdalaaRck2
namespace Go.Proofs.Ytckimjmidbdalaa
open Go.RowKit
set_option maxHeartbeats 4000000 in
set_option maxRecDepth 100000 in
theorem rck_pop {w : World} {c : Nat} {o : Option Nat} {now : Int} {L : List Tk} (h : Rck w c o now L) (hm : L.length ≤ 1000) :
    Calls Try.prog 31 #[.pointer (some ⟨c, 0, none⟩)] w fun e w' => e = .returned (.tuple #[.int .i64 (popR now L).1, .bool (popR now L).2]) ∧ ∃ o', Rck w' c o' now (popT now L) ∧ Tn w w' c o ∧ Newer w o o' := by
  have hf := rck_first h hm
  have hRk := Lib.hid h
  obtain ⟨a, cap, hB, hO, rfl⟩ := h
  obtain ⟨i0, hi, hz0, hz1, hz2⟩ := info_parts Try.info83
  have c0 : w.cell? ⟨c, 0, none⟩ = some (.int .i64 now) := by rw [hB.cell]; rfl
  have c1 : w.cell? ⟨c, 1, none⟩ = some (.slice a L.length cap) := by rw [hB.cell]; rfl
  have hlt := hB.lt
  by_cases h0 : 0 < L.length
  · obtain ⟨i, hb, hi2, _, _⟩ := best_spec L L.length h0
    have hfst : first L = some i := hb
    have hrd : Hid (Rd tkE w a L.length cap L) := Lib.hid (by obtain ⟨a', c', e, h⟩ := hO.rd; cases e; exact h)
    obtain ⟨g, cap', e, hbg, hgl, hcap, hcs⟩ := own_tk hO h0
    cases e
    obtain ⟨q1, q2⟩ := hcs i hi2
    rw [bestI_of hfst] at hf
    have hw := fun hl => popR_wait (now := now) hfst hl
    have hd := fun hl => popR_due (now := now) hfst hl
    generalize (L.getD i (0, 0)).1 = x at *
    generalize (L.getD i (0, 0)).2 = y at *
    have hBB := Lib.hid hB
    clear hcs hO hb hfst hB
    by_cases hx : now < x
    · rw [(hw hx).1, (hw hx).2]
      clear hw hd
      go_enter Try.func31, Try.ntmps31
      go_wp2_with (go_at_call 38; refine hf.mono ?_; rintro e w1 ⟨rfl, nd, rfl⟩)
      go_quiet (fail)
      go_wp2_with fail
      go_ret2
      exact ⟨rfl, _, (hRk.out.drewN _).drewN _, ((Tn.refl _ _ _).drewN _).drewN _, fun k hk => .inl hk⟩
    · have hdd := hd (by omega)
      rw [hdd.1]
      have hE := Lib.hid hdd.2
      clear hw hd hdd
      have hsz1 : (Try.prog.info? tkE.e).map (·.size) = some tkE.k := by kernel_rfl
      obtain ⟨a1, hs1, hr1⟩ := cut_h (P := Try.prog) hrd.out 46 Try.underlying46 hsz1 .i64 i i rfl (by omega)
      obtain ⟨a2, hs2, hr2⟩ := cut_l (P := Try.prog) hrd.out 46 Try.underlying46 hsz1 .i64 ((i : Int) + 1) (i + 1) (by omega) (by omega)
      have hR1 := Lib.hid hr1
      have hR2 := Lib.hid hr2
      clear hr1 hr2
      have hl1 : Hid ((L.take i).length = i) := Lib.hid (by rw [List.length_take]; omega)
      have hl2 : Hid ((L.drop (i + 1)).length = L.length - (i + 1)) := Lib.hid (by rw [List.length_drop])
      have hEr : Hid (L.take i ++ L.drop (i + 1) = L.eraseIdx i) := Lib.hid (List.eraseIdx_eq_take_drop_succ L i).symm
      go_enter Try.func31, Try.ntmps31
      go_wp2_with (go_at_call 38; refine hf.mono ?_; rintro e w1 ⟨rfl, nd, rfl⟩)
      go_quiet (fail)
      go_wp2_with (at_builtin; refine app_own (E := tkE) (base := w.heap.size) rfl (.tmp 34) (.tmp 40) 46 46 rfl Try.underlying46 hi hz0 hz1 hz2 rfl rfl (Own.nil _ _ _) rfl ((hR1.out.keep (by intro _ _ _ _ _; rfl)).src Try.underlying46) ?c1 ?c2 ?c3 ?_)
      case c1 => have := hl1.out; simp [maxLen]; omega
      case c2 => have := hl1.out; simp; omega
      case c3 => exact Nat.le_refl _
      intro v1 w2 ho1 hg1 _
      obtain ⟨b1, p1, rfl⟩ := ho1.shape
      have hz2' : w.heap.size ≤ w2.heap.size := hg1.size
      have hBk2 : w2.heap[c]? = w.heap[c]? := hg1.block c hlt (by simp [Value.ownBlock])
      have hRd2 := Lib.hid (hR2.out.keep (w' := w2) fun b _ _ _ hb => hg1.block b hb (by simp [Value.ownBlock]))
      have e0 := World.cell?_of_block (a := ⟨c, 0, none⟩) (w := w) (w' := w2) hBk2
      have e1 := World.cell?_of_block (a := ⟨c, 1, none⟩) (w := w) (w' := w2) hBk2
      rw [c0] at e0
      rw [c1] at e1
      have hT1 : Hid (Tn w w2 c (Value.slice (some ⟨g, 0, none⟩) L.length cap).ownBlock) := Lib.hid ⟨hg1.os, hg1.tape, hg1.output, hg1.size, fun k hk _ _ => hg1.block k hk (by simp [Value.ownBlock])⟩
      have ho2 := Lib.hid ho1
      have hlo := Lib.hid ho1.lt
      clear ho1 hg1
      go_wp2_with (at_builtin; refine app_own (E := tkE) (base := w.heap.size) rfl (.tmp 43) (.tmp 50) 46 46 rfl Try.underlying46 hi hz0 hz1 hz2 rfl rfl ho2.out rfl (hRd2.out.src Try.underlying46) ?c1 ?c2 ?c3 ?_)
      case c1 => have := hl1.out; have := hl2.out; simp [maxLen]; omega
      case c2 => have := hl1.out; have := hl2.out; simp; omega
      case c3 => exact hz2'
      intro v2 w3 ho3 hg2 _
      rw [hEr.out] at ho3
      have hg2 : w2.grownBy w3 (Value.slice b1 (L.take i).length p1).ownBlock := by rw [List.length_take]; exact hg2
      obtain ⟨b2, p2, rfl⟩ := ho3.shape
      have hne : (Value.slice b1 (L.take i).length p1).ownBlock ≠ some c := fun e => by have := (hlo.out c e).1; omega
      have hB3 : Blk w3 c 48 (0, 0) [.int .i64 now, .slice (some ⟨g, 0, none⟩) L.length cap] := (hg2.block c (by omega) (fun e => hne e.symm)).trans (hBk2.trans hBB.out)
      have d1 : w3.cell? ⟨c, 1, none⟩ = some (.slice (some ⟨g, 0, none⟩) L.length cap) := by rw [hB3.cell]; rfl
      have f1 : w3.frozen? ⟨c, 1, none⟩ = false := by rw [hB3.frozen]; simp
      have hR := Lib.hid (rck_put hB3 (ho3.mono (base' := c + 1) (by omega)))
      have hlo3 := Lib.hid ho3.lt
      have hN1 : Newer w (Value.slice (some ⟨g, 0, none⟩) L.length cap).ownBlock (Value.slice b1 (L.take i).length p1).ownBlock := fun k hk => .inr (hlo.out k hk).1
      have hT3 := Lib.hid ((hT1.out.trans2 (Tn.of_grown (c := c) hg2) hN1))
      clear hB3 ho3 hg2 hne
      generalize hE0 : L.eraseIdx i = K at *
      have hEE := Lib.hid hE0
      clear hE0
      go_wp2_with fail
      go_ret2
      refine ⟨rfl, _, by rw [hE.out]; exact hR.out, hT3.out.trans (Tn.of_grown_c (grown_set _ _ _ _)) (.inl rfl), fun k hk => .inr (hlo3.out k hk).1⟩
  · have hL : L = [] := List.eq_nil_of_length_eq_zero (by omega)
    subst hL
    have e1 : bestI [] ([] : List Tk).length = -1 := rfl
    rw [e1] at hf
    have p1 : popR now [] = (0, false) := rfl
    have p2 : popT now [] = [] := rfl
    rw [p1, p2]
    clear hB hO e1 p1 p2
    go_enter Try.func31, Try.ntmps31
    go_wp2_with (go_at_call 38; refine hf.mono ?_; rintro e w1 ⟨rfl, nd, rfl⟩)
    go_quiet (fail)
    go_wp2_with fail
    go_ret2
    exact ⟨rfl, _, (hRk.out.drewN _).drewN _, ((Tn.refl _ _ _).drewN _).drewN _, fun k hk => .inl hk⟩
end Go.Proofs.Ytckimjmidbdalaa
