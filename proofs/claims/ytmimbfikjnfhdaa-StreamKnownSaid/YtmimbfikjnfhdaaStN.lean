/- The document's pipe: Close 15, Keys 18. -/
import Derived.Test.YtmimbfikjnfhdaaStM
namespace Go.Proofs.Ytmimbfikjnfhdaa
open Go.RowKit
theorem drop_cut {L : List (Int × Int)} {id : Int} {k : Nat} (hd : (ids L).Nodup) (hk : k < L.length) (hy : L[k].1 = id) : dropI L id = L.take k ++ L.drop (k + 1) := by
  have e : L = L.take k ++ L[k] :: L.drop (k + 1) := by rw [← List.drop_eq_getElem_cons hk, List.take_append_drop]
  have hb := lookI_before hd hk hy
  have h1 : (L.take k).filter (fun p => decide (p.1 ≠ id)) = L.take k := by
    rw [List.filter_eq_self]
    intro p hp
    obtain ⟨j, hj, rfl⟩ := List.getElem_of_mem hp
    have hj' : j < k := by simp at hj; omega
    simpa using hb j hj'
  have h2 : (L.drop (k + 1)).filter (fun p => decide (p.1 ≠ id)) = L.drop (k + 1) := by
    rw [List.filter_eq_self]
    intro p hp
    obtain ⟨j, hj, rfl⟩ := List.getElem_of_mem hp
    have hj' : k + 1 + j < L.length := by simp at hj; omega
    have h3 : L[k + 1 + j].1 ≠ id := by
      intro e2
      have e3 : (ids L)[k + 1 + j]'(by rw [ids_length]; omega) = (ids L)[k]'(by rw [ids_length]; omega) := by simp [ids, e2, hy]
      have := (List.getElem_inj hd).1 e3
      omega
    simpa using h3
  unfold dropI
  rw [e, List.filter_append, List.filter_cons, h1, h2]
  simp [hy]
set_option maxHeartbeats 4000000 in
theorem rclose_no {w : World} {g : Nat} {o : Option Nat} {most : Int} {L : List (Int × Int)} (h : PipR w g o most L) {id : Int} (hv : lookI L id = none) (hL : L.length ≤ 1000000) :
    Calls Try.prog 15 #[.pointer (some ⟨g, 0, none⟩), .int .u16 id] w fun e w' => e = .returned (.tuple #[.int .i64 0, .int .i64 9]) ∧ w = w' := by
  have hh := Lib.hid h
  have hv' := Lib.hid hv
  clear h hv
  go_enter Try.func15, Try.ntmps15
  go_wp2_with fail
  refine (rat_none hh.out hv'.out hL).mono ?_
  rintro e w1 ⟨rfl, rfl⟩
  go_wp2_with fail
  ((try simp only [Exit.inBlock, Exit.then]); refine bodyPost_ret (results_tmp2 rfl _ _ _) rfl ?_)
  exact ⟨rfl, rfl⟩
set_option maxHeartbeats 8000000 in
set_option maxRecDepth 100000 in
theorem rclose_yes {w : World} {g : Nat} {o : Option Nat} {most : Int} {L : List (Int × Int)} (h : PipR w g o most L) {id v : Int} (hv : lookI L id = some v) (hd : (ids L).Nodup) (hL : L.length ≤ 1000000) :
    Calls Try.prog 15 #[.pointer (some ⟨g, 0, none⟩), .int .u16 id] w fun e w' => e = .returned (.tuple #[.int .i64 v, .int .i64 0]) ∧ ∃ o', PipR w' g o' most (dropI L id) ∧ NewO w o o' ∧ Tch (fr g o) w w' := by
  obtain ⟨i0, hi, hz0, hz1, hz2⟩ := info_parts info79p
  obtain ⟨k, hk, e⟩ := lookI_some hv
  have hh := Lib.hid h
  have hk' := Lib.hid (show L[k].1 = id by rw [e])
  have hdc := Lib.hid (drop_cut hd hk hk'.out)
  obtain ⟨v0, h1, h2, ho⟩ := h
  obtain ⟨a, c, e0, hR⟩ := h2.rd
  subst e0
  have hkI : (k : Int) < L.length := by omega
  obtain ⟨b, o1, e1, hbl, hc⟩ := rd_open hR (by omega)
  subst e1
  have hck := (hc k hk).2
  rw [e] at hck
  dsimp only at hck
  have c1 : w.cell? ⟨g, 1, none⟩ = some (.slice (some ⟨b, o1, none⟩) L.length c) := by rw [h1.cell]; rfl
  have hgl := h1.lt
  have hB := Lib.hid h1
  have hR' := Lib.hid hR
  have h2' := Lib.hid h2
  have ho' := Lib.hid ho
  have hsI : 0 ≤ (k : Int) + 1 := by omega
  obtain ⟨ax, hcx, hrx⟩ := cut_h (P := Try.prog) hR'.out 74 Try.underlying74 (by kernel_rfl) .i64 (k : Int) k rfl (by omega)
  have hbg : ∀ k, (Value.slice (some ⟨b, o1, none⟩) L.length c).ownBlock = some k → g + 1 ≤ k := fun k hk => (h2'.out.lt k hk).1
  have hsx := Lib.hid (hrx.src (P := Try.prog) (tx := 74) Try.underlying74)
  clear h1 h2 hR ho hc hv e
  go_enter Try.func15, Try.ntmps15
  go_wp2_with fail
  refine (rat_some hh.out hk hk'.out hd hL).mono ?_
  rintro e w1 ⟨rfl, rfl⟩
  have hnil := Lib.hid (Own.nil openE w w.heap.size)
  have hlt := Lib.hid (show (L.take k).length = k by simp; omega)
  go_wp2_with (at_builtin; refine app_own (E := openE) rfl (.tmp 22) (.tmp 28) 74 74 rfl Try.underlying74 hi hz0 hz1 hz2 rfl rfl hnil.out rfl hsx.out ?c1 ?c2 (Nat.le_refl _) ?_)
  case c1 => have := hlt.out; simp [maxLen] at this ⊢; omega
  case c2 => have := hlt.out; simp at this ⊢; omega
  intro v5 w5 h5 hg5 hv5
  have hb5 : Below w.heap.size w w5 := ⟨hg5.os, hg5.tape, hg5.output, hg5.size, fun i hi => hg5.block i hi (by simp [Value.ownBlock])⟩
  obtain ⟨a5, n5, c5, rfl⟩ : ∃ a n c, v5 = .slice a n c := by obtain ⟨a, c, e⟩ := h5.shape; exact ⟨_, _, _, e⟩
  obtain ⟨ay, hcy, hry⟩ := cut_l (P := Try.prog) (hR'.out.ext hb5) 74 Try.underlying74 (by kernel_rfl) .i64 ((k : Int) + 1) (k + 1) (by omega) (by omega)
  have hsy := Lib.hid (hry.src (P := Try.prog) (tx := 74) Try.underlying74)
  have hB5 := hB.out.below hb5 hgl
  have d5 : w5.cell? ⟨g, 1, none⟩ = some (.slice (some ⟨b, o1, none⟩) L.length c) := by rw [hB5.cell]; rfl
  have hB5' := Lib.hid hB5
  have h5' := Lib.hid h5
  have hz5 := hb5.size
  clear h5 hg5 hv5 hB5 hry
  go_wp2_with (at_builtin; refine app_own (E := openE) rfl (.tmp 31) (.tmp 38) 74 74 rfl Try.underlying74 hi hz0 hz1 hz2 rfl rfl h5'.out rfl hsy.out ?d1 ?d2 hz5 ?_)
  case d1 => have := hlt.out; simp [maxLen] at this ⊢; omega
  case d2 => have := hlt.out; simp at this ⊢; omega
  intro v6 w6 h6 hg6 hv6
  obtain ⟨a6, n6, c6, rfl⟩ : ∃ a n c, v6 = .slice a n c := by obtain ⟨a, c, e⟩ := h6.shape; exact ⟨_, _, _, e⟩
  have hb6 : Below w.heap.size w w6 := own_below hb5 hg6 h5'.out hz5 (Nat.le_refl _)
  have hB6 := hB.out.below hb6 hgl
  have d6 : w6.cell? ⟨g, 1, none⟩ = some (.slice (some ⟨b, o1, none⟩) L.length c) := by rw [hB6.cell]; rfl
  have f6 : w6.frozen? ⟨g, 1, none⟩ = false := by rw [hB6.frozen]; simp
  have q5 := Lib.hid hB6
  have q8 := Lib.hid h6
  have q7 := Lib.hid hb6
  clear h6 hg6 hv6 hB6
  go_wp2_with fail
  ((try simp only [Exit.inBlock, Exit.then]); refine bodyPost_ret (results_tmp2 rfl _ _ _) rfl ?_)
  refine ⟨rfl, (Value.slice a6 n6 c6).ownBlock, ⟨.slice a6 n6 c6, q5.out.set 1 (.slice a6 n6 c6), ?_, rfl⟩, ?_, ?_⟩
  · rw [hdc.out]
    exact (q8.out.mono (by omega)).keep fun k hk => Below.heap_setCell _ _ _ _ (by have := (q8.out.lt k hk).1; show k ≠ g; omega)
  · exact fun k hk => .inr (q8.out.lt k hk).1
  · exact (Tch.of_below q7.out).trans (Tch.setCell (S := fr g o) w6 (p := ⟨g, 1, none⟩) (.inl rfl) _) (fun b _ h => h)
set_option maxHeartbeats 8000000 in
set_option maxRecDepth 100000 in
theorem rkeys {w : World} {g : Nat} {o : Option Nat} {most : Int} {L : List (Int × Int)} (h : PipR w g o most L) (hL : L.length ≤ 1000000) :
    Calls Try.prog 18 #[.pointer (some ⟨g, 0, none⟩)] w fun e w' => (∃ v, e = .returned v ∧ Own intE w' w.heap.size v (kys L)) ∧ Below w.heap.size w w' := by
  obtain ⟨i0, hi, hz0, hz1, hz2⟩ := info_parts info3p
  obtain ⟨v0, h1, h2, ho⟩ := h
  obtain ⟨a, c, e0, hR⟩ := h2.rd
  subst e0
  have c1 : w.cell? ⟨g, 1, none⟩ = some (.slice a L.length c) := by rw [h1.cell]; rfl
  have hgl := h1.lt
  have hR' := Lib.hid hR
  clear h1 h2 ho hR
  go_enter Try.func18, Try.ntmps18
  go_wp2_with fail
  go_loopw [3, 4] (fun v i wr => ∃ k : Nat, k ≤ L.length ∧ i = .int .i64 k ∧ Hid (Own intE wr w.heap.size v ((kys L).take k)) ∧ Below w.heap.size w wr)
    (fun _ i _ => L.length - (intOf i).toNat)
  case atStart => exact ⟨0, Nat.zero_le _, rfl, Lib.hid (Own.nil _ _ _), Below.refl _ _⟩
  case round =>
    obtain ⟨k, hk, rfl, hO, hb⟩ := hrel
    have r1 : wr.cell? ⟨g, 1, none⟩ = some (.slice a L.length c) := (hb.cell (p := ⟨g, 1, none⟩) hgl).trans c1
    by_cases hlt : k < L.length
    · have hkI : (k : Int) < L.length := by omega
      obtain ⟨b, o1, e1, _, hc⟩ := rd_open (hR'.out.ext hb) (by omega)
      subst e1
      have hck := (hc k hlt).2
      have htk := Lib.hid (show (kys L).take (k + 1) = (kys L).take k ++ [L[k].2] by rw [List.take_succ_eq_append_getElem (by rw [kys_length]; exact hlt)]; simp [kys])
      obtain ⟨va, vc, e2⟩ := hO.out.shape
      have hln : ((kys L).take k).length = k := by rw [List.length_take, kys_length]; omega
      rw [hln] at e2
      subst e2
      generalize L[k].2 = y at *
      have k4 : Below wr.heap.size wr (wr.alloc (.cells #[.int .i64 y] 3)) := (Below.refl _ _).alloc (Nat.le_refl _) _
      have o4 := Lib.hid (hO.out.ext k4)
      have s4 := Lib.hid (src_one wr y)
      have hb4 : Below w.heap.size w (wr.alloc (.cells #[.int .i64 y] 3)) := hb.alloc hb.size _
      have hln' := Lib.hid hln
      clear hc k4 hln
      go_wp2_with (at_builtin; refine app_own (E := intE) (news := [y]) rfl (.tmp 14) (.tmp 23) 36 36 rfl Try.underlying36 hi hz0 hz1 hz2 rfl rfl o4.out rfl s4.out ?c1 ?c2 hb4.size ?_)
      case c1 => have := hln'.out; simp [maxLen] at this ⊢; omega
      case c2 => have := hln'.out; simp at this ⊢; omega
      intro v5 w5 h5 hg5 _
      have hb5 : Below w.heap.size w w5 := own_below hb4 hg5 o4.out hb4.size (Nat.le_refl _)
      have h5' := Lib.hid h5
      clear h5 hg5
      go_wp2_with fail
      go_roundw
      case rel => exact ⟨k + 1, by omega, by go_num, Lib.hid (by rw [htk.out]; exact h5'.out), hb5⟩
      case measure => simp [intOf]; omega
    · have hk' : k = L.length := by omega
      subst hk'
      have hO' := hO.out
      rw [List.take_of_length_le (by rw [kys_length]; exact Nat.le_refl _)] at hO'
      have hO2 := Lib.hid hO'
      clear hO hO'
      go_wp2_with fail
      go_ret
      exact ⟨⟨_, rfl, hO2.out⟩, hb⟩
end Go.Proofs.Ytmimbfikjnfhdaa
