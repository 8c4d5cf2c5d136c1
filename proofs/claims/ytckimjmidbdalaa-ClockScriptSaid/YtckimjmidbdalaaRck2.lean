/- Layer 22: the document's clock: Add, Drop. -/
import Derived.Test.YtckimjmidbdalaaRck
namespace Go.Proofs.Ytckimjmidbdalaa
open Go.RowKit
theorem Try.info83 : (Try.prog.info? 83).map (fun i => (i.zero, i.size, i.bytes)) = some (some (.agg #[.int .i64 0, .int .i64 0]), 2, 16) := by kernel_rfl
set_option maxHeartbeats 2000000 in
theorem rck_add_no {w : World} {c : Nat} (at_ key : Int) (hn : at_ < 0 ∨ mx < at_) : Calls Try.prog 30 #[.pointer (some ⟨c, 0, none⟩), .int .i64 at_, .int .i64 key] w fun e w' => e = .returned (.int .i64 2) ∧ w = w' := by
  unfold mx at hn
  by_cases h1 : at_ < 0
  · clear hn
    go_enter Try.func30, Try.ntmps30
    go_wp2
    all_goals go_ret
    all_goals exact ⟨rfl, rfl⟩
  · have h2 : 1099511627776 < at_ := by omega
    clear hn
    go_enter Try.func30, Try.ntmps30
    go_wp2
    all_goals go_ret
    all_goals exact ⟨rfl, rfl⟩
theorem rck_put {w : World} {c : Nat} {now : Int} {v0 : Value} {a : Option Addr} {cap : Nat} {L' : List Tk} (hB : Blk w c 48 (0, 0) [.int .i64 now, v0]) (hO : Own tkE w (c + 1) (.slice a L'.length cap) L') :
    Rck (w.setCell ⟨c, 1, none⟩ (.slice a L'.length cap)) c (Value.slice a L'.length cap).ownBlock now L' :=
  ⟨a, cap, hB.set 1 _, hO.keep fun k hk => Below.heap_setCell _ _ _ _ (fun e => by have := (hO.lt k hk).1; simp at e; omega), rfl⟩
set_option maxHeartbeats 4000000 in
set_option maxRecDepth 100000 in
theorem rck_add_yes {w : World} {c : Nat} {o : Option Nat} {now : Int} {L : List Tk} (h : Rck w c o now L) (at_ key : Int) (h1 : 0 ≤ at_) (h2 : at_ ≤ mx) (hm : L.length ≤ 1000) :
    Calls Try.prog 30 #[.pointer (some ⟨c, 0, none⟩), .int .i64 at_, .int .i64 key] w fun e w' => e = .returned (.int .i64 0) ∧ ∃ o', Rck w' c o' now (L ++ [(at_, key)]) ∧ Tn w w' c o ∧ Newer w o o' := by
  obtain ⟨a, cap, hB, hO, rfl⟩ := h
  obtain ⟨i0, hi, hz0, hz1, hz2⟩ := info_parts Try.info83
  have c1 : w.cell? ⟨c, 1, none⟩ = some (.slice a L.length cap) := by rw [hB.cell]; rfl
  have hl6 : decide ((65536 : Int) ≤ L.length) = false := decide_eq_false (by omega)
  have hml : Hid (L.length ≤ 1000) := Lib.hid hm
  clear hm
  unfold mx at h2
  have hlt := hB.lt
  have hne : (Value.slice a L.length cap).ownBlock ≠ some c := fun e => by have := (hO.lt c e).1; omega
  generalize hW1 : w.alloc (.cells #[.int .i64 at_, .int .i64 key] 83) = W1
  have hO1 : Hid (Own tkE W1 (c + 1) (.slice a L.length cap) L) := Lib.hid (by rw [← hW1]; exact hO.ext ((Below.refl _ w).alloc (Nat.le_refl _) _))
  have hS : Hid (Src Try.prog tkE.k 46 (.slice (some ⟨w.heap.size, 0, none⟩) 1 1) [((at_, key) : Tk)].length (rowOf tkE [(at_, key)]) W1) := Lib.hid (by
    rw [← hW1]; exact src_lit (E := tkE) (w := w) (e' := 83) Try.underlying46 _ [(at_, key)] 1 rfl rfl)
  have hB1 : Blk W1 c 48 (0, 0) [.int .i64 now, .slice a L.length cap] := by rw [← hW1]; exact hB.alloc _
  have hBB := Lib.hid hB1
  have hz : W1.heap.size = w.heap.size + 1 := by rw [← hW1]; simp
  have hT1 : Tn w W1 c (Value.slice a L.length cap).ownBlock := by rw [← hW1]; exact Tn.alloc _
  have hTT := Lib.hid hT1
  have hWW := Lib.hid hW1
  clear hB hO hB1 hT1 hW1
  go_enter Try.func30, Try.ntmps30
  go_wp2_with (rw [hWW.out]; at_builtin; refine app_own (E := tkE) rfl (.tmp 23) (.tmp 27) 46 46 rfl Try.underlying46 hi hz0 hz1 hz2 rfl rfl hO1.out rfl hS.out ?c1 ?c2 ?c3 ?_)
  case c1 => have := hml.out; simp [maxLen]; omega
  case c2 => have := hml.out; simp; omega
  case c3 => omega
  intro v' w2 ho2 hg2 hv2
  obtain ⟨a2, cap2, rfl⟩ := ho2.shape
  have hB2 : Blk w2 c 48 (0, 0) [.int .i64 now, .slice a L.length cap] := (hg2.block c hBB.out.lt (fun e => hne e.symm)).trans hBB.out
  have d1 : w2.cell? ⟨c, 1, none⟩ = some (.slice a L.length cap) := by rw [hB2.cell]; rfl
  have f1 : w2.frozen? ⟨c, 1, none⟩ = false := by rw [hB2.frozen]; simp
  have hR := Lib.hid (rck_put hB2 ho2)
  have hv3 := Lib.hid hv2
  have hg3 := Lib.hid hg2
  clear hB2 ho2 hv2 hg2
  go_wp2_with fail
  go_ret
  refine ⟨rfl, _, by simpa using hR.out, (hTT.out.trans (Tn.of_grown hg3.out) (.inl rfl)).trans (Tn.of_grown_c (grown_set _ _ _ _)) (.inl rfl), fun j hj => ?_⟩
  have hv4 := hv3.out
  simp only [List.length_append, List.length_cons, List.length_nil, Nat.zero_add] at hv4
  rcases hv4 with e | e
  · exact .inl (e ▸ hj)
  · rw [e] at hj; cases hj; exact .inr (by omega)
theorem filt_snoc (key : Int) (l : List Tk) (t : Tk) : (l ++ [t]).filter (fun t => decide (t.2 ≠ key)) = if t.2 = key then l.filter (fun t => decide (t.2 ≠ key)) else l.filter (fun t => decide (t.2 ≠ key)) ++ [t] := by
  rw [List.filter_append]
  by_cases h : t.2 = key <;> simp [h]
theorem take_tk (l : List Tk) (k : Nat) (h : k < l.length) : l.take (k + 1) = l.take k ++ [l.getD k (0, 0)] := by rw [getD_at _ _ _ h, List.take_succ_eq_append_getElem h]
set_option maxHeartbeats 4000000 in
set_option maxRecDepth 100000 in
theorem rck_drop {w : World} {c : Nat} {o : Option Nat} {now : Int} {L : List Tk} (h : Rck w c o now L) (key : Int) (hm : L.length ≤ 1000) :
    Calls Try.prog 33 #[.pointer (some ⟨c, 0, none⟩), .int .i64 key] w fun e w' => e = .returned (.int .i64 (L.length - (L.filter (fun t => decide (t.2 ≠ key))).length : Nat)) ∧ ∃ o', Rck w' c o' now (L.filter (fun t => decide (t.2 ≠ key))) ∧ Tn w w' c o ∧ Newer w o o' := by
  obtain ⟨a, cap, hB, hO, rfl⟩ := h
  obtain ⟨i0, hi, hz0, hz1, hz2⟩ := info_parts Try.info83
  have c1 : w.cell? ⟨c, 1, none⟩ = some (.slice a L.length cap) := by rw [hB.cell]; rfl
  have hlt := hB.lt
  have hle : (L.filter (fun t => decide (t.2 ≠ key))).length ≤ L.length := List.length_filter_le _ _
  have hOO := Lib.hid hO
  have hBB := Lib.hid hB
  clear hB hO
  go_enter Try.func33, Try.ntmps33
  go_wp2_with fail
  go_loopw [5, 6] (fun kv i wr => ∃ k : Nat, k ≤ L.length ∧ i = .int .i64 k ∧ Own tkE wr w.heap.size kv ((L.take k).filter (fun t => decide (t.2 ≠ key))) ∧ Below w.heap.size w wr)
    (fun _ i _ => L.length - (intOf i).toNat)
  case atStart => exact ⟨0, Nat.zero_le _, rfl, Own.nil _ _ _, Below.refl _ _⟩
  case round =>
    obtain ⟨k, hk, rfl, hK, hb⟩ := hrel
    obtain ⟨a2, cap2, rfl⟩ := hK.shape
    have hKK := Lib.hid hK
    clear hK
    have hbz := hb.size
    have d1 := cell_below hb c1
    by_cases hkl : k < L.length
    · obtain ⟨g, cap', e, hbg, hgl, hcap, hcs⟩ := own_tk hOO.out (by omega)
      cases e
      obtain ⟨q1, q2⟩ := hcs k hkl
      have q1 := cell_below hb q1
      have q2 := cell_below hb q2
      have hsn := filt_snoc key (L.take k) (L.getD k (0, 0))
      rw [← take_tk L k hkl] at hsn
      generalize L.getD k (0, 0) = t at *
      obtain ⟨ta, tb⟩ := t
      have hkn : Hid (((L.take k).filter (fun t => decide (t.2 ≠ key))).length ≤ 1000) := Lib.hid (Nat.le_trans (List.length_filter_le _ _) (by simp; omega))
      generalize (L.take k).filter (fun t => decide (t.2 ≠ key)) = K at *
      simp only at q1 q2 hsn
      clear hcs
      by_cases he : tb = key
      · rw [if_pos he] at hsn
        have hss := Lib.hid hsn
        clear hsn
        go_wp2_with fail
        go_roundw
        case rel => exact ⟨k + 1, by omega, by go_num, by rw [hss.out]; exact hKK.out, hb⟩
        case measure => simp [intOf]; omega
      · rw [if_neg he] at hsn
        have hss := Lib.hid hsn
        clear hsn
        have hO2 := Lib.hid (hKK.out.ext ((Below.refl _ _).alloc (Nat.le_refl _) (.cells #[.int .i64 ta, .int .i64 tb] 83)))
        have hS := Lib.hid (src_lit (P := Try.prog) (E := tkE) (w := wr) (e' := 83) Try.underlying46 #[.int .i64 ta, .int .i64 tb] [(ta, tb)] 1 rfl rfl)
        go_wp2_with (at_builtin; refine app_own (E := tkE) rfl (.tmp 27) (.tmp 35) 46 46 rfl Try.underlying46 hi hz0 hz1 hz2 rfl rfl hO2.out rfl hS.out ?c1 ?c2 ?c3 ?_)
        case c1 => have := hkn.out; simp [maxLen]; omega
        case c2 => have := hkn.out; simp; omega
        case c3 => exact Nat.le_trans hbz (by simp)
        intro v' w2 ho2 hg2 _
        obtain ⟨a4, c4, rfl⟩ := ho2.shape
        have ho3 := Lib.hid ho2
        clear ho2
        go_wp2_with fail
        go_roundw
        case rel => exact ⟨k + 1, by omega, by go_num, by rw [hss.out]; simpa using ho3.out, own_below (hb.alloc hbz _) hg2 hO2.out (by simp; omega) (Nat.le_refl _)⟩
        case measure => simp [intOf]; omega
    · have hkk : k = L.length := by omega
      subst hkk
      rw [List.take_length] at hKK ⊢
      have hB1 : Blk wr c 48 (0, 0) [.int .i64 now, .slice a L.length cap] := (hb.block c hlt).trans hBB.out
      have f1 : wr.frozen? ⟨c, 1, none⟩ = false := by rw [hB1.frozen]; simp
      have hOk := hKK.out.mono (base' := c + 1) (by omega)
      have hR := Lib.hid (rck_put hB1 hOk)
      have hOl := Lib.hid (hKK.out.lt)
      have hTn : Hid (Tn w wr c (Value.slice a L.length cap).ownBlock) := Lib.hid ⟨hb.os, hb.tape, hb.output, hb.size, fun k hk _ _ => hb.block k hk⟩
      clear hB1 hOk
      generalize hK0 : L.filter (fun t => decide (t.2 ≠ key)) = K at *
      have hK := Lib.hid hK0
      clear hK0
      have hm2 : K.length ≤ 1000 := by omega
      go_wp2_with fail
      go_ret
      rw [hK.out]
      have hN : Newer w (Value.slice a L.length cap).ownBlock (Value.slice a2 K.length cap2).ownBlock := fun k hk => .inr (hOl.out k hk).1
      exact ⟨by apply ret_int; omega, _, hR.out, hTn.out.trans (Tn.of_grown_c (grown_set _ _ _ _)) (.inl rfl), hN⟩
end Go.Proofs.Ytckimjmidbdalaa
