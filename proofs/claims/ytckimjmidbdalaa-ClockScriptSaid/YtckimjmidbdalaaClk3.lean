/- Layer 22: the clock's calls: Drop. -/
import Derived.Test.YtckimjmidbdalaaClk2
import Derived.Test.YtckimjmidbdalaaClockChanceW
namespace Go.Proofs.Ytckimjmidbdalaa
open Go.RowKit
def keptL (key : Int) (l : List Tm) : List Tm := l.filter (fun t => decide (t.key ≠ key))
theorem keptL_snoc (key : Int) (l : List Tm) (t : Tm) : keptL key (l ++ [t]) = if t.key = key then keptL key l else keptL key l ++ [t] := by
  unfold keptL
  rw [List.filter_append]
  by_cases h : t.key = key <;> simp [h]
theorem take_gt (l : List Tm) (k : Nat) (h : k < l.length) : l.take (k + 1) = l.take k ++ [gt l k] := by rw [gt_eq _ _ h, List.take_succ_eq_append_getElem h]
theorem Tn.trans2 {w w1 w2 : World} {c : Nat} {o o1 : Option Nat} (h : Tn w w1 c o) (k : Tn w1 w2 c o1) (ho : Newer w o o1) : Tn w w2 c o :=
  ⟨k.os.trans h.os, k.tape.trans h.tape, k.output.trans h.output, Nat.le_trans h.size k.size, fun i hi hc hne =>
    (k.block i (Nat.lt_of_lt_of_le hi h.size) hc (fun e => by rcases ho i e with e2 | e2
                                                              · exact hne e2
                                                              · omega)).trans (h.block i hi hc hne)⟩
set_option maxHeartbeats 4000000 in
set_option maxRecDepth 100000 in
theorem clk_drop {w : World} {c : Nat} {o : Option Nat} {now : Int} {L : List Tk} {m : Nat} (h : Clk w c o now L m) (key : Int) (hm : m ≤ 1000) :
    Calls Try.prog 25 #[.pointer (some ⟨c, 0, none⟩), .int .i64 key] w fun e w' => e = .returned (.int .i64 (L.length - (L.filter (fun t => decide (t.2 ≠ key))).length : Nat)) ∧ ∃ o', Clk w' c o' now (L.filter (fun t => decide (t.2 ≠ key))) m ∧ Tn w w' c o ∧ Newer w o o' := by
  obtain ⟨T, v, l, h, ht, rfl, t0, t1, lm⟩ := h
  obtain ⟨c0, c1, c2, c3⟩ := h.cell
  obtain ⟨i0, hi, hz0, hz1, hz2⟩ := info_parts Try.info71
  have hll := ht.length
  have hd := ht.drop key (keptL key l) rfl
  have hdl : (keptL key l).length = (L.filter (fun t => decide (t.2 ≠ key))).length := by have := hd.length; rw [initL_length] at this; exact this
  have hle : (keptL key l).length ≤ l.length := List.length_filter_le _ _
  rw [← hdl, ← hll]
  have hl1 : l.length ≤ 1000 := by omega
  have hH := Lib.hid h
  have hD := Lib.hid hd
  have hF : Hid ((L.filter (fun t => decide (t.2 ≠ key))).length ≤ m) := Lib.hid (by rw [← hdl]; omega)
  generalize L.filter (fun t => decide (t.2 ≠ key)) = L' at *
  obtain ⟨a, cap, rfl⟩ := h.own.shape
  clear h hd hdl ht lm hll
  go_enter Try.func25, Try.ntmps25
  go_wp2_with (go_at_call 27; refine (none_any hH.out).mono ?_; rintro e w9 ⟨rfl, rfl⟩)
  have hcl := hH.out.lt
  go_loopw [5, 16] (fun kv i wr => ∃ k : Nat, k ≤ l.length ∧ i = .int .i64 k ∧ Own timerE wr w.heap.size kv (keptL key (l.take k)) ∧ Below w.heap.size w wr)
    (fun _ i _ => l.length - (intOf i).toNat)
  case atStart => exact ⟨0, Nat.zero_le _, rfl, Own.nil _ _ _, Below.refl _ _⟩
  case round =>
    obtain ⟨k, hk, rfl, hO, hb⟩ := hrel
    obtain ⟨a2, cap2, rfl⟩ := hO.shape
    have hOO := Lib.hid hO
    clear hO
    have hbz := hb.size
    by_cases hlt : k < l.length
    · obtain ⟨g, cap', e, hbg, hT⟩ := own_tl hH.out.own (by omega)
      cases e
      have hgl := hT.lt
      obtain ⟨q1, q2, q3⟩ := (hT.same (w' := wr) (hb.block g hgl)).cells k hlt
      have hcap : l.length ≤ cap := by obtain ⟨X, _, _, h, _⟩ := hT; exact h
      have hsn := keptL_snoc key (l.take k) (gt l k)
      rw [← take_gt l k hlt] at hsn
      generalize gt l k = t at *
      have hkl : Hid ((keptL key (l.take k)).length ≤ 1000) := Lib.hid (Nat.le_trans (List.length_filter_le _ _) (by simp; omega))
      generalize keptL key (l.take k) = K at *
      have hB1 : Blk (wr.alloc (.cells #[.int .i64 t.at_, .int .i64 t.turn, .int .i64 t.key] 71)) wr.heap.size 71 (0, 0) [.int .i64 t.at_, .int .i64 t.turn, .int .i64 t.key] := Blk.new wr 71 (0, 0) #[.int .i64 t.at_, .int .i64 t.turn, .int .i64 t.key]
      have hb1 : Below w.heap.size w (wr.alloc (.cells #[.int .i64 t.at_, .int .i64 t.turn, .int .i64 t.key] 71)) := hb.alloc hbz _
      by_cases he : t.key = key
      · rw [if_pos he] at hsn
        have hss := Lib.hid hsn
        clear hsn hT
        go_wp2_with fail
        go_roundw
        case rel => exact ⟨k + 1, by omega, by go_num, by rw [hss.out]; exact hOO.out.ext ((Below.refl _ _).alloc (Nat.le_refl _) _), by rw [← he]; exact hb1⟩
        case measure => simp [intOf]; omega
      · rw [if_neg he] at hsn
        have hss := Lib.hid hsn
        clear hsn hT
        have hO2 := Lib.hid ((hOO.out.ext ((Below.refl _ _).alloc (Nat.le_refl _) (.cells #[.int .i64 t.at_, .int .i64 t.turn, .int .i64 t.key] 71))).ext ((Below.refl _ _).alloc (Nat.le_refl _) (.cells #[.int .i64 t.at_, .int .i64 t.turn, .int .i64 t.key] 71)))
        have hS0 := (src_lit (P := Try.prog) (E := timerE) (w := wr.alloc (.cells #[.int .i64 t.at_, .int .i64 t.turn, .int .i64 t.key] 71)) (e' := 71) Try.underlying56 #[.int .i64 t.at_, .int .i64 t.turn, .int .i64 t.key] [t] 1 rfl rfl)
        rw [World.size_alloc] at hS0
        have hS := Lib.hid hS0
        clear hS0
        go_wp2_with (at_builtin; refine app_own (E := timerE) rfl (.tmp 24) (.tmp 26) 56 56 rfl Try.underlying56 hi hz0 hz1 hz2 rfl rfl hO2.out rfl hS.out ?c1 ?c2 ?c3 ?_)
        case c1 => have := hkl.out; simp [maxLen]; omega
        case c2 => have := hkl.out; simp; omega
        case c3 => simp; omega
        intro v' w2 ho2 hg2 _
        obtain ⟨a4, c4, rfl⟩ := ho2.shape
        have ho3 := Lib.hid ho2
        clear ho2
        go_wp2_with fail
        go_roundw
        case rel => exact ⟨k + 1, by omega, by go_num, by rw [hss.out]; simpa using ho3.out, own_below (hb1.alloc (by simp; omega) _) hg2 hO2.out (by simp; omega) (Nat.le_refl _)⟩
        case measure => simp [intOf]; omega
    · have hkk : k = l.length := by omega
      subst hkk
      rw [List.take_length] at hOO ⊢
      have hcw := cell_below hb c2
      have hB1 : Blk wr c 58 (0, 0) [.int .i64 now, .int .i64 T, .slice a l.length cap, .bool true] := (hb.block c hcl).trans hH.out.blk
      have hf2 : wr.frozen? ⟨c, 2, none⟩ = false := by rw [hB1.frozen]; simp
      have hOk := Lib.hid (hOO.out.mono (base' := c + 1) (by omega))
      have hO5 : HO (wr.setCell ⟨c, 2, none⟩ (.slice a2 (keptL key l).length cap2)) c (.int .i64 now) (.int .i64 T) (.slice a2 (keptL key l).length cap2) (.bool true) (keptL key l) :=
        ⟨hB1.set 2 _, hOk.out.keep fun k hk => Below.heap_setCell _ _ _ _ (fun e => by have := (hOO.out.lt k hk).1; simp at e; omega)⟩
      have hOl := Lib.hid (hOO.out.lt)
      have hO6 := Lib.hid hO5
      have hin := Lib.hid (hinit_any hO5 (by omega))
      have hTn : Hid (Tn w (wr.setCell ⟨c, 2, none⟩ (.slice a2 (keptL key l).length cap2)) c (Value.slice a l.length cap).ownBlock) :=
        Lib.hid ((show Tn w wr c (Value.slice a l.length cap).ownBlock from ⟨hb.os, hb.tape, hb.output, hb.size, fun k hk _ _ => hb.block k hk⟩).trans (Tn.of_grown_c (grown_set _ _ _ _)) (.inl rfl))
      clear hO5 hB1
      unfold ifc at hin
      have hkl : (keptL key l).length ≤ 1000 := by omega
      generalize hK0 : keptL key l = K at *
      have hK := Lib.hid hK0
      clear hK0
      go_wp2_with (go_at_call 35; refine hin.out.mono ?_; rintro e w5 ⟨rfl, hO7, hT7⟩)
      go_ret
      have hN : Newer w (Value.slice a l.length cap).ownBlock (Value.slice a2 K.length cap2).ownBlock := fun k hk => .inr (hOl.out k hk).1
      rw [hK.out]
      exact ⟨by apply ret_int; omega, _, ⟨T, _, _, hO7, hD.out, rfl, t0, t1, hF.out⟩, hTn.out.trans2 hT7 hN, hN⟩
end Go.Proofs.Ytckimjmidbdalaa
