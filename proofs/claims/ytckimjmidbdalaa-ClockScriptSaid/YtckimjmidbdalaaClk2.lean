/- Layer 22: the clock's calls: Add, Pop, Drop. -/
import Derived.Test.YtckimjmidbdalaaClk
import Derived.Deep.RegionWith
namespace Go.Proofs.Ytckimjmidbdalaa
open Go.RowKit
set_option maxHeartbeats 2000000 in
set_option maxRecDepth 100000 in
theorem clk_add_no {w : World} {c : Nat} {o : Option Nat} {now : Int} {L : List Tk} {m : Nat} (h : Clk w c o now L m) (at_ key : Int) (hn : at_ < 0 ∨ mx < at_) : Calls Try.prog 18 #[.pointer (some ⟨c, 0, none⟩), .int .i64 at_, .int .i64 key] w fun e w' => e = .returned (.int .i64 2) ∧ w = w' := by
  obtain ⟨T, v, l, h, _⟩ := h
  have hH := Lib.hid h
  clear h
  unfold mx at hn
  by_cases h1 : at_ < 0
  · clear hn
    go_enter Try.func18, Try.ntmps18
    go_wp2_with (go_at_call 27; refine (none_any hH.out).mono ?_; rintro e w1 ⟨rfl, rfl⟩)
    all_goals go_ret
    all_goals exact ⟨rfl, rfl⟩
  · have h2 : 1099511627776 < at_ := by omega
    clear hn
    go_enter Try.func18, Try.ntmps18
    go_wp2_with (go_at_call 27; refine (none_any hH.out).mono ?_; rintro e w1 ⟨rfl, rfl⟩)
    all_goals go_ret
    all_goals exact ⟨rfl, rfl⟩
set_option maxHeartbeats 4000000 in
set_option maxRecDepth 100000 in
theorem clk_add_yes {w : World} {c : Nat} {o : Option Nat} {now : Int} {L : List Tk} {m : Nat} (h : Clk w c o now L m) (at_ key : Int) (h1 : 0 ≤ at_) (h2 : at_ ≤ mx) (hm : m ≤ 1000) :
    Calls Try.prog 18 #[.pointer (some ⟨c, 0, none⟩), .int .i64 at_, .int .i64 key] w fun e w' => e = .returned (.int .i64 0) ∧ ∃ o', Clk w' c o' now (L ++ [(at_, key)]) (m + 1) ∧ Tn w w' c o ∧ Newer w o o' := by
  obtain ⟨T, v, l, h, ht, rfl, t0, t1, lm⟩ := h
  obtain ⟨c0, c1, c2, c3⟩ := h.cell
  have f1 := h.unfrozen 1
  obtain ⟨a, cap, rfl⟩ := h.own.shape
  have hll := ht.length
  have hl6 : decide ((65536 : Int) ≤ l.length) = false := decide_eq_false (by omega)
  have hl7 : Hid (l.length ≤ 1000) := Lib.hid (by omega)
  have hH := Lib.hid h
  have hne := h.ne
  clear h hll
  have hT := Lib.hid ht
  clear ht
  unfold mx at h2
  have hR : HO (w.setCell ⟨c, 1, none⟩ (.int .i64 (T + 1))) c (.int .i64 now) (.int .i64 (T + 1)) (.slice a l.length cap) (.bool true) l :=
    ⟨hH.out.blk.set 1 _, hH.out.own.keep fun k hk => Below.heap_setCell _ _ _ _ (fun e => hne (by rw [hk, e]))⟩
  have hTn : Tn w (w.setCell ⟨c, 1, none⟩ (.int .i64 (T + 1))) c (Value.slice a l.length cap).ownBlock := Tn.of_grown_c (grown_set _ _ _ _)
  have hTT := Lib.hid hTn
  have hsz : (w.setCell ⟨c, 1, none⟩ (.int .i64 (T + 1))).heap.size = w.heap.size := by simp
  obtain ⟨d0, d1, d2, d3⟩ := hR.cell
  have hRR := Lib.hid hR
  clear hR hTn
  have ew : IntKind.i64.wrap (T + 1) = T + 1 := IntWalk.i64_in _ (by omega)
  generalize hW0 : w.setCell ⟨c, 1, none⟩ (.int .i64 (T + 1)) = w1 at *
  have hW := Lib.hid hW0
  clear hW0
  go_enter Try.func18, Try.ntmps18
  go_wp2_with (go_at_call 27; refine (none_any hH.out).mono ?_; rintro e w9 ⟨rfl, rfl⟩)
  rw [hW.out]
  go_region_with (go_at_call 28; refine (hpush_any (hRR.out.drewN 1) ⟨at_, T + 1, key⟩ (by have := hl7.out; omega)).mono ?_; rintro e w3 ⟨rfl, v', hO3, hT3, hv3⟩)
  go_wp2_with fail
  go_ret
  refine ⟨rfl, _, ⟨T + 1, v', _, hO3, hT.out.push at_ key, rfl, by omega, by omega, by simp; omega⟩, hTT.out.trans ⟨hT3.os, hT3.tape, hT3.output, hT3.size, hT3.block⟩ (.inl rfl), ?_⟩
  intro j hj
  rcases hv3 with e | ⟨k, e1, e2⟩
  · exact .inl (e ▸ hj)
  · rw [e1] at hj; cases hj; exact .inr (by simpa [hsz] using e2)
theorem m_field2 (x y z : Int) (w : World) : (Instr.field 71 (.agg #[.int .i64 x, .int .i64 y, .int .i64 z]) 2).run Try.prog w = .ok (.int .i64 z) w := by kernel_rfl
/-- what Pop tells -/
def popR (now : Int) (L : List Tk) : Int × Bool := match first L with
  | none => (0, false)
  | some i => if now < (L.getD i (0, 0)).1 then (0, false) else ((L.getD i (0, 0)).2, true)
def popT (now : Int) (L : List Tk) : List Tk := match first L with
  | none => L
  | some i => if now < (L.getD i (0, 0)).1 then L else L.eraseIdx i
set_option maxHeartbeats 4000000 in
set_option maxRecDepth 100000 in
theorem clk_pop {w : World} {c : Nat} {o : Option Nat} {now : Int} {L : List Tk} {m : Nat} (h : Clk w c o now L m) (hm : m ≤ 1000) :
    Calls Try.prog 22 #[.pointer (some ⟨c, 0, none⟩)] w fun e w' => e = .returned (.tuple #[.int .i64 (popR now L).1, .bool (popR now L).2]) ∧ Clk w' c o now (popT now L) m ∧ Tn w w' c o := by
  have hn := clk_next h
  obtain ⟨T, v, l, h, ht, rfl, t0, t1, lm⟩ := h
  obtain ⟨c0, c1, c2, c3⟩ := h.cell
  have hll := ht.length
  have hH := Lib.hid h
  have hT := Lib.hid ht
  by_cases h0 : 0 < L.length
  · obtain ⟨i, e1, e2, e3, e4⟩ := ht.root h0
    have hl0 : 0 < l.length := by omega
    have hl1 : l.length ≤ 1000 := by omega
    have en : nxt L = ((gt l 0).at_, true) := by unfold nxt; rw [e1]; simp only; rw [← e3]; rfl
    have er : (L.getD i (0, 0)).1 = (gt l 0).at_ := by rw [← e3]; rfl
    have ek : (L.getD i (0, 0)).2 = (gt l 0).key := by rw [← e3]; rfl
    have e5 := Lib.hid e4
    rw [en] at hn
    by_cases hlt : now < (gt l 0).at_
    · have p1 : popR now L = (0, false) := by unfold popR; rw [e1]; simp only; rw [er, if_pos hlt]
      have p2 : popT now L = L := by unfold popT; rw [e1]; simp only; rw [er, if_pos hlt]
      rw [p1, p2]
      clear h ht e1 e2 e3 e4 en er ek hll e5 p1 p2
      generalize gt l 0 = t at *
      go_enter Try.func22, Try.ntmps22
      go_wp2_with (go_at_call 20; refine hn.mono ?_; rintro e w1 ⟨rfl, rfl⟩)
      go_ret2
      exact ⟨rfl, ⟨T, v, l, hH.out, hT.out, rfl, t0, t1, lm⟩, Tn.refl _ _ _⟩
    · have p1 : popR now L = ((gt l 0).key, true) := by unfold popR; rw [e1]; simp only; rw [er, if_neg hlt, ek]
      have p2 : popT now L = L.eraseIdx i := by unfold popT; rw [e1]; simp only; rw [er, if_neg hlt]
      rw [p1, p2]
      have hpp := fun w' => m_assert (.agg #[.int .i64 (gt l 0).at_, .int .i64 (gt l 0).turn, .int .i64 (gt l 0).key]) w'
      have hfld := fun w' => m_field2 (gt l 0).at_ (gt l 0).turn (gt l 0).key w'
      have hpop := Lib.hid (hpop_any h hl0 (by omega))
      have hlen : Hid ((L.eraseIdx i).length ≤ m) := Lib.hid (by rw [List.length_eraseIdx]; split <;> omega)
      unfold ifc tmV at hpop
      clear h ht e1 e2 e3 e4 en er ek hll p1 p2 hl0 hl1
      generalize gt l 0 = t at *
      go_enter Try.func22, Try.ntmps22
      go_wp2_with (first | (go_at_call 20; refine hn.mono ?_; rintro e w1 ⟨rfl, rfl⟩) | (go_at_call 29; refine hpop.out.mono ?_; rintro e w2 ⟨rfl, v', hO2, hT2, hv2⟩))
      go_ret2
      exact ⟨rfl, ⟨T, v', _, hO2, e5.out, hv2, t0, t1, hlen.out⟩, hT2⟩
  · have hL : L = [] := List.eq_nil_of_length_eq_zero (by omega)
    subst hL
    have en : nxt [] = (0, false) := rfl
    have p1 : popR now [] = (0, false) := rfl
    have p2 : popT now [] = [] := rfl
    rw [en] at hn
    rw [p1, p2]
    clear h ht hll en p1 p2
    go_enter Try.func22, Try.ntmps22
    go_wp2_with (go_at_call 20; refine hn.mono ?_; rintro e w1 ⟨rfl, rfl⟩)
    go_ret2
    exact ⟨rfl, ⟨T, v, l, hH.out, hT.out, rfl, t0, t1, lm⟩, Tn.refl _ _ _⟩
end Go.Proofs.Ytckimjmidbdalaa
