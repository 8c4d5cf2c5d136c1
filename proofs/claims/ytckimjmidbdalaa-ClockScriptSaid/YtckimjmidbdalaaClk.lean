/- Layer 22: the clock's calls. -/
import Derived.Test.YtckimjmidbdalaaHs
namespace Go.Proofs.Ytckimjmidbdalaa
open Go.RowKit
/-- block c is a clock with this time and these timers; its timers lie in block o; m: as many as were ever set -/
structure Clk (w : World) (c : Nat) (o : Option Nat) (now : Int) (L : List Tk) (m : Nat) : Prop where
  ex : ∃ T v l, HO w c (.int .i64 now) (.int .i64 T) v (.bool true) l ∧ Timers l T L ∧ v.ownBlock = o ∧ 0 ≤ T ∧ T ≤ m ∧ L.length ≤ m
theorem Clk.lt {w : World} {c : Nat} {o : Option Nat} {now : Int} {L : List Tk} {m : Nat} (h : Clk w c o now L m) : c < w.heap.size := by obtain ⟨T, v, l, h, _⟩ := h; exact h.lt
theorem Clk.own {w : World} {c : Nat} {o : Option Nat} {now : Int} {L : List Tk} {m : Nat} (h : Clk w c o now L m) : ∀ k, o = some k → c < k ∧ k < w.heap.size := by
  obtain ⟨T, v, l, h, _, rfl, _⟩ := h
  intro k hk
  have := h.own.lt k hk; omega
theorem Clk.keep {w w' : World} {c : Nat} {o : Option Nat} {now : Int} {L : List Tk} {m : Nat} (h : Clk w c o now L m) (h1 : w'.heap[c]? = w.heap[c]?) (h2 : ∀ k, o = some k → w'.heap[k]? = w.heap[k]?) : Clk w' c o now L m := by
  obtain ⟨T, v, l, h, r1, rfl, r⟩ := h
  exact ⟨T, v, l, h.keep h1 h2, r1, rfl, r⟩
theorem Clk.len {w : World} {c : Nat} {o : Option Nat} {now : Int} {L : List Tk} {m : Nat} (h : Clk w c o now L m) : L.length ≤ m := by obtain ⟨T, v, l, _, _, _, _, _, h⟩ := h; exact h
/-- o' is o, or a block that is new -/
def Newer (w : World) (o o' : Option Nat) : Prop := ∀ k, o' = some k → o = some k ∨ w.heap.size ≤ k

theorem clk_new {w : World} : Calls Try.prog 17 #[] w fun e w' => e = .returned (.pointer (some ⟨w.heap.size, 0, none⟩)) ∧ Clk w' w.heap.size none 0 [] 0 ∧ Below w.heap.size w w' := by
  go_enter Try.func17, Try.ntmps17
  go_wp2
  go_ret
  refine ⟨rfl, ⟨0, .slice none 0 0, [], ⟨Blk.new w 58 (0, 0) #[.int .i64 0, .int .i64 0, .slice none 0 0, .bool true], Own.nil _ _ _⟩, Timers.nil 0, rfl, Int.le_refl _, Int.le_refl _, Nat.le_refl _⟩, (Below.refl _ w).alloc (Nat.le_refl _) _⟩
set_option maxHeartbeats 2000000 in
theorem none_any {w : World} {c : Nat} {n T v : Value} {l : List Tm} (h : HO w c n T v (.bool true) l) : Calls Try.prog 27 #[.pointer (some ⟨c, 0, none⟩)] w fun e w' => e = .returned (.bool false) ∧ w = w' := by
  obtain ⟨_, _, _, c3⟩ := h.cell
  clear h
  go_enter Try.func27, Try.ntmps27
  go_wp2
  go_ret
  exact ⟨rfl, rfl⟩
set_option maxHeartbeats 2000000 in
theorem clk_now {w : World} {c : Nat} {o : Option Nat} {now : Int} {L : List Tk} {m : Nat} (h : Clk w c o now L m) : Calls Try.prog 21 #[.pointer (some ⟨c, 0, none⟩)] w fun e w' => e = .returned (.int .i64 now) ∧ w = w' := by
  obtain ⟨T, v, l, h, _⟩ := h
  obtain ⟨c0, c1, c2, c3⟩ := h.cell
  have hH := Lib.hid h
  clear h
  go_enter Try.func21, Try.ntmps21
  go_wp2_with (go_at_call 27; refine (none_any hH.out).mono ?_; rintro e w1 ⟨rfl, rfl⟩)
  go_ret
  exact ⟨rfl, rfl⟩
set_option maxHeartbeats 2000000 in
theorem clk_len {w : World} {c : Nat} {o : Option Nat} {now : Int} {L : List Tk} {m : Nat} (h : Clk w c o now L m) : Calls Try.prog 19 #[.pointer (some ⟨c, 0, none⟩)] w fun e w' => e = .returned (.int .i64 L.length) ∧ w = w' := by
  obtain ⟨T, v, l, h, ht, _⟩ := h
  obtain ⟨c0, c1, c2, c3⟩ := h.cell
  obtain ⟨a, cap, rfl⟩ := h.own.shape
  have hH := Lib.hid h
  clear h
  rw [← ht.length]
  clear ht
  go_enter Try.func19, Try.ntmps19
  go_wp2_with (go_at_call 27; refine (none_any hH.out).mono ?_; rintro e w1 ⟨rfl, rfl⟩)
  go_ret
  exact ⟨rfl, rfl⟩
/-- what Next tells -/
def nxt (L : List Tk) : Int × Bool := match first L with
  | none => (0, false)
  | some i => ((L.getD i (0, 0)).1, true)
set_option maxHeartbeats 2000000 in
set_option maxRecDepth 100000 in
theorem clk_next {w : World} {c : Nat} {o : Option Nat} {now : Int} {L : List Tk} {m : Nat} (h : Clk w c o now L m) : Calls Try.prog 20 #[.pointer (some ⟨c, 0, none⟩)] w fun e w' => e = .returned (.tuple #[.int .i64 (nxt L).1, .bool (nxt L).2]) ∧ w = w' := by
  obtain ⟨T, v, l, h, ht, _⟩ := h
  obtain ⟨c0, c1, c2, c3⟩ := h.cell
  have hll := ht.length
  by_cases h0 : 0 < l.length
  · obtain ⟨g, cap, rfl, hbg, hT⟩ := own_tl h.own h0
    obtain ⟨q1, _, _⟩ := hT.cells 0 h0
    obtain ⟨i, e1, e2, e3, _⟩ := ht.root (by omega)
    have e4 : nxt L = ((gt l 0).at_, true) := by unfold nxt; rw [e1]; simp only; rw [← e3]; rfl
    rw [e4]
    simp only [Nat.zero_mul] at q1
    have hcap : l.length ≤ cap := by obtain ⟨X, _, _, h, _⟩ := hT; exact h
    have hH := Lib.hid h
    clear h hT ht e1 e2 e3 e4 hll
    generalize gt l 0 = t at *
    go_enter Try.func20, Try.ntmps20
    go_wp2_with (go_at_call 27; refine (none_any hH.out).mono ?_; rintro e w1 ⟨rfl, rfl⟩)
    go_ret2
    exact ⟨rfl, rfl⟩
  · obtain ⟨a, cap, rfl⟩ := h.own.shape
    have hl0 : l.length = 0 := by omega
    have hL : L = [] := List.eq_nil_of_length_eq_zero (by omega)
    subst hL
    have e4 : nxt [] = (0, false) := rfl
    rw [e4]
    rw [hl0] at c2
    have hH := Lib.hid h
    clear h ht
    go_enter Try.func20, Try.ntmps20
    go_wp2_with (go_at_call 27; refine (none_any hH.out).mono ?_; rintro e w1 ⟨rfl, rfl⟩)
    go_ret2
    exact ⟨rfl, rfl⟩
def mx : Int := 1099511627776
set_option maxHeartbeats 2000000 in
theorem clk_go_no {w : World} {c : Nat} {o : Option Nat} {now : Int} {L : List Tk} {m : Nat} (h : Clk w c o now L m) (to : Int) (hn : to < now ∨ mx < to) : Calls Try.prog 23 #[.pointer (some ⟨c, 0, none⟩), .int .i64 to] w fun e w' => e = .returned (.int .i64 2) ∧ w = w' := by
  obtain ⟨T, v, l, h, _⟩ := h
  obtain ⟨c0, c1, c2, c3⟩ := h.cell
  have hH := Lib.hid h
  clear h
  unfold mx at hn
  by_cases h1 : to < now
  · clear hn
    go_enter Try.func23, Try.ntmps23
    go_wp2_with (go_at_call 27; refine (none_any hH.out).mono ?_; rintro e w1 ⟨rfl, rfl⟩)
    all_goals go_ret
    all_goals exact ⟨rfl, rfl⟩
  · have h2 : 1099511627776 < to := by omega
    clear hn
    go_enter Try.func23, Try.ntmps23
    go_wp2_with (go_at_call 27; refine (none_any hH.out).mono ?_; rintro e w1 ⟨rfl, rfl⟩)
    all_goals go_ret
    all_goals exact ⟨rfl, rfl⟩
set_option maxHeartbeats 2000000 in
theorem clk_go_yes {w : World} {c : Nat} {o : Option Nat} {now : Int} {L : List Tk} {m : Nat} (h : Clk w c o now L m) (to : Int) (h1 : now ≤ to) (h2 : to ≤ mx) :
    Calls Try.prog 23 #[.pointer (some ⟨c, 0, none⟩), .int .i64 to] w fun e w' => e = .returned (.int .i64 0) ∧ Clk w' c o to L m ∧ Tn w w' c o := by
  obtain ⟨T, v, l, h, ht, rfl, r⟩ := h
  obtain ⟨c0, c1, c2, c3⟩ := h.cell
  have f0 := h.unfrozen 0
  have hH := Lib.hid h
  have hne := h.ne
  clear h
  unfold mx at h2
  have hR : Hid (HO (w.setCell ⟨c, 0, none⟩ (.int .i64 to)) c (.int .i64 to) (.int .i64 T) v (.bool true) l) :=
    Lib.hid ⟨hH.out.blk.set 0 _, hH.out.own.keep fun k hk => Below.heap_setCell _ _ _ _ (fun e => hne (by rw [hk, e]))⟩
  go_enter Try.func23, Try.ntmps23
  go_wp2_with (go_at_call 27; refine (none_any hH.out).mono ?_; rintro e w1 ⟨rfl, rfl⟩)
  go_ret
  exact ⟨rfl, ⟨T, v, l, hR.out, ht, rfl, r⟩, Tn.of_grown_c (grown_set _ _ _ _)⟩
end Go.Proofs.Ytckimjmidbdalaa
