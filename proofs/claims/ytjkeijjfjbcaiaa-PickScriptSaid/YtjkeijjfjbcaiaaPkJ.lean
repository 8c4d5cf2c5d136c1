/- Pickers that are none; arguments that are refused. -/
import Derived.Test.YtjkeijjfjbcaiaaPkI
namespace Go.Proofs.Ytjkeijjfjbcaiaa
open Go.RowKit
theorem good_nil {w : World} (a trip now : Int) : Calls Try.prog 18 #[.pointer none, .int .u32 a, .int .i64 trip, .int .i64 now] w fun e w' => e = .returned (.int .i64 1) ∧ w = w' := by
  go_enter Try.func18, Try.ntmps18
  go_wp2_with fail
  refine (none_nil _).mono ?_
  rintro e w1 ⟨rfl, rfl⟩
  go_wp2_with fail
  go_ret
  exact ⟨rfl, rfl⟩
theorem bad_nil {w : World} (a now : Int) : Calls Try.prog 19 #[.pointer none, .int .u32 a, .int .i64 now] w fun e w' => e = .returned (.int .i64 1) ∧ w = w' := by
  go_enter Try.func19, Try.ntmps19
  go_wp2_with fail
  refine (check_nil now _).mono ?_
  rintro e w1 ⟨rfl, rfl⟩
  go_wp2_with fail
  go_ret
  exact ⟨rfl, rfl⟩
theorem lame_nil {w : World} (a now : Int) : Calls Try.prog 20 #[.pointer none, .int .u32 a, .int .i64 now] w fun e w' => e = .returned (.int .i64 1) ∧ w = w' := by
  go_enter Try.func20, Try.ntmps20
  go_wp2_with fail
  refine (check_nil now _).mono ?_
  rintro e w1 ⟨rfl, rfl⟩
  go_wp2_with fail
  go_ret
  exact ⟨rfl, rfl⟩
theorem wait_nil {w : World} (a : Int) : Calls Try.prog 21 #[.pointer none, .int .u32 a] w fun e w' => e = .returned (.int .i64 0) ∧ w = w' := by
  go_enter Try.func21, Try.ntmps21
  go_wp2_with fail
  refine (none_nil _).mono ?_
  rintro e w1 ⟨rfl, rfl⟩
  go_wp2_with fail
  go_ret
  exact ⟨rfl, rfl⟩
theorem known_nil {w : World} : Calls Try.prog 12 #[.pointer none] w fun e w' => e = .returned (.slice none 0 0) ∧ w = w' := by
  go_enter Try.func12, Try.ntmps12
  go_wp2_with fail
  refine (none_nil _).mono ?_
  rintro e w1 ⟨rfl, rfl⟩
  go_wp2_with fail
  go_ret
  exact ⟨rfl, rfl⟩
theorem choose_nil {w : World} (a : Option Addr) (n c : Nat) (now : Int) : Calls Try.prog 11 #[.pointer none, .slice a n c, .int .i64 now] w fun e w' => e = .returned (.tuple #[.int .u32 0, .bool false]) ∧ Below w.heap.size w w' := by
  have hb0 := below_al2 w (.cells #[.pointer none] 25) (.cells #[.int .i64 now] 3)
  have hb0' := Lib.hid hb0
  clear hb0
  go_enter Try.func11, Try.ntmps11
  go_wp2_with fail
  refine (none_nil _).mono ?_
  rintro e w1 ⟨rfl, rfl⟩
  go_wp2_with fail
  go_ret2
  exact ⟨rfl, hb0'.out⟩
theorem good_zero {w : World} {p : Nat} (h : w.cell? ⟨p, 0, none⟩ = some (.int .i64 0)) (a trip now : Int) : Calls Try.prog 18 #[.pointer (some ⟨p, 0, none⟩), .int .u32 a, .int .i64 trip, .int .i64 now] w fun e w' => e = .returned (.int .i64 1) ∧ w = w' := by
  go_enter Try.func18, Try.ntmps18
  go_wp2_with fail
  refine (none_zero h).mono ?_
  rintro e w1 ⟨rfl, rfl⟩
  go_wp2_with fail
  go_ret
  exact ⟨rfl, rfl⟩
theorem bad_zero {w : World} {p : Nat} (h : w.cell? ⟨p, 0, none⟩ = some (.int .i64 0)) (a now : Int) : Calls Try.prog 19 #[.pointer (some ⟨p, 0, none⟩), .int .u32 a, .int .i64 now] w fun e w' => e = .returned (.int .i64 1) ∧ w = w' := by
  go_enter Try.func19, Try.ntmps19
  go_wp2_with fail
  refine (check_zero h now).mono ?_
  rintro e w1 ⟨rfl, rfl⟩
  go_wp2_with fail
  go_ret
  exact ⟨rfl, rfl⟩
theorem lame_zero {w : World} {p : Nat} (h : w.cell? ⟨p, 0, none⟩ = some (.int .i64 0)) (a now : Int) : Calls Try.prog 20 #[.pointer (some ⟨p, 0, none⟩), .int .u32 a, .int .i64 now] w fun e w' => e = .returned (.int .i64 1) ∧ w = w' := by
  go_enter Try.func20, Try.ntmps20
  go_wp2_with fail
  refine (check_zero h now).mono ?_
  rintro e w1 ⟨rfl, rfl⟩
  go_wp2_with fail
  go_ret
  exact ⟨rfl, rfl⟩
theorem wait_zero {w : World} {p : Nat} (h : w.cell? ⟨p, 0, none⟩ = some (.int .i64 0)) (a : Int) : Calls Try.prog 21 #[.pointer (some ⟨p, 0, none⟩), .int .u32 a] w fun e w' => e = .returned (.int .i64 0) ∧ w = w' := by
  go_enter Try.func21, Try.ntmps21
  go_wp2_with fail
  refine (none_zero h).mono ?_
  rintro e w1 ⟨rfl, rfl⟩
  go_wp2_with fail
  go_ret
  exact ⟨rfl, rfl⟩
theorem known_zero {w : World} {p : Nat} (h : w.cell? ⟨p, 0, none⟩ = some (.int .i64 0)) : Calls Try.prog 12 #[.pointer (some ⟨p, 0, none⟩)] w fun e w' => e = .returned (.slice none 0 0) ∧ w = w' := by
  go_enter Try.func12, Try.ntmps12
  go_wp2_with fail
  refine (none_zero h).mono ?_
  rintro e w1 ⟨rfl, rfl⟩
  go_wp2_with fail
  go_ret
  exact ⟨rfl, rfl⟩
theorem choose_zero {w : World} {p : Nat} (h : w.cell? ⟨p, 0, none⟩ = some (.int .i64 0)) (a : Option Addr) (n c : Nat) (now : Int) : Calls Try.prog 11 #[.pointer (some ⟨p, 0, none⟩), .slice a n c, .int .i64 now] w fun e w' => e = .returned (.tuple #[.int .u32 0, .bool false]) ∧ Below w.heap.size w w' := by
  have hb0 := below_al2 w (.cells #[.pointer (some ⟨p, 0, none⟩)] 25) (.cells #[.int .i64 now] 3)
  have hz := (World.cell?_of_block (w := w) (hb0.block p (World.block_lt_of_cell? w _ h))).trans h
  have hb0' := Lib.hid hb0
  clear hb0
  go_enter Try.func11, Try.ntmps11
  go_wp2_with fail
  refine (none_zero hz).mono ?_
  rintro e w1 ⟨rfl, rfl⟩
  go_wp2_with fail
  go_ret2
  exact ⟨rfl, hb0'.out⟩
theorem good_no {w : World} {p : Nat} {room : Int} (h : w.cell? ⟨p, 0, none⟩ = some (.int .i64 room)) (h1 : 1 ≤ room) (a trip now : Int) (hb : trip < 0 ∨ momB now = false) :
    Calls Try.prog 18 #[.pointer (some ⟨p, 0, none⟩), .int .u32 a, .int .i64 trip, .int .i64 now] w fun e w' => e = .returned (.int .i64 2) ∧ w = w' := by
  have hc := check34 h h1 now
  cases hm : momB now
  · rw [hm, if_neg (by decide)] at hc
    have hc' := Lib.hid hc
    clear hc hb
    by_cases ht : trip < 0
    all_goals
      go_enter Try.func18, Try.ntmps18
      go_wp2_with fail
      refine (none_ok h h1).mono ?_
      rintro e w1 ⟨rfl, rfl⟩
      go_wp2_with fail
      refine hc'.out.mono ?_
      rintro e w1 ⟨rfl, rfl⟩
      go_wp2_with fail
      go_ret
      exact ⟨rfl, rfl⟩
  · rw [hm, if_pos rfl] at hc
    have hc' := Lib.hid hc
    have ht : trip < 0 := hb.resolve_right (by rw [hm]; decide)
    clear hc hb
    go_enter Try.func18, Try.ntmps18
    go_wp2_with fail
    refine (none_ok h h1).mono ?_
    rintro e w1 ⟨rfl, rfl⟩
    go_wp2_with fail
    refine hc'.out.mono ?_
    rintro e w1 ⟨rfl, rfl⟩
    go_wp2_with fail
    go_ret
    exact ⟨rfl, rfl⟩
theorem bad_no {w : World} {p : Nat} {room : Int} (h : w.cell? ⟨p, 0, none⟩ = some (.int .i64 room)) (h1 : 1 ≤ room) (a now : Int) (hm : momB now = false) :
    Calls Try.prog 19 #[.pointer (some ⟨p, 0, none⟩), .int .u32 a, .int .i64 now] w fun e w' => e = .returned (.int .i64 2) ∧ w = w' := by
  have hc := check34 h h1 now
  rw [hm, if_neg (by decide)] at hc
  have hc' := Lib.hid hc
  clear hc
  go_enter Try.func19, Try.ntmps19
  go_wp2_with fail
  refine hc'.out.mono ?_
  rintro e w1 ⟨rfl, rfl⟩
  go_wp2_with fail
  go_ret
  exact ⟨rfl, rfl⟩
theorem lame_no {w : World} {p : Nat} {room : Int} (h : w.cell? ⟨p, 0, none⟩ = some (.int .i64 room)) (h1 : 1 ≤ room) (a now : Int) (hm : momB now = false) :
    Calls Try.prog 20 #[.pointer (some ⟨p, 0, none⟩), .int .u32 a, .int .i64 now] w fun e w' => e = .returned (.int .i64 2) ∧ w = w' := by
  have hc := check34 h h1 now
  rw [hm, if_neg (by decide)] at hc
  have hc' := Lib.hid hc
  clear hc
  go_enter Try.func20, Try.ntmps20
  go_wp2_with fail
  refine hc'.out.mono ?_
  rintro e w1 ⟨rfl, rfl⟩
  go_wp2_with fail
  go_ret
  exact ⟨rfl, rfl⟩
end Go.Proofs.Ytjkeijjfjbcaiaa
