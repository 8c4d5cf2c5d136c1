/- Layer 22: clocks that are nil, or that nobody made. -/
import Derived.Test.YtckimjmidbdalaaAwk
namespace Go.Proofs.Ytckimjmidbdalaa
open Go.RowKit
/-- p is nil, or a clock that nobody made -/
def Dead (w : World) (p : Option Addr) : Prop := p = none ∨ ∃ c, p = some ⟨c, 0, none⟩ ∧ w.cell? ⟨c, 3, none⟩ = some (.bool false)
set_option maxHeartbeats 2000000 in
theorem none_dead {w : World} {p : Option Addr} (h : Dead w p) : Calls Try.prog 27 #[.pointer p] w fun e w' => e = .returned (.bool true) ∧ w = w' := by
  rcases h with rfl | ⟨c, rfl, h⟩
  · go_enter Try.func27, Try.ntmps27
    go_wp2
    go_ret
    exact ⟨rfl, rfl⟩
  · go_enter Try.func27, Try.ntmps27
    go_wp2
    go_ret
    exact ⟨rfl, rfl⟩
theorem dead_now {w : World} {p : Option Addr} (h : Dead w p) : Calls Try.prog 21 #[.pointer p] w fun e w' => e = .returned (.int .i64 0) ∧ w = w' := by
  have hH := Lib.hid h; clear h
  go_enter Try.func21, Try.ntmps21
  go_wp2_with (go_at_call 27; refine (none_dead hH.out).mono ?_; rintro e w1 ⟨rfl, rfl⟩)
  go_ret
  exact ⟨rfl, rfl⟩
theorem dead_len {w : World} {p : Option Addr} (h : Dead w p) : Calls Try.prog 19 #[.pointer p] w fun e w' => e = .returned (.int .i64 0) ∧ w = w' := by
  have hH := Lib.hid h; clear h
  go_enter Try.func19, Try.ntmps19
  go_wp2_with (go_at_call 27; refine (none_dead hH.out).mono ?_; rintro e w1 ⟨rfl, rfl⟩)
  go_ret
  exact ⟨rfl, rfl⟩
set_option maxHeartbeats 2000000 in
theorem dead_go {w : World} {p : Option Addr} (h : Dead w p) (to : Int) : Calls Try.prog 23 #[.pointer p, .int .i64 to] w fun e w' => e = .returned (.int .i64 1) ∧ w = w' := by
  have hH := Lib.hid h; clear h
  go_enter Try.func23, Try.ntmps23
  go_wp2_with (go_at_call 27; refine (none_dead hH.out).mono ?_; rintro e w1 ⟨rfl, rfl⟩)
  go_ret
  exact ⟨rfl, rfl⟩
set_option maxHeartbeats 2000000 in
theorem dead_add {w : World} {p : Option Addr} (h : Dead w p) (a k : Int) : Calls Try.prog 18 #[.pointer p, .int .i64 a, .int .i64 k] w fun e w' => e = .returned (.int .i64 1) ∧ w = w' := by
  have hH := Lib.hid h; clear h
  go_enter Try.func18, Try.ntmps18
  go_wp2_with (go_at_call 27; refine (none_dead hH.out).mono ?_; rintro e w1 ⟨rfl, rfl⟩)
  go_ret
  exact ⟨rfl, rfl⟩
set_option maxHeartbeats 2000000 in
theorem dead_drop {w : World} {p : Option Addr} (h : Dead w p) (k : Int) : Calls Try.prog 25 #[.pointer p, .int .i64 k] w fun e w' => e = .returned (.int .i64 0) ∧ w = w' := by
  have hH := Lib.hid h; clear h
  go_enter Try.func25, Try.ntmps25
  go_wp2_with (go_at_call 27; refine (none_dead hH.out).mono ?_; rintro e w1 ⟨rfl, rfl⟩)
  go_ret
  exact ⟨rfl, rfl⟩
set_option maxHeartbeats 2000000 in
theorem dead_next {w : World} {p : Option Addr} (h : Dead w p) : Calls Try.prog 20 #[.pointer p] w fun e w' => e = .returned (.tuple #[.int .i64 0, .bool false]) ∧ w = w' := by
  have hH := Lib.hid h; clear h
  go_enter Try.func20, Try.ntmps20
  go_wp2_with (go_at_call 27; refine (none_dead hH.out).mono ?_; rintro e w1 ⟨rfl, rfl⟩)
  go_ret2
  exact ⟨rfl, rfl⟩
set_option maxHeartbeats 2000000 in
theorem dead_pop {w : World} {p : Option Addr} (h : Dead w p) : Calls Try.prog 22 #[.pointer p] w fun e w' => e = .returned (.tuple #[.int .i64 0, .bool false]) ∧ w = w' := by
  have hH := Lib.hid h; clear h
  go_enter Try.func22, Try.ntmps22
  go_wp2_with (go_at_call 20; refine (dead_next hH.out).mono ?_; rintro e w1 ⟨rfl, rfl⟩)
  go_ret2
  exact ⟨rfl, rfl⟩
set_option maxHeartbeats 2000000 in
theorem nil_draw {w : World} (n : Int) : Calls Try.prog 12 #[.pointer none, .int .u64 n] w fun e w' => e = .returned (.int .u64 0) ∧ w = w' := by
  go_enter Try.func12, Try.ntmps12
  go_wp2
  go_ret
  exact ⟨rfl, rfl⟩
end Go.Proofs.Ytckimjmidbdalaa
