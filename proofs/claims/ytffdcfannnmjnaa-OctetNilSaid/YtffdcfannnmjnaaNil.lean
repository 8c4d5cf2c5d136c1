/- OctetNil: readers that are none. -/
import Derived.Test.YtffdcfannnmjnaaRdrC
namespace Go.Proofs.Ytffdcfannnmjnaa
open Go.RowKit
/-- v is no reader -/
def Non (v : Value) (w : World) : Prop := Calls Try.prog 111 #[v] w fun e w' => e = .returned (.bool true) ∧ w = w'
set_option maxRecDepth 100000 in
theorem non_nil (w : World) : Non (.pointer none) w := by
  unfold Non
  go_enter Try.func111, Try.ntmps111
  go_wp2
  go_ret
  exact ⟨rfl, rfl⟩
set_option maxRecDepth 100000 in
theorem non_new {w : World} {g : Nat} (h : Blk w g 74 (0, 0) [.slice none 0 0, .int .i64 0, .bool false, .bool false]) : Non (.pointer (some ⟨g, 0, none⟩)) w := by
  unfold Non
  have c3 : w.cell? ⟨g, 3, none⟩ = some (.bool false) := by rw [h.cell]; rfl
  clear h
  go_enter Try.func111, Try.ntmps111
  go_wp2
  go_ret
  exact ⟨rfl, rfl⟩
set_option maxHeartbeats 2000000 in
set_option maxRecDepth 100000 in
theorem non_take {v : Value} {w : World} (h : Non v w) (n : Int) : Calls Try.prog 113 #[v, .int .i64 n] w fun e w' => e = .returned (.slice none 0 0) ∧ w = w' := by
  have hH := Lib.hid h; clear h
  go_enter Try.func113, Try.ntmps113
  go_wp2_with (go_at_call 111; refine (hH.out).mono ?_; rintro e w1 ⟨rfl, rfl⟩)
  go_wp2
  go_ret
  exact ⟨rfl, rfl⟩
set_option maxHeartbeats 2000000 in
set_option maxRecDepth 100000 in
theorem non_number {v : Value} {w : World} (h : Non v w) (k : Nat) (hk : k ≤ 4) (h1 : 1 ≤ k) (n : Int) (hn : n = k) : Calls Try.prog 112 #[v, .int .i64 n] w fun e w' => e = .returned (.int .u32 0) ∧ w = w' := by
  subst hn
  have hH := Lib.hid h; clear h
  go_enter Try.func112, Try.ntmps112
  go_wp2_with (go_at_call 113; refine (non_take hH.out _).mono ?_; rintro e w1 ⟨rfl, rfl⟩)
  go_wp2_with (go_at_call 100; refine (number_no (a := none) (n := 0) (c := 0) 0 k ⟨by omega, by omega⟩ hk (by omega)).mono ?_; rintro e w1 ⟨rfl, rfl⟩)
  go_wp2
  go_ret
  exact ⟨rfl, rfl⟩
set_option maxHeartbeats 2000000 in
set_option maxRecDepth 100000 in
theorem non_byte {v : Value} {w : World} (h : Non v w) : Calls Try.prog 52 #[v] w fun e w' => e = .returned (.int .i64 0) ∧ w = w' := by
  have hH := Lib.hid h; clear h
  go_enter Try.func52, Try.ntmps52
  go_wp2_with (go_at_call 112; refine (non_number hH.out 1 (by omega) (by omega) 1 rfl).mono ?_; rintro e w1 ⟨rfl, rfl⟩)
  go_wp2
  go_ret
  exact ⟨rfl, rfl⟩
set_option maxHeartbeats 2000000 in
set_option maxRecDepth 100000 in
theorem non_u16 {v : Value} {w : World} (h : Non v w) : Calls Try.prog 53 #[v] w fun e w' => e = .returned (.int .i64 0) ∧ w = w' := by
  have hH := Lib.hid h; clear h
  go_enter Try.func53, Try.ntmps53
  go_wp2_with (go_at_call 112; refine (non_number hH.out 2 (by omega) (by omega) 2 rfl).mono ?_; rintro e w1 ⟨rfl, rfl⟩)
  go_wp2
  go_ret
  exact ⟨rfl, rfl⟩
set_option maxHeartbeats 2000000 in
set_option maxRecDepth 100000 in
theorem non_u32 {v : Value} {w : World} (h : Non v w) : Calls Try.prog 54 #[v] w fun e w' => e = .returned (.int .u32 0) ∧ w = w' := by
  have hH := Lib.hid h; clear h
  go_enter Try.func54, Try.ntmps54
  go_wp2_with (go_at_call 112; refine (non_number hH.out 4 (by omega) (by omega) 4 rfl).mono ?_; rintro e w1 ⟨rfl, rfl⟩)
  go_wp2
  go_ret
  exact ⟨rfl, rfl⟩
set_option maxHeartbeats 2000000 in
set_option maxRecDepth 100000 in
theorem non_at {v : Value} {w : World} (h : Non v w) : Calls Try.prog 56 #[v] w fun e w' => e = .returned (.int .i64 0) ∧ w = w' := by
  have hH := Lib.hid h; clear h
  go_enter Try.func56, Try.ntmps56
  go_wp2_with (go_at_call 111; refine (hH.out).mono ?_; rintro e w1 ⟨rfl, rfl⟩)
  go_wp2
  go_ret
  exact ⟨rfl, rfl⟩
set_option maxHeartbeats 2000000 in
set_option maxRecDepth 100000 in
theorem non_left {v : Value} {w : World} (h : Non v w) : Calls Try.prog 57 #[v] w fun e w' => e = .returned (.int .i64 0) ∧ w = w' := by
  have hH := Lib.hid h; clear h
  go_enter Try.func57, Try.ntmps57
  go_wp2_with (go_at_call 111; refine (hH.out).mono ?_; rintro e w1 ⟨rfl, rfl⟩)
  go_wp2
  go_ret
  exact ⟨rfl, rfl⟩
set_option maxHeartbeats 2000000 in
set_option maxRecDepth 100000 in
theorem non_bad {v : Value} {w : World} (h : Non v w) : Calls Try.prog 58 #[v] w fun e w' => e = .returned (.bool true) ∧ w = w' := by
  have hH := Lib.hid h; clear h
  go_enter Try.func58, Try.ntmps58
  go_wp2_with (go_at_call 111; refine (hH.out).mono ?_; rintro e w1 ⟨rfl, rfl⟩)
  go_wp2
  go_ret
  exact ⟨rfl, rfl⟩
set_option maxHeartbeats 2000000 in
set_option maxRecDepth 100000 in
theorem non_jump {v : Value} {w : World} (h : Non v w) (n : Int) : Calls Try.prog 51 #[v, .int .i64 n] w fun e w' => e = .returned (.tuple #[]) ∧ w = w' := by
  have hH := Lib.hid h; clear h
  go_enter Try.func51, Try.ntmps51
  go_wp2_with (go_at_call 111; refine (hH.out).mono ?_; rintro e w1 ⟨rfl, rfl⟩)
  go_wp2
  first | ((try simp only [Exit.inBlock, Exit.then]); refine bodyPost_ret (results_none rfl _ _ _) rfl ?_) | go_end0
  exact ⟨rfl, rfl⟩
set_option maxHeartbeats 2000000 in
set_option maxRecDepth 100000 in
theorem non_Take {v : Value} {w : World} (h : Non v w) (n : Int) : Calls Try.prog 55 #[v, .int .i64 n] w fun e w' => e = .returned (.slice none 0 0) ∧ w = w' := by
  have hH := Lib.hid h; clear h
  go_enter Try.func55, Try.ntmps55
  go_wp2_with (go_at_call 113; refine (non_take hH.out n).mono ?_; rintro e w1 ⟨rfl, rfl⟩)
  go_wp2
  go_ret
  exact ⟨rfl, rfl⟩
end Go.Proofs.Ytffdcfannnmjnaa
