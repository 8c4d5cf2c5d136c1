/- The program's picker: none 23, check 34, New 14, Known 12, Wait 21, Lame 20. -/
import Derived.Test.YtjkeijjfjbcaiaaPkE
namespace Go.Proofs.Ytjkeijjfjbcaiaa
open Go.RowKit
theorem none_ok {w : World} {p : Nat} {room : Int} (h : w.cell? ⟨p, 0, none⟩ = some (.int .i64 room)) (h1 : 1 ≤ room) : Calls Try.prog 23 #[.pointer (some ⟨p, 0, none⟩)] w fun e w' => e = .returned (.bool false) ∧ w = w' := by
  have h0 : (room == 0) = false := by rw [beq_eq_false_iff_ne]; omega
  go_enter Try.func23, Try.ntmps23
  go_wp2_with fail
  go_ret
  exact ⟨rfl, rfl⟩
theorem none_nil (w : World) : Calls Try.prog 23 #[.pointer none] w fun e w' => e = .returned (.bool true) ∧ w = w' := by
  go_enter Try.func23, Try.ntmps23
  go_wp2_with fail
  go_ret
  exact ⟨rfl, rfl⟩
theorem none_zero {w : World} {p : Nat} (h : w.cell? ⟨p, 0, none⟩ = some (.int .i64 0)) : Calls Try.prog 23 #[.pointer (some ⟨p, 0, none⟩)] w fun e w' => e = .returned (.bool true) ∧ w = w' := by
  go_enter Try.func23, Try.ntmps23
  go_wp2_with fail
  go_ret
  exact ⟨rfl, rfl⟩
/-- is a number a moment? -/
def momB (now : Int) : Bool := decide (0 ≤ now) && decide (now ≤ 1099511627776)
theorem mom_ok {now : Int} (h : momB now = true) : 0 ≤ now ∧ now ≤ 1099511627776 := by
  unfold momB at h
  rw [Bool.and_eq_true] at h
  exact ⟨of_decide_eq_true h.1, of_decide_eq_true h.2⟩
theorem mom_no {now : Int} (h : momB now = false) : now < 0 ∨ 1099511627776 < now := by
  unfold momB at h
  rw [Bool.and_eq_false_iff] at h
  rcases h with h | h <;> have := of_decide_eq_false h <;> omega
theorem check34 {w : World} {p : Nat} {room : Int} (h : w.cell? ⟨p, 0, none⟩ = some (.int .i64 room)) (h1 : 1 ≤ room) (now : Int) :
    Calls Try.prog 34 #[.pointer (some ⟨p, 0, none⟩), .int .i64 now] w fun e w' => e = .returned (.int .i64 (if momB now = true then 0 else 2)) ∧ w = w' := by
  cases hm : momB now
  · rw [if_neg (by decide)]
    go_enter Try.func34, Try.ntmps34
    go_wp2_with fail
    refine (none_ok h h1).mono ?_
    rintro e w1 ⟨rfl, rfl⟩
    by_cases h0 : now < 0
    · go_wp2_with fail
      go_ret
      exact ⟨rfl, rfl⟩
    · have h2 : (1099511627776 : Int) < now := by rcases mom_no hm with h | h <;> omega
      go_wp2_with fail
      go_ret
      exact ⟨rfl, rfl⟩
  · rw [if_pos rfl]
    obtain ⟨m0, m1⟩ := mom_ok hm
    have h0 : ¬ now < 0 := by omega
    have h2 : ¬ (1099511627776 : Int) < now := by omega
    go_enter Try.func34, Try.ntmps34
    go_wp2_with fail
    refine (none_ok h h1).mono ?_
    rintro e w1 ⟨rfl, rfl⟩
    go_wp2_with fail
    go_ret
    exact ⟨rfl, rfl⟩
theorem check_nil (now : Int) (w : World) : Calls Try.prog 34 #[.pointer none, .int .i64 now] w fun e w' => e = .returned (.int .i64 1) ∧ w = w' := by
  go_enter Try.func34, Try.ntmps34
  go_wp2_with fail
  refine (none_nil w).mono ?_
  rintro e w1 ⟨rfl, rfl⟩
  go_wp2_with fail
  go_ret
  exact ⟨rfl, rfl⟩
theorem check_zero {w : World} {p : Nat} (h : w.cell? ⟨p, 0, none⟩ = some (.int .i64 0)) (now : Int) : Calls Try.prog 34 #[.pointer (some ⟨p, 0, none⟩), .int .i64 now] w fun e w' => e = .returned (.int .i64 1) ∧ w = w' := by
  go_enter Try.func34, Try.ntmps34
  go_wp2_with fail
  refine (none_zero h).mono ?_
  rintro e w1 ⟨rfl, rfl⟩
  go_wp2_with fail
  go_ret
  exact ⟨rfl, rfl⟩
theorem new14 (room : Int) (h1 : 1 ≤ room) (h2 : room ≤ 4096) (w : World) : Calls Try.prog 14 #[.int .i64 room] w fun e w' => e = .returned (.tuple #[.pointer (some ⟨w.heap.size, 0, none⟩), .int .i64 0]) ∧ Pk w' w.heap.size room (.slice none 0 0) [] ∧ Below w.heap.size w w' := by
  have h3 : ¬ room < 1 := by omega
  have h4 : ¬ 4096 < room := by omega
  go_enter Try.func14, Try.ntmps14
  go_wp2_with fail
  go_ret2
  exact ⟨rfl, ⟨Blk.new w 52 (0, 0) _, Own.nil _ _ _, by simp [Value.ownBlock]⟩, (Below.refl _ _).alloc (Nat.le_refl _) _⟩
theorem new14_no (room : Int) (h1 : room < 1 ∨ 4096 < room) (w : World) : Calls Try.prog 14 #[.int .i64 room] w fun e w' => e = .returned (.tuple #[.pointer none, .int .i64 2]) ∧ w = w' := by
  by_cases h3 : room < 1
  · go_enter Try.func14, Try.ntmps14
    go_wp2_with fail
    go_ret2
    exact ⟨rfl, rfl⟩
  · have h4 : 4096 < room := by omega
    go_enter Try.func14, Try.ntmps14
    go_wp2_with fail
    go_ret2
    exact ⟨rfl, rfl⟩
theorem known12 {w : World} {p : Nat} {room : Int} {v : Value} {L : List Kn} (h : Pk w p room v L) (h1 : 1 ≤ room) (hl : L.length ≤ 1000000) :
    Calls Try.prog 12 #[.pointer (some ⟨p, 0, none⟩)] w fun e w' => (∃ v', e = .returned v' ∧ Own knE w' w.heap.size v' L) ∧ Below w.heap.size w w' := by
  obtain ⟨a, c, rfl, hR⟩ := h.own.rd
  have z1 : w.cell? ⟨p, 1, none⟩ = some (.slice a L.length c) := h.blk.cell 1
  have z0 : w.cell? ⟨p, 0, none⟩ = some (.int .i64 room) := h.blk.cell 0
  have hR' := Lib.hid hR
  have hl' := Lib.hid hl
  clear h hR hl
  go_enter Try.func12, Try.ntmps12
  go_wp2_with fail
  refine (none_ok z0 h1).mono ?_
  rintro e w1 ⟨rfl, rfl⟩
  go_wp2_with fail
  refine (clone_any hR'.out hl'.out).mono ?_
  rintro e w1 ⟨⟨v', rfl, hO⟩, hb⟩
  obtain ⟨a', c', rfl⟩ := hO.shape
  have hO' := Lib.hid hO
  clear hO
  generalize L.length = n at *
  go_wp2_with fail
  go_ret
  exact ⟨⟨_, rfl, hO'.out⟩, hb⟩
end Go.Proofs.Ytjkeijjfjbcaiaa
