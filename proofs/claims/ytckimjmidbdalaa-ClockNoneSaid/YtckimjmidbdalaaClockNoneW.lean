/- ClockNone: the walk. -/
import Derived.Test.YtckimjmidbdalaaDead
namespace Go.Proofs.Ytckimjmidbdalaa
open Go.RowKit
set_option maxHeartbeats 8000000 in
set_option maxRecDepth 100000 in
theorem clockNone_law (p : Int) (_ : (Lit.int .i64 p).wf = true) (q : Int) (_ : (Lit.int .i64 q).wf = true) (W : World) : Calls Try.prog 9 #[.int .i64 p, .int .i64 q] W fun e w' => e = .returned (.bool true) ∧ Below W.heap.size W w' := by
  go_enter Try.func9, Try.ntmps9
  go_wp2_with fail
  generalize hW2 : (W.alloc (.cells #[.int .i64 0, .int .i64 0, .slice none 0 0, .bool false] 58)).alloc (.cells #[.pointer none, .pointer (some ⟨W.heap.size, 0, none⟩)] 35) = w2 at *
  have hb2 : Hid (Below W.heap.size W w2) := Lib.hid (by rw [← hW2]; exact ((Below.refl _ W).alloc (Nat.le_refl _) _).alloc (by simp) _)
  have hA : Blk w2 W.heap.size 58 (0, 0) [.int .i64 0, .int .i64 0, .slice none 0 0, .bool false] := by rw [← hW2]; exact (Blk.new W 58 (0, 0) #[.int .i64 0, .int .i64 0, .slice none 0 0, .bool false]).alloc _
  have hB : Blk w2 (W.heap.size + 1) 35 (0, 0) [.pointer none, .pointer (some ⟨W.heap.size, 0, none⟩)] := by
    rw [← hW2]; have := Blk.new (W.alloc (.cells #[.int .i64 0, .int .i64 0, .slice none 0 0, .bool false] 58)) 35 (0, 0) #[.pointer none, .pointer (some ⟨W.heap.size, 0, none⟩)]; simpa using this
  have d0 : w2.cell? ⟨W.heap.size + 1, 0, none⟩ = some (.pointer none) := by rw [hB.cell]; rfl
  have d1 : w2.cell? ⟨W.heap.size + 1, 1, none⟩ = some (.pointer (some ⟨W.heap.size, 0, none⟩)) := by rw [hB.cell]; rfl
  have hD0 : Hid (Dead w2 none) := Lib.hid (.inl rfl)
  have hD1 : Hid (Dead w2 (some ⟨W.heap.size, 0, none⟩)) := Lib.hid (.inr ⟨_, rfl, by rw [hA.cell]; rfl⟩)
  clear hW2 hA hB
  go_loop [6] (fun i => ∃ k : Nat, k ≤ 2 ∧ i = .int .i64 k) (fun i => 2 - (intOf i).toNat)
  case atStart => exact ⟨0, by omega, rfl⟩
  case round =>
    obtain ⟨k, hk, rfl⟩ := hrel
    obtain rfl | rfl | rfl : k = 0 ∨ k = 1 ∨ k = 2 := by omega
    · go_wp2_with (first | (go_at_call 20; refine (dead_next hD0.out).mono ?_; rintro e w9 ⟨rfl, rfl⟩) | (go_at_call 22; refine (dead_pop hD0.out).mono ?_; rintro e w9 ⟨rfl, rfl⟩) | (go_at_call 21; refine (dead_now hD0.out).mono ?_; rintro e w9 ⟨rfl, rfl⟩) | (go_at_call 23; refine (dead_go hD0.out _).mono ?_; rintro e w9 ⟨rfl, rfl⟩) | (go_at_call 18; refine (dead_add hD0.out _ _).mono ?_; rintro e w9 ⟨rfl, rfl⟩) | (go_at_call 25; refine (dead_drop hD0.out _).mono ?_; rintro e w9 ⟨rfl, rfl⟩) | (go_at_call 19; refine (dead_len hD0.out).mono ?_; rintro e w9 ⟨rfl, rfl⟩))
      go_round
      case rel => exact ⟨1, by omega, by go_num⟩
      case measure => simp [intOf]
    · go_wp2_with (first | (go_at_call 20; refine (dead_next hD1.out).mono ?_; rintro e w9 ⟨rfl, rfl⟩) | (go_at_call 22; refine (dead_pop hD1.out).mono ?_; rintro e w9 ⟨rfl, rfl⟩) | (go_at_call 21; refine (dead_now hD1.out).mono ?_; rintro e w9 ⟨rfl, rfl⟩) | (go_at_call 23; refine (dead_go hD1.out _).mono ?_; rintro e w9 ⟨rfl, rfl⟩) | (go_at_call 18; refine (dead_add hD1.out _ _).mono ?_; rintro e w9 ⟨rfl, rfl⟩) | (go_at_call 25; refine (dead_drop hD1.out _).mono ?_; rintro e w9 ⟨rfl, rfl⟩) | (go_at_call 19; refine (dead_len hD1.out).mono ?_; rintro e w9 ⟨rfl, rfl⟩))
      go_round
      case rel => exact ⟨2, by omega, by go_num⟩
      case measure => simp [intOf]
    · have v1 : drawS 0 9 = 0 := by decide +kernel
      have y1 := Lib.hid v1
      clear v1
      go_wp2_with fail
      refine (nil_draw 9).mono ?_
      rintro e w9 ⟨rfl, rfl⟩
      go_wp2_with fail
      refine (chance_draw (Blk.new w2 62 (0, 0) #[.int .u64 0]) 9).mono ?_
      rintro e w10 ⟨rfl, hB, hg⟩
      rw [y1.out]
      have hz := hb2.out.size
      have hb10 := Lib.hid (below_grown (hb2.out.alloc hz _) hg (by simp; omega) hz)
      clear hB hg
      go_wp2_with fail
      refine awake_any.mono ?_
      rintro e w11 ⟨rfl, hb⟩
      have hb11 := Lib.hid (hb10.out.trans (hb.mono hb10.out.size))
      clear hb
      go_wp2_with fail
      go_ret
      exact ⟨rfl, hb11.out⟩
end Go.Proofs.Ytckimjmidbdalaa
