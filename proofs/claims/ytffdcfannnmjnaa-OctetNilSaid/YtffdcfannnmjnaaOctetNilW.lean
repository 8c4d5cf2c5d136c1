/- OctetNil: the walk. -/
import Derived.Test.YtffdcfannnmjnaaNil
namespace Go.Proofs.Ytffdcfannnmjnaa
open Go.RowKit
set_option maxRecDepth 100000 in
theorem put16_no {w : World} : Calls Try.prog 22 #[.int .i64 (-1)] w fun e w' => e = .returned (.tuple #[.slice none 0 0, .int .i64 2]) ∧ w = w' := by
  go_enter Try.func22, Try.ntmps22
  go_wp2_with fail
  go_ret2
  exact ⟨rfl, rfl⟩
set_option maxHeartbeats 4000000 in
set_option maxRecDepth 100000 in
theorem octetNil_frame (n : Int) (_ : (Lit.int .i64 n).wf = true) (W : World) :
    Calls Try.prog 9 #[.int .i64 n] W fun e w' => e = .returned (.bool true) ∧ Below W.heap.size W w' := by
  have hnew : Blk ((W.alloc (.cells #[.slice none 0 0, .int .i64 0, .bool false, .bool false] 74)).alloc (.cells #[.pointer none, .pointer (some ⟨W.heap.size, 0, none⟩)] 55)) W.heap.size 74 (0, 0) [.slice none 0 0, .int .i64 0, .bool false, .bool false] := (Blk.new W 74 (0, 0) _).alloc _
  have hrow : Blk ((W.alloc (.cells #[.slice none 0 0, .int .i64 0, .bool false, .bool false] 74)).alloc (.cells #[.pointer none, .pointer (some ⟨W.heap.size, 0, none⟩)] 55)) (W.heap.size + 1) 55 (0, 0) [.pointer none, .pointer (some ⟨W.heap.size, 0, none⟩)] := by
    have := Blk.new (W.alloc (.cells #[.slice none 0 0, .int .i64 0, .bool false, .bool false] 74)) 55 (0, 0) #[.pointer none, .pointer (some ⟨W.heap.size, 0, none⟩)]
    simpa using this
  have hbel : Below W.heap.size W ((W.alloc (.cells #[.slice none 0 0, .int .i64 0, .bool false, .bool false] 74)).alloc (.cells #[.pointer none, .pointer (some ⟨W.heap.size, 0, none⟩)] 55)) := ((Below.refl _ W).alloc (Nat.le_refl _) _).alloc (by simp) _
  have hn0 := Lib.hid (non_nil ((W.alloc (.cells #[.slice none 0 0, .int .i64 0, .bool false, .bool false] 74)).alloc (.cells #[.pointer none, .pointer (some ⟨W.heap.size, 0, none⟩)] 55)))
  have hn1 := Lib.hid (non_new hnew)
  have c0 := hrow.cell 0
  have c1 := hrow.cell 1
  have hB := Lib.hid hbel
  clear hnew hrow hbel
  go_enter Try.func9, Try.ntmps9
  go_wp2_with fail
  generalize (W.alloc (.cells #[.slice none 0 0, .int .i64 0, .bool false, .bool false] 74)).alloc (.cells #[.pointer none, .pointer (some ⟨W.heap.size, 0, none⟩)] 55) = w2 at *
  simp only [List.getElem?_cons_zero, List.getElem?_cons_succ] at c0 c1
  go_loop [4] (fun i => ∃ k : Nat, k ≤ 2 ∧ i = .int .i64 k) (fun i => 2 - (intOf i).toNat)
  case atStart => exact ⟨0, Nat.zero_le _, rfl⟩
  case round =>
    obtain ⟨k, hk, rfl⟩ := hrel
    match k, hk with
    | 0, _ =>
      have HN := Lib.hid hn0.out
      go_wp2_with (first | (go_at_call 51; refine (non_jump HN.out n).mono ?_; rintro e w1 ⟨rfl, rfl⟩) | (go_at_call 52; refine (non_byte HN.out).mono ?_; rintro e w1 ⟨rfl, rfl⟩) | (go_at_call 53; refine (non_u16 HN.out).mono ?_; rintro e w1 ⟨rfl, rfl⟩) | (go_at_call 54; refine (non_u32 HN.out).mono ?_; rintro e w1 ⟨rfl, rfl⟩) | (go_at_call 55; refine (non_Take HN.out n).mono ?_; rintro e w1 ⟨rfl, rfl⟩) | (go_at_call 56; refine (non_at HN.out).mono ?_; rintro e w1 ⟨rfl, rfl⟩) | (go_at_call 57; refine (non_left HN.out).mono ?_; rintro e w1 ⟨rfl, rfl⟩) | (go_at_call 58; refine (non_bad HN.out).mono ?_; rintro e w1 ⟨rfl, rfl⟩))
      go_round
      case rel => exact ⟨1, by omega, rfl⟩
      case measure => simp [intOf]
    | 1, _ =>
      have HN := Lib.hid hn1.out
      go_wp2_with (first | (go_at_call 51; refine (non_jump HN.out n).mono ?_; rintro e w1 ⟨rfl, rfl⟩) | (go_at_call 52; refine (non_byte HN.out).mono ?_; rintro e w1 ⟨rfl, rfl⟩) | (go_at_call 53; refine (non_u16 HN.out).mono ?_; rintro e w1 ⟨rfl, rfl⟩) | (go_at_call 54; refine (non_u32 HN.out).mono ?_; rintro e w1 ⟨rfl, rfl⟩) | (go_at_call 55; refine (non_Take HN.out n).mono ?_; rintro e w1 ⟨rfl, rfl⟩) | (go_at_call 56; refine (non_at HN.out).mono ?_; rintro e w1 ⟨rfl, rfl⟩) | (go_at_call 57; refine (non_left HN.out).mono ?_; rintro e w1 ⟨rfl, rfl⟩) | (go_at_call 58; refine (non_bad HN.out).mono ?_; rintro e w1 ⟨rfl, rfl⟩))
      go_round
      case rel => exact ⟨2, by omega, rfl⟩
      case measure => simp [intOf]
    | 2, _ =>
      go_wp2_with (go_at_call 22; refine put16_no.mono ?_; rintro e w1 ⟨rfl, rfl⟩)
      go_ret
      exact ⟨rfl, hB.out⟩
end Go.Proofs.Ytffdcfannnmjnaa
