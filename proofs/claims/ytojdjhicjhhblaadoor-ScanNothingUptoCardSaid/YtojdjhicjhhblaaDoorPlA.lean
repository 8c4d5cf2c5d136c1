/- strings.IndexRune over the three bytes that a plain remark lacks, at a rune that is no ASCII one: it finds nothing. -/
import Derived.Test.YtojdjhicjhhblaaDoorShelf
import Derived.Test.YtojdjhicjhhblaaDoorLib
import Derived.Laws.RangeString
import Derived.Laws.Runes
import Derived.Deep.LoopGhost
import Derived.Deep.QuietTactic
import Derived.BigQuiet
import Derived.Lib.OthersKept
import Derived.WalkMore
namespace Go.Proofs.YtojdjhicjhhblaaDoor
open Go Go.RowKit
set_option maxHeartbeats 4000000 in
set_option maxRecDepth 100000 in
theorem irune_bad (w : World) : Calls Tryd.prog 37 #[.string ⟨#[10, 34, 92]⟩, .int .i32 65533] w fun e w' => e = .returned (.int .i64 (-1)) ∧ Below w.heap.size w w' := by
  go_enter Tryd.func37, Tryd.ntmps37
  go_wp2
  go_loopg [5, 6] 3 (fun g _ _ wx => ∃ i : Nat, i + g = 3 ∧ wx = w.iter ⟨#[10, 34, 92]⟩ i)
  case atStart => exact ⟨0, by omega, rfl⟩
  case round =>
    obtain ⟨i, hig, rfl⟩ := hrel
    cases gk with
    | zero =>
      obtain rfl : i = 3 := by omega
      have hnx : ∀ ty, (Instr.next (.pointer (some ⟨w.heap.size, 0, none⟩)) true ty).run Tryd.prog (w.iter ⟨#[10, 34, 92]⟩ 3) = .ok (.tuple #[.bool false]) (w.iter ⟨#[10, 34, 92]⟩ 3) := fun ty => run_next_end (P := Tryd.prog) w ⟨#[10, 34, 92]⟩ 3 ty (by decide)
      go_wp2
      try (rw [Exit.noGoto_ret]; go_wp2)
      try rw [Exit.noGoto_ret]
      go_ret
      exact ⟨rfl, (Below.refl _ _).alloc (Nat.le_refl _) _⟩
    | succ g =>
      obtain rfl | rfl | rfl : i = 0 ∨ i = 1 ∨ i = 2 := by omega
      · have hnx : ∀ ty, (Instr.next (.pointer (some ⟨w.heap.size, 0, none⟩)) true ty).run Tryd.prog (w.iter ⟨#[10, 34, 92]⟩ 0) = .ok (.tuple #[.bool true, .int .i64 0, .int .i32 10]) (w.iter ⟨#[10, 34, 92]⟩ 1) := fun ty => run_next_ascii (P := Tryd.prog) w ⟨#[10, 34, 92]⟩ 0 ty (by decide) (by decide)
        go_wp2
        go_roundg g
        case measure => omega
        case rel => exact ⟨1, by omega, rfl⟩
      · have hnx : ∀ ty, (Instr.next (.pointer (some ⟨w.heap.size, 0, none⟩)) true ty).run Tryd.prog (w.iter ⟨#[10, 34, 92]⟩ 1) = .ok (.tuple #[.bool true, .int .i64 1, .int .i32 34]) (w.iter ⟨#[10, 34, 92]⟩ 2) := fun ty => run_next_ascii (P := Tryd.prog) w ⟨#[10, 34, 92]⟩ 1 ty (by decide) (by decide)
        go_wp2
        go_roundg g
        case measure => omega
        case rel => exact ⟨2, by omega, rfl⟩
      · have hnx : ∀ ty, (Instr.next (.pointer (some ⟨w.heap.size, 0, none⟩)) true ty).run Tryd.prog (w.iter ⟨#[10, 34, 92]⟩ 2) = .ok (.tuple #[.bool true, .int .i64 2, .int .i32 92]) (w.iter ⟨#[10, 34, 92]⟩ 3) := fun ty => run_next_ascii (P := Tryd.prog) w ⟨#[10, 34, 92]⟩ 2 ty (by decide) (by decide)
        go_wp2
        go_roundg g
        case measure => omega
        case rel => exact ⟨3, by omega, rfl⟩
set_option maxHeartbeats 4000000 in
set_option maxRecDepth 100000 in
theorem irune_wrong (w : World) (r : Int) (h : 128 ≤ r) (h2 : r ≤ 1114111) (h3 : (r == 65533) = false) (hv : Lib.validRune r = false) : Calls Tryd.prog 37 #[.string ⟨#[10, 34, 92]⟩, .int .i32 r] w fun e w' => e = .returned (.int .i64 (-1)) ∧ Below w.heap.size w w' := by
  have e1 : decide (r < 128) = false := decide_eq_false (by omega)
  go_enter Tryd.func37, Tryd.ntmps37
  go_wp2_with (go_at_call 48; refine (Tryd.utf8_ValidRune _ _).mono ?_; rintro e w' ⟨rfl, rfl⟩; rw [hv])
  go_ret
  exact ⟨rfl, Below.refl _ _⟩
/-- IndexByte behind place k finds no byte of 128 or more -/
theorem ibyte_tail (x : UInt8) (h : 128 ≤ x.toNat) (y : ByteArray) (hy : y = ⟨#[92]⟩ ∨ y = ⟨#[]⟩) (W : World) : Calls Tryd.prog 47 #[.string y, .int .u8 x.toNat] W fun e w'' => e = .returned (.int .i64 (-1)) ∧ w'' = W := by
  refine (Tryd.strings_IndexByte y x.toNat W).mono ?_
  rintro e w' ⟨rfl, rfl⟩
  have hx : (x.toNat : Int).toNat.toUInt8 = x := by simp
  rw [hx]
  have e : ((92 : UInt8) == x) = false := by
    rw [beq_eq_false_iff_ne]; rintro rfl; exact absurd h (by decide)
  rcases hy with rfl | rfl
  · have e2 : Lib.indexByte [92] x = -1 := by simp [Lib.indexByte, e]
    exact ⟨by show Ending.returned (.int .i64 (Lib.indexByte [92] x)) = _; rw [e2], rfl⟩
  · exact ⟨rfl, rfl⟩
set_option maxHeartbeats 4000000 in
set_option maxRecDepth 100000 in
theorem irune_ok (w : World) (r : Int) (h : 128 ≤ r) (h2 : r ≤ 1114111) (h3 : (r == 65533) = false) (hv : Lib.validRune r = true) : Calls Tryd.prog 37 #[.string ⟨#[10, 34, 92]⟩, .int .i32 r] w fun e w' => e = .returned (.int .i64 (-1)) ∧ Below w.heap.size w w' := by
  have e1 : decide (r < 128) = false := decide_eq_false (by omega)
  have hu : Utf8.valid r = true := by
    unfold Lib.validRune at hv
    have := of_decide_eq_true hv
    unfold Utf8.valid
    simp only [Bool.or_eq_true, Bool.and_eq_true, decide_eq_true_eq]
    omega
  obtain ⟨f1, f2, f3⟩ := encode_facts r hu h
  have hcv := fun (W : World) => run_convert_int_string (P := Tryd.prog) W 21 9 .i32 r (by kernel_rfl) (by kernel_rfl)
  obtain ⟨rs, hrs⟩ : ∃ rs, Utf8.encode r = rs := ⟨_, rfl⟩
  rw [hrs] at f1 f2 f3
  simp only [hrs] at hcv
  clear hu hrs
  obtain hn | hn | hn : rs.size = 2 ∨ rs.size = 3 ∨ rs.size = 4 := by omega
  · obtain ⟨x, hx⟩ : ∃ x, rs[1]'(by omega) = x := ⟨_, rfl⟩
    have h128 : 128 ≤ x.toNat := by have := f3 (by omega); simp only [hn] at this; rw [← hx]; exact this
    have hne : ((((⟨#[10, 34, 92]⟩ : ByteArray)[1]'(by decide)).toNat : Int) != (x.toNat : Int)) = true := by
      show ((34 : Int) != (x.toNat : Int)) = true
      rw [bne_iff_ne]; omega
    have hcall := fun W => ibyte_tail x h128 ((⟨#[10, 34, 92]⟩ : ByteArray).extract 2 3) (by left; decide) W
    clear f1 f2 f3
    go_enter Tryd.func37, Tryd.ntmps37
    go_wp2_with (go_at_call 48; refine (Tryd.utf8_ValidRune _ _).mono ?_; rintro e w' ⟨rfl, rfl⟩; rw [hv])
    go_step3
    go_wp2
    go_loop [9, 10, 11, 12] (fun i f _ _ => i = .int .i64 1 ∧ f = .int .i64 0) (fun _ _ _ _ => 0)
    case atStart => exact ⟨rfl, rfl⟩
    case round =>
      obtain ⟨rfl, rfl⟩ := hrel
      go_wp2
      go_step3
      go_wp2
      go_quiet (fail)
      have hb2 : Below w'.heap.size w' (w'.drewN nq) := ⟨rfl, rfl, rfl, Nat.le_refl _, fun _ _ => rfl⟩
      generalize w'.drewN nq = w2 at *
      go_wp2
      go_quiet ((go_at_call 47; exact Calls.quiet_of_same (hcall _)))
      go_wp2
      try (rw [Exit.noGoto_ret]; go_wp2)
      try rw [Exit.noGoto_ret]
      go_ret
      exact ⟨rfl, hb2.trans ⟨rfl, rfl, rfl, Nat.le_refl _, fun _ _ => rfl⟩⟩
  · obtain ⟨x, hx⟩ : ∃ x, rs[2]'(by omega) = x := ⟨_, rfl⟩
    have h128 : 128 ≤ x.toNat := by have := f3 (by omega); simp only [hn] at this; rw [← hx]; exact this
    have hne : ((((⟨#[10, 34, 92]⟩ : ByteArray)[2]'(by decide)).toNat : Int) != (x.toNat : Int)) = true := by
      show ((92 : Int) != (x.toNat : Int)) = true
      rw [bne_iff_ne]; omega
    have hcall := fun W => ibyte_tail x h128 ((⟨#[10, 34, 92]⟩ : ByteArray).extract 3 3) (by right; decide) W
    clear f1 f2 f3
    go_enter Tryd.func37, Tryd.ntmps37
    go_wp2_with (go_at_call 48; refine (Tryd.utf8_ValidRune _ _).mono ?_; rintro e w' ⟨rfl, rfl⟩; rw [hv])
    go_step3
    go_wp2
    go_loop [9, 10, 11, 12] (fun i f _ _ => i = .int .i64 2 ∧ f = .int .i64 0) (fun _ _ _ _ => 0)
    case atStart => exact ⟨rfl, rfl⟩
    case round =>
      obtain ⟨rfl, rfl⟩ := hrel
      go_wp2
      go_step3
      go_wp2
      go_quiet (fail)
      have hb2 : Below w'.heap.size w' (w'.drewN nq) := ⟨rfl, rfl, rfl, Nat.le_refl _, fun _ _ => rfl⟩
      generalize w'.drewN nq = w2 at *
      go_wp2
      go_quiet ((go_at_call 47; exact Calls.quiet_of_same (hcall _)))
      go_wp2
      try (rw [Exit.noGoto_ret]; go_wp2)
      try rw [Exit.noGoto_ret]
      go_ret
      exact ⟨rfl, hb2.trans ⟨rfl, rfl, rfl, Nat.le_refl _, fun _ _ => rfl⟩⟩
  · clear f1 f2 f3
    go_enter Tryd.func37, Tryd.ntmps37
    go_wp2_with (go_at_call 48; refine (Tryd.utf8_ValidRune _ _).mono ?_; rintro e w' ⟨rfl, rfl⟩; rw [hv])
    go_step3
    go_wp2
    go_loop [9, 10, 11, 12] (fun i f _ _ => i = .int .i64 3 ∧ f = .int .i64 0) (fun _ _ _ _ => 0)
    case atStart => exact ⟨rfl, rfl⟩
    case round =>
      obtain ⟨rfl, rfl⟩ := hrel
      go_wp2
      try (rw [Exit.noGoto_ret]; go_wp2)
      try rw [Exit.noGoto_ret]
      go_ret
      exact ⟨rfl, Below.refl _ _⟩
/-- what IndexRune finds in the three bytes -/
def irk (r : Nat) : Int := if r = 10 then 0 else if r = 34 then 1 else if r = 92 then 2 else -1
theorem irk_eq (r : Nat) (h : r < 128) : Lib.indexByte [10, 34, 92] ((r : Int).toNat.toUInt8) = irk r := by
  have e : ((r : Int).toNat.toUInt8).toNat = r := by simp; omega
  generalize (r : Int).toNat.toUInt8 = b at e
  unfold irk
  simp only [Lib.indexByte]
  by_cases h1 : r = 10
  · subst h1; have : b = 10 := UInt8.toNat_inj.1 (by rw [e]; rfl); subst this; rfl
  by_cases h2 : r = 34
  · subst h2; have : b = 34 := UInt8.toNat_inj.1 (by rw [e]; rfl); subst this; rfl
  by_cases h3 : r = 92
  · subst h3; have : b = 92 := UInt8.toNat_inj.1 (by rw [e]; rfl); subst this; rfl
  have e1 : ((10 : UInt8) == b) = false := by rw [beq_eq_false_iff_ne]; rintro rfl; exact h1 e.symm
  have e2 : ((34 : UInt8) == b) = false := by rw [beq_eq_false_iff_ne]; rintro rfl; exact h2 e.symm
  have e3 : ((92 : UInt8) == b) = false := by rw [beq_eq_false_iff_ne]; rintro rfl; exact h3 e.symm
  simp [e1, e2, e3, h1, h2, h3]
theorem irune_any (w : World) (r : Nat) (h2 : r ≤ 1114111) : Calls Tryd.prog 37 #[.string ⟨#[10, 34, 92]⟩, .int .i32 r] w fun e w' => e = .returned (.int .i64 (irk r)) ∧ Below w.heap.size w w' := by
  by_cases h1 : r < 128
  · refine (Tryd.strings_IndexRune_ascii ⟨#[10, 34, 92]⟩ r w (by omega) (by omega)).mono ?_
    rintro e w' ⟨rfl, rfl⟩
    exact ⟨by rw [← irk_eq r h1], Below.refl _ _⟩
  have e0 : irk r = -1 := by unfold irk; rw [if_neg (by omega), if_neg (by omega), if_neg (by omega)]
  rw [e0]
  by_cases hb : r = 65533
  · subst hb; exact irune_bad w
  have h3 : ((r : Int) == 65533) = false := beq_eq_false_iff_ne.2 (by omega)
  cases hv : Lib.validRune (r : Int) with
  | true => exact irune_ok w r (by omega) (by omega) h3 hv
  | false => exact irune_wrong w r (by omega) (by omega) h3 hv
end Go.Proofs.YtojdjhicjhhblaaDoor
