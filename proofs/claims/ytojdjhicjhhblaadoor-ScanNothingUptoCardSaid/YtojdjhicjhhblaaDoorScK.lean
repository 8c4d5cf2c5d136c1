/- Lines 13: how many lines a text has. -/
import Derived.Test.YtojdjhicjhhblaaDoorScM
import Derived.Test.YtojdjhicjhhblaaDoorShelf
namespace Go.Proofs.YtojdjhicjhhblaaDoor
open Go Go.RowKit
theorem linesOf_le (s : List UInt8) : 0 ≤ linesOf s ∧ linesOf s ≤ s.length := by
  unfold linesOf
  have h := List.length_filter_le (fun x : UInt8 => x == 10) s
  cases hs : s with
  | nil => simp
  | cons a r =>
    rw [← hs]
    have h0 : s.isEmpty = false := by rw [hs]; rfl
    rw [h0]
    by_cases hl : s.getLast? = some 10
    · simp only [Bool.false_eq_true, if_false, hl, beq_self_eq_true, if_true]
      omega
    · have h1 : (s.getLast? == some 10) = false := by rw [beq_eq_false_iff_ne]; exact hl
      simp only [Bool.false_eq_true, if_false, h1]
      have h2 : (s.filter (fun x : UInt8 => x == 10)).length < s.length := by
        apply Classical.byContradiction
        intro h3
        have h4 : (s.filter (fun x : UInt8 => x == 10)).length = s.length := by omega
        have h5 := List.length_filter_eq_length_iff.1 h4
        have hne : s ≠ [] := by rw [hs]; simp
        have h6 := h5 _ (List.getLast_mem hne)
        apply hl
        rw [List.getLast?_eq_some_getLast hne]
        simpa using h6
      omega
theorem linesOf_nil : linesOf [] = 0 := rfl
theorem linesOf_nl (s : List UInt8) (h : s.getLast? = some 10) : linesOf s = (s.count 10 : Nat) := by
  unfold linesOf
  rw [h]
  cases s with
  | nil => simp at h
  | cons a r => simp [List.count_eq_length_filter]
theorem linesOf_no (s : List UInt8) (h0 : s ≠ []) (h : s.getLast? ≠ some 10) : linesOf s = (s.count 10 : Nat) + 1 := by
  unfold linesOf
  have h1 : (s.getLast? == some 10) = false := by rw [beq_eq_false_iff_ne]; exact h
  rw [h1]
  cases s with
  | nil => simp at h0
  | cons a r => simp [List.count_eq_length_filter]
set_option maxHeartbeats 8000000 in
set_option maxRecDepth 100000 in
theorem lines_any (w : World) (s : List UInt8) (hlen : s.length ≤ 70000) : Calls Tryd.prog 35 #[.string (mk s)] w fun e w' => e = .returned (.int .i64 (linesOf s)) ∧ Below w.heap.size w w' := by
  have hle := linesOf_le s
  have hc := Lib.hid (Tryd.strings_Count_one (mk s) 10 w)
  have e1 : Lib.countByte (mk s).data.toList 10 = s.count 10 := rfl
  rw [e1] at hc
  have hcl : s.count 10 ≤ s.length := List.count_le_length
  generalize hcc : s.count 10 = cc at *
  by_cases h0 : s = []
  · subst h0
    have hc0 : cc = 0 := hcc.symm
    subst hc0
    clear hcc hle hcl hlen
    go_enter Tryd.func35, Tryd.ntmps35
    go_wp2_with fail
    refine hc.out.mono ?_
    rintro e w1 ⟨rfl, rfl⟩
    clear hc
    go_wp2_with fail
    go_ret
    exact ⟨rfl, Below.refl _ _⟩
  · obtain ⟨r, x, rfl⟩ : ∃ r x, s = r ++ [x] := ⟨s.dropLast, s.getLast h0, (List.dropLast_concat_getLast h0).symm⟩
    have hL : (r ++ [x]).length = r.length + 1 := by simp
    have hgx : ∀ h : r.length < (r ++ [x]).length, (r ++ [x])[r.length]'h = x := fun h => by simp
    have hcI : (cc : Int) ≤ 70000 := by omega
    have hrI : (r.length : Int) ≤ 70000 := by omega
    have hem : (r ++ [x]).isEmpty = false := by cases r <;> rfl
    have hne0 : ((r ++ [x]) == []) = false := by rw [beq_eq_false_iff_ne]; exact h0
    by_cases hl : x = 10
    · have hl2 : (r ++ [x]).getLast? = some 10 := by rw [hl]; simp
      rw [linesOf_nl _ hl2, hcc]
      have hxI : ((x.toNat : Int) == 10) = true := by rw [hl]; rfl
      have hxN : ((x.toNat : Int) != 10) = false := by rw [hl]; rfl
      have H1 := Lib.hid hL
      have H2 := Lib.hid hgx
      clear hl2 hl hcc hle hcl hlen hL hgx
      go_enter Tryd.func35, Tryd.ntmps35
      go_wp2_with fail
      refine hc.out.mono ?_
      rintro e w1 ⟨rfl, rfl⟩
      clear hc
      go_wp2_with fail
      go_ret
      exact ⟨rfl, Below.refl _ _⟩
    · have hl2 : (r ++ [x]).getLast? = some 10 → False := by simp; exact hl
      rw [linesOf_no _ h0 hl2, hcc]
      have hxI : ((x.toNat : Int) == 10) = false := by rw [beq_eq_false_iff_ne]; intro h; exact hl (UInt8.toNat_inj.1 (by exact_mod_cast h))
      have hxN : ((x.toNat : Int) != 10) = true := by rw [bne_iff_ne]; intro h; exact hl (UInt8.toNat_inj.1 (by exact_mod_cast h))
      have H1 := Lib.hid hL
      have H2 := Lib.hid hgx
      clear hl2 hl hcc hle hcl hlen hL hgx
      go_enter Tryd.func35, Tryd.ntmps35
      go_wp2_with fail
      refine hc.out.mono ?_
      rintro e w1 ⟨rfl, rfl⟩
      clear hc
      go_wp2_with fail
      go_ret
      exact ⟨rfl, Below.refl _ _⟩
end Go.Proofs.YtojdjhicjhhblaaDoor
