/- Layer 2, labels: what a label's text is read as (label.Parse). Texts of at most 2^47 bytes. -/
import Derived.Test.YtffdcfannnmjnaaLabel
import Derived.BigQuiet
import Derived.WalkSmall
import Derived.Deep.QuietTactic
namespace Go.Proofs.Ytffdcfannnmjnaa
open Go.RowKit

def digB (c : UInt8) : Bool := 48 ≤ c.toNat && c.toNat ≤ 57
/-- what a byte, or a backslash and what follows, says -/
def nextL : List UInt8 → Option (UInt8 × Nat)
  | [] => none
  | c :: r => if c.toNat < 33 ∨ 126 < c.toNat then none else if c ≠ 92 then some (c, 1) else
    match r with
    | [] => none
    | d :: r2 => if d.toNat < 33 ∨ 126 < d.toNat then none else if digB d = false then some (d, 2) else
      match r2 with
      | e :: f :: _ => if digB e = false ∨ digB f = false then none else
          if 255 < 100 * (d.toNat - 48) + 10 * (e.toNat - 48) + (f.toNat - 48) then none else some (UInt8.ofNat (100 * (d.toNat - 48) + 10 * (e.toNat - 48) + (f.toNat - 48)), 4)
      | _ => none
def nextV (s : List UInt8) : Value := match nextL s with | none => .tuple #[.int .u8 0, .int .i64 0] | some (c, n) => .tuple #[.int .u8 c.toNat, .int .i64 n]

theorem ne_toNat {c d : UInt8} (h : c ≠ d) : c.toNat ≠ d.toNat := fun e => h (UInt8.toNat_inj.1 e)

theorem digB_yes {c : UInt8} (h : digB c = true) : (48:Int) ≤ (c.toNat : Int) ∧ (c.toNat : Int) ≤ 57 := by
  simp [digB] at h; omega
theorem digB_no {c : UInt8} (h : digB c = false) : (c.toNat : Int) < 48 ∨ (57:Int) < (c.toNat : Int) := by
  simp [digB] at h; omega

set_option maxHeartbeats 4000000 in
theorem next_any (s : List UInt8) (w : World) (h0 : s ≠ []) (hs : s.length ≤ 140737488355328) :
    Calls Try.prog 102 #[.string (mk s)] w fun e w' => e = .returned (nextV s) ∧ Below w.heap.size w w' := by
  match s, h0 with
  | c :: r, _ =>
  by_cases h1 : c.toNat < 33 ∨ 126 < c.toNat
  · have hv : nextV (c :: r) = .tuple #[.int .u8 0, .int .i64 0] := by simp [nextV, nextL, h1]
    rw [hv]; clear hv
    rcases h1 with h1 | h1
    · go_enter Try.func102, Try.ntmps102
      go_wp2
      all_goals (go_ret2; exact ⟨rfl, by first | exact Below.refl _ _ | exact below_drewN (Below.refl _ _) _⟩)
    · go_enter Try.func102, Try.ntmps102
      go_wp2
      all_goals (go_ret2; exact ⟨rfl, by first | exact Below.refl _ _ | exact below_drewN (Below.refl _ _) _⟩)
  · by_cases h2 : c = 92
    · subst h2
      clear h1
      have h2' : (((92 : UInt8).toNat : Int) != 92) = false := by decide
      have h3' : ((92 : UInt8).toNat : Int) = 92 := by decide
      match r, hs with
      | [], hs =>
        go_enter Try.func102, Try.ntmps102
        go_wp2
        all_goals (go_ret2; exact ⟨rfl, by first | exact Below.refl _ _ | exact below_drewN (Below.refl _ _) _⟩)
      | d :: r2, hs =>
        have i0 : (0:Int) < (r2.length : Int) + 1 + 1 := by omega
        have i1 : (1:Int) < (r2.length : Int) + 1 + 1 := by omega
        by_cases h4 : d.toNat < 33 ∨ 126 < d.toNat
        · have hv : nextV (92 :: d :: r2) = .tuple #[.int .u8 0, .int .i64 0] := by simp [nextV, nextL, h4]
          rw [hv]; clear hv
          rcases h4 with h4 | h4
          · go_enter Try.func102, Try.ntmps102
            go_wp2
            all_goals (go_ret2; exact ⟨rfl, by first | exact Below.refl _ _ | exact below_drewN (Below.refl _ _) _⟩)
          · go_enter Try.func102, Try.ntmps102
            go_wp2
            all_goals (go_ret2; exact ⟨rfl, by first | exact Below.refl _ _ | exact below_drewN (Below.refl _ _) _⟩)
        · cases h5 : digB d with
          | false =>
            have hv : nextV (92 :: d :: r2) = .tuple #[.int .u8 d.toNat, .int .i64 2] := by simp [nextV, nextL, h4, h5]
            rw [hv]; clear hv
            rcases digB_no h5 with h6 | h6
            · clear h5
              have b1 : decide ((48:Int) ≤ (d.toNat:Int)) = false := by simp; omega
              go_enter Try.func102, Try.ntmps102
              go_wp2
              all_goals (go_ret2; exact ⟨rfl, by first | exact Below.refl _ _ | exact below_drewN (Below.refl _ _) _⟩)
            · clear h5
              have b1 : decide ((d.toNat:Int) ≤ 57) = false := by simp; omega
              go_enter Try.func102, Try.ntmps102
              go_wp2
              all_goals (go_ret2; exact ⟨rfl, by first | exact Below.refl _ _ | exact below_drewN (Below.refl _ _) _⟩)
          | true =>
            obtain ⟨h6, h7⟩ := digB_yes h5
            match r2, hs with
            | [], hs =>
              have hv : nextV [92, d] = .tuple #[.int .u8 0, .int .i64 0] := by simp [nextV, nextL, h4, h5]
              rw [hv]; clear hv h5
              go_enter Try.func102, Try.ntmps102
              go_wp2
              all_goals (go_ret2; exact ⟨rfl, by first | exact Below.refl _ _ | exact below_drewN (Below.refl _ _) _⟩)
            | [e], hs =>
              have hv : nextV [92, d, e] = .tuple #[.int .u8 0, .int .i64 0] := by simp [nextV, nextL, h4, h5]
              rw [hv]; clear hv h5
              go_enter Try.func102, Try.ntmps102
              go_wp2
              all_goals (go_ret2; exact ⟨rfl, by first | exact Below.refl _ _ | exact below_drewN (Below.refl _ _) _⟩)
            | e :: f :: r3, hs =>
              clear i0 i1
              have i0 : (0:Int) < (r3.length : Int) + 1 + 1 + 1 + 1 := by omega
              have i1 : (1:Int) < (r3.length : Int) + 1 + 1 + 1 + 1 := by omega
              have i2 : (2:Int) < (r3.length : Int) + 1 + 1 + 1 + 1 := by omega
              have i3 : (3:Int) < (r3.length : Int) + 1 + 1 + 1 + 1 := by omega
              cases he : digB e with
              | false =>
                have hv : nextV (92 :: d :: e :: f :: r3) = .tuple #[.int .u8 0, .int .i64 0] := by simp [nextV, nextL, h4, h5, he]
                rw [hv]; clear hv h5
                have b1 : decide ((48:Int) ≤ (e.toNat:Int)) = false ∨ decide ((e.toNat:Int) ≤ 57) = false := by simp; have := digB_no he; omega
                rcases b1 with b1 | b1
                all_goals
                  clear he
                  go_enter Try.func102, Try.ntmps102
                  go_wp2
                  all_goals (go_ret2; exact ⟨rfl, by first | exact Below.refl _ _ | exact below_drewN (Below.refl _ _) _⟩)
              | true =>
                obtain ⟨h8, h9⟩ := digB_yes he
                cases hf : digB f with
                | false =>
                  have hv : nextV (92 :: d :: e :: f :: r3) = .tuple #[.int .u8 0, .int .i64 0] := by simp [nextV, nextL, h4, h5, he, hf]
                  rw [hv]; clear hv h5
                  have b1 : decide ((48:Int) ≤ (f.toNat:Int)) = false ∨ decide ((f.toNat:Int) ≤ 57) = false := by simp; have := digB_no hf; omega
                  rcases b1 with b1 | b1
                  all_goals
                    clear he hf
                    go_enter Try.func102, Try.ntmps102
                    go_wp2
                    all_goals (go_ret2; exact ⟨rfl, by first | exact Below.refl _ _ | exact below_drewN (Below.refl _ _) _⟩)
                | true =>
                  obtain ⟨h10, h11⟩ := digB_yes hf
                  by_cases hb : 255 < 100 * (d.toNat - 48) + 10 * (e.toNat - 48) + (f.toNat - 48)
                  · have hv : nextV (92 :: d :: e :: f :: r3) = .tuple #[.int .u8 0, .int .i64 0] := by simp [nextV, nextL, h4, h5, he, hf, hb]
                    rw [hv]; clear hv h5 he hf
                    go_enter Try.func102, Try.ntmps102
                    go_wp2
                    go_quiet (fail)
                    go_wp2
                    all_goals (go_ret2; exact ⟨rfl, by first | exact Below.refl _ _ | exact below_drewN (Below.refl _ _) _⟩)
                  · have hv : nextV (92 :: d :: e :: f :: r3) = .tuple #[.int .u8 ((100 * (d.toNat - 48) + 10 * (e.toNat - 48) + (f.toNat - 48) : Nat) : Int), .int .i64 4] := by
                      simp [nextV, nextL, h4, h5, he, hf, hb]; omega
                    rw [hv]; clear hv h5 he hf
                    go_enter Try.func102, Try.ntmps102
                    go_wp2
                    go_quiet (fail)
                    go_wp2
                    all_goals (go_ret2; exact ⟨congrArg (fun z => Ending.returned (.tuple #[.int .u8 z, .int .i64 4])) (by omega), below_drewN (Below.refl _ _) _⟩)
    · have hv : nextV (c :: r) = .tuple #[.int .u8 c.toNat, .int .i64 1] := by simp [nextV, nextL, h1, h2]
      rw [hv]; clear hv
      have h2' : ((c.toNat : Int) != 92) = true := by
        rw [bne_iff_ne]; have := ne_toNat h2; simp at this; omega
      go_enter Try.func102, Try.ntmps102
      go_wp2
      all_goals (go_ret2; exact ⟨rfl, by first | exact Below.refl _ _ | exact below_drewN (Below.refl _ _) _⟩)
end Go.Proofs.Ytffdcfannnmjnaa
