/- Cuts of slices, under one name each. Nothing of the program. -/
import Derived.Test.YtojdjhicjhhblaaDoorRd
namespace Go.Proofs.YtojdjhicjhhblaaDoor
open Go.RowKit
theorem run_sizeOf_info {P : Program} {e k : Nat} (h : (P.info? e).map (·.size) = some k) (u : World) : (sizeOf e).run P u = .ok k u := by
  obtain ⟨i, hi, hk⟩ := Option.map_eq_some_iff.1 h
  simp [sizeOf, typeInfo, hi, hk]
theorem elem_of {P : Program} {t e : TypeId} (ht : P.underlying t = some (.slice e)) : P.elem t = e := by simp [Program.elem, ht]
/-- s[lo:hi] -/
theorem cut_lh {α : Type} {P : Program} {E : Enc α} {w : World} {a : Option Addr} {n c : Nat} {l : List α} (h : Rd E w a n c l) (t : TypeId) (ht : P.underlying t = some (.slice E.e)) (hs : (P.info? E.e).map (·.size) = some E.k)
    (kl kh : IntKind) (lo hi : Int) (lo' hi' : Nat) (e1 : lo = lo') (e2 : hi = hi') (h1 : lo' ≤ hi') (h2 : hi' ≤ n) :
    ∃ a', (∀ u, (Instr.slice t (.slice a n c) (some (.int kl lo)) (some (.int kh hi)) none).run P u = .ok (.slice a' (hi' - lo') (c - lo')) u) ∧ Rd E w a' (hi' - lo') (c - lo') ((l.take hi').drop lo') := by
  subst e1 e2
  have hc := h.cap
  refine ⟨_, fun u => ?_, h.cut lo' hi' c h1 h2 (by omega) (Nat.le_refl _)⟩
  have ee := elem_of ht
  rw [run_slice_lh u t a n c (by rw [ee]; exact ht) kl kh lo' hi' (by omega) (by omega) (by omega), ee, run_sizeOf_info hs]
  simp [Result.andThen, sliced]
/-- s[lo:] -/
theorem cut_l {α : Type} {P : Program} {E : Enc α} {w : World} {a : Option Addr} {n c : Nat} {l : List α} (h : Rd E w a n c l) (t : TypeId) (ht : P.underlying t = some (.slice E.e)) (hs : (P.info? E.e).map (·.size) = some E.k)
    (kl : IntKind) (lo : Int) (lo' : Nat) (e1 : lo = lo') (h1 : lo' ≤ n) :
    ∃ a', (∀ u, (Instr.slice t (.slice a n c) (some (.int kl lo)) none none).run P u = .ok (.slice a' (n - lo') (c - lo')) u) ∧ Rd E w a' (n - lo') (c - lo') (l.drop lo') := by
  subst e1
  have hc := h.cap
  have hl := h.len
  have hcut := h.cut lo' n c h1 (Nat.le_refl _) hc (Nat.le_refl _)
  rw [List.take_of_length_le (by omega)] at hcut
  refine ⟨_, fun u => ?_, hcut⟩
  have ee := elem_of ht
  rw [run_slice_l u t a n c (by rw [ee]; exact ht) kl lo' (by omega) (by omega), ee, run_sizeOf_info hs]
  simp [Result.andThen, sliced]
/-- s[:hi] -/
theorem cut_h {α : Type} {P : Program} {E : Enc α} {w : World} {a : Option Addr} {n c : Nat} {l : List α} (h : Rd E w a n c l) (t : TypeId) (ht : P.underlying t = some (.slice E.e)) (hs : (P.info? E.e).map (·.size) = some E.k)
    (kh : IntKind) (hi : Int) (hi' : Nat) (e2 : hi = hi') (h2 : hi' ≤ n) :
    ∃ a', (∀ u, (Instr.slice t (.slice a n c) none (some (.int kh hi)) none).run P u = .ok (.slice a' hi' c) u) ∧ Rd E w a' hi' c (l.take hi') := by
  subst e2
  have hc := h.cap
  have hcut := h.cut 0 hi' c (Nat.zero_le _) h2 (by omega) (Nat.le_refl _)
  simp only [Nat.sub_zero, List.drop_zero] at hcut
  refine ⟨_, fun u => ?_, hcut⟩
  have ee := elem_of ht
  rw [run_slice_h u t a n c (by rw [ee]; exact ht) kh hi' (by omega) (by omega), ee, run_sizeOf_info hs]
  simp [Result.andThen, sliced]
end Go.Proofs.YtojdjhicjhhblaaDoor
