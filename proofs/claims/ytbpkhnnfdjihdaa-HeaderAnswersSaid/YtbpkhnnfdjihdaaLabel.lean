/- Layer 2, labels: folding, comparing. What each Go function computes. Texts of at most 2^47 bytes. -/
import Derived.Test.YtbpkhnnfdjihdaaProg
import Derived.Test.YtbpkhnnfdjihdaaLib
import Derived.Lib.Bytealg
namespace Go.Proofs.Ytbpkhnnfdjihdaa
open Go.RowKit

/-- One letter made small. -/
def foldC (c : UInt8) : UInt8 := if 65 ≤ c.toNat ∧ c.toNat ≤ 90 then c + 32 else c
def foldL (l : List UInt8) : List UInt8 := l.map foldC
theorem length_foldL (l : List UInt8) : (foldL l).length = l.length := by simp [foldL]

theorem foldC_yes {c : UInt8} (h1 : (65:Int) ≤ (c.toNat : Int)) (h2 : (c.toNat : Int) ≤ 90) : u8 (foldC c) = .int .u8 ((c.toNat : Int) + 97 - 65) := by
  have a : 65 ≤ c.toNat := by omega
  have b : c.toNat ≤ 90 := by omega
  unfold u8 foldC
  rw [if_pos ⟨a, b⟩, UInt8.toNat_add]
  simp; omega
theorem foldC_no {c : UInt8} (h : ¬ ((65:Int) ≤ (c.toNat : Int) ∧ (c.toNat : Int) ≤ 90)) : foldC c = c := by
  unfold foldC; rw [if_neg (by omega)]

set_option maxHeartbeats 400000 in
theorem fold_any (l : List UInt8) (w : World) (hs : l.length ≤ 140737488355328) :
    Calls Try.prog 60 #[.string (mk l)] w fun e w' => e = .returned (.string (mk (foldL l))) ∧ Below w.heap.size w w' := by
  have hcv := fun w s => run_bytes_of_string (P := Try.prog) w 9 22 5 s Try.underlying9 Try.underlying22 Try.underlying5
  go_enter Try.func60, Try.ntmps60
  go_wp2
  clear hcv
  generalize grownCap w l.length 0 5 = cap
  have hF : ∃ fz, Hid (fz = ((bytesRow (mk l) cap).size, (bytesRow (mk l) cap).size + 1)) := ⟨_, rfl⟩
  obtain ⟨fz, hfz⟩ := hF
  go_loopw [10] (fun i wr => ∃ k : Nat, k ≤ l.length ∧ i = .int .i64 k ∧ Below w.heap.size w wr ∧
      Blk wr w.heap.size 5 fz (u8s ((l.take k).map foldC ++ l.drop k) ++ List.replicate (cap - l.length) (.int .u8 0)))
    (fun i _ => l.length - (intOf i).toNat)
  case atStart => 
    refine ⟨0, Nat.zero_le _, rfl, ((Below.refl _ _).alloc (Nat.le_refl _) _).drew, ?_⟩
    rw [hfz.out]
    have := Blk.new w 5 ((bytesRow (mk l) cap).size, (bytesRow (mk l) cap).size + 1) (bytesRow (mk l) cap)
    rw [bytesRow_mk] at this
    exact this
  case round =>
    obtain ⟨k, hk, rfl, hb, hB⟩ := hrel
    by_cases hlt : k < l.length
    · have hc : wr.cell? ⟨w.heap.size, k, none⟩ = some (u8 l[k]) := by
        rw [hB.cell, u8s, List.getElem?_append_left (by simp; omega), List.getElem?_map, upd_at _ _ _ hlt]; rfl
      have hf : wr.frozen? ⟨w.heap.size, k, none⟩ = false := by
        rw [hB.frozen, hfz.out]
        simp [bytesRow_size]; omega
      unfold u8 at hc
      have hS := Lib.hid hB; clear hB
      go_wp2
      · go_roundw
        case rel =>
          refine ⟨k + 1, by omega, by go_num, hb.setCell (Nat.le_refl _) _, ?_⟩
          have hx := hS.out.set k (u8 (foldC l[k]))
          rw [← upd_step l foldC k hlt, ← foldC_yes ‹_› ‹_›]
          rw [List.set_append_left _ _ (by rw [u8s_length]; simp; omega)] at hx
          simpa [u8s, List.map_set] using hx
        case measure => simp [intOf]; omega
      all_goals
        go_roundw
        case rel =>
          refine ⟨k + 1, by omega, by go_num, hb, ?_⟩
          rw [← upd_keep l foldC k hlt (foldC_no (by omega))]
          exact hS.out
        case measure => simp [intOf]; omega
    · have hk' : k = l.length := by omega
      have hcv := run_str (P := Try.prog) wr 22 9 5 Try.underlying22 Try.underlying5 Try.underlying9 w.heap.size 0 l.length cap (foldL l) (length_foldL l) (by
        intro j hj
        have hj' : j < l.length := by simpa [foldL] using hj
        rw [hB.cell, hk', List.take_length, List.drop_length, List.append_nil, List.getElem?_append_left (by simp [u8s]; omega)]
        simp [u8s, u8, foldL, hj'])
      clear hB hk'
      go_wp2
      go_ret
      exact ⟨rfl, hb⟩
theorem same_any (a b : List UInt8) (w : World) (ha : a.length ≤ 140737488355328) (hb : b.length ≤ 140737488355328) :
    Calls Try.prog 56 #[.string (mk a), .string (mk b)] w fun e w' => e = .returned (.bool (foldL a == foldL b)) ∧ Below w.heap.size w w' := by
  go_enter Try.func56, Try.ntmps56
  go_wp2_with fail
  refine (fold_any a w ha).mono ?_
  rintro e w1 ⟨rfl, hb1⟩
  go_wp2_with fail
  refine (fold_any b w1 hb).mono ?_
  rintro e w2 ⟨rfl, hb2⟩
  go_wp2_with fail
  go_ret
  exact ⟨rfl, hb1.trans (hb2.mono hb1.size)⟩

theorem u8_eq {x y : UInt8} (h : ¬ x < y) (g : ¬ y < x) : x = y := by
  rw [UInt8.lt_iff_toNat_lt] at h g
  exact UInt8.toNat_inj.1 (by omega)
theorem cmp_refl : ∀ a : List UInt8, Lib.compareBytes a a = 0
  | [] => rfl
  | x :: xs => by unfold Lib.compareBytes; simp [cmp_refl xs, UInt8.lt_irrefl]
theorem cmp_anti : ∀ a b : List UInt8, Lib.compareBytes a b = - Lib.compareBytes b a
  | [], [] => rfl
  | [], _ :: _ => rfl
  | _ :: _, [] => rfl
  | x :: xs, y :: ys => by
    unfold Lib.compareBytes
    by_cases h : x < y
    · have : ¬ y < x := fun g => absurd (UInt8.lt_trans h g) (UInt8.lt_irrefl _)
      simp [h, this]
    · by_cases g : y < x
      · simp [h, g]
      · simp [h, g, cmp_anti xs ys]
theorem cmp_zero : ∀ a b : List UInt8, Lib.compareBytes a b = 0 ↔ a = b
  | [], [] => by simp [Lib.compareBytes]
  | [], _ :: _ => by simp [Lib.compareBytes]
  | _ :: _, [] => by simp [Lib.compareBytes]
  | x :: xs, y :: ys => by
    unfold Lib.compareBytes
    by_cases h : x < y
    · have : x ≠ y := fun e => by subst e; exact absurd h (UInt8.lt_irrefl _)
      simp [h, this]
    · by_cases g : y < x
      · have : x ≠ y := fun e => by subst e; exact absurd g (UInt8.lt_irrefl _)
        simp [h, g, this]
      · have : x = y := by
          exact u8_eq h g
        simp [this, UInt8.lt_irrefl, cmp_zero xs ys]
theorem cmp_range : ∀ a b : List UInt8, Lib.compareBytes a b = -1 ∨ Lib.compareBytes a b = 0 ∨ Lib.compareBytes a b = 1
  | [], [] => by simp [Lib.compareBytes]
  | [], _ :: _ => by simp [Lib.compareBytes]
  | _ :: _, [] => by simp [Lib.compareBytes]
  | x :: xs, y :: ys => by
    unfold Lib.compareBytes
    by_cases h : x < y
    · simp [h]
    · by_cases g : y < x
      · simp [h, g]
      · simp [h, g, cmp_range xs ys]
theorem cmp_trans : ∀ a b c : List UInt8, Lib.compareBytes a b ≤ 0 → Lib.compareBytes b c ≤ 0 → Lib.compareBytes a c ≤ 0
  | [], _, [] => by simp [Lib.compareBytes]
  | [], _, _ :: _ => by simp [Lib.compareBytes]
  | _ :: _, [], _ => by simp [Lib.compareBytes]
  | _ :: _, _ :: _, [] => by simp [Lib.compareBytes]
  | x :: xs, y :: ys, z :: zs => by
    unfold Lib.compareBytes
    intro h1 h2
    by_cases a1 : x < y
    · by_cases b1 : y < z
      · simp [UInt8.lt_trans a1 b1]
      · by_cases b2 : z < y
        · simp [b1, b2] at h2
        · have : y = z := u8_eq b1 b2
          subst this; simp [a1]
    · by_cases a2 : y < x
      · simp [a1, a2] at h1
      · have : x = y := u8_eq a1 a2
        subst this
        simp [UInt8.lt_irrefl] at h1
        by_cases b1 : x < z
        · simp [b1]
        · by_cases b2 : z < x
          · simp [b1, b2] at h2
          · simp [b1, b2] at h2 ⊢; exact cmp_trans xs ys zs h1 h2

theorem foldC_idem (c : UInt8) : foldC (foldC c) = foldC c := by
  unfold foldC
  by_cases h : 65 ≤ c.toNat ∧ c.toNat ≤ 90
  · rw [if_pos h, if_neg]
    rw [UInt8.toNat_add]; simp; omega
  · rw [if_neg h, if_neg h]
theorem foldL_idem (l : List UInt8) : foldL (foldL l) = foldL l := by
  simp [foldL, foldC_idem]

/-- from one world on, each step above what there was -/
theorem nx {B : Nat} {w a b : World} (h : Below B w a) (k : Below a.heap.size a b) (hB : B ≤ w.heap.size) : Below B w b := h.trans (k.mono (Nat.le_trans hB h.size))
theorem bch {w a b c d e f g h i j : World} (h1 : Below w.heap.size w a) (h2 : Below a.heap.size a b) (h3 : Below b.heap.size b c) (h4 : Below c.heap.size c d) (h5 : Below d.heap.size d e)
    (h6 : Below e.heap.size e f) (h7 : Below f.heap.size f g) (h8 : Below g.heap.size g h) (h9 : Below h.heap.size h i) (h10 : Below i.heap.size i j) : Below w.heap.size w j :=
  nx (nx (nx (nx (nx (nx (nx (nx (nx h1 h2 (Nat.le_refl _)) h3 (Nat.le_refl _)) h4 (Nat.le_refl _)) h5 (Nat.le_refl _)) h6 (Nat.le_refl _)) h7 (Nat.le_refl _)) h8 (Nat.le_refl _)) h9 (Nat.le_refl _)) h10 (Nat.le_refl _)
end Go.Proofs.Ytbpkhnnfdjihdaa
