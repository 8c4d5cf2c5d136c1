/- What a message that says something says; what it is without it: plain laws of its lists. -/
import Derived.Test.YthgnlbdolilklaaWiM
import Derived.Test.YthgnlbdolilklaaJn6
namespace Go.Proofs.Ythgnlbdolilklaa
open Go Go.RowKit
theorem fit_snoc {Q : List RD} {L : List RL} (h : FitRs Q L) {sz hi ver : Int} {d : Bool} {raw : List UInt8} (hl : Q.length ≤ 4000000) (hg : mayB sz hi ver = true ∧ raw.length ≤ 65535) : FitRs (Q ++ [optRD sz.toNat (ttlN hi.toNat ver.toNat d) raw.length]) (L ++ [optRL raw]) := by
  obtain ⟨m1, m2, m3, m4, m5, m6⟩ := mayB_iff hg.1
  have ht := (ttl_of hi.toNat ver.toNat d (by omega) (by omega)).1
  refine ⟨by simp [h.1], by simp [reachBytes]; omega, fun j q l hq hl2 => ?_⟩
  rw [List.getElem?_append] at hq hl2
  by_cases hj : j < Q.length
  · rw [if_pos hj] at hq
    rw [if_pos (by rw [← h.1]; exact hj)] at hl2
    exact h.2.2 j q l hq hl2
  · rw [if_neg hj] at hq
    rw [if_neg (by rw [← h.1]; exact hj), ← h.1] at hl2
    obtain ⟨m, hm⟩ : ∃ m, j - Q.length = m := ⟨_, rfl⟩
    rw [hm] at hq hl2
    cases m with
    | succ m => simp at hq
    | zero =>
      simp only [List.getElem?_cons_zero, Option.some.injEq] at hq hl2
      subst hq hl2
      have hB : Blk ((default : World).alloc (.cells (u8s raw).toArray 5)) 0 5 (0, 0) (rowOf byteE raw) := by rw [rowOf_byte]; exact Blk.new (default : World) 5 (0, 0) (u8s raw).toArray
      have hr := rd_blk (E := byteE) hB raw.length rfl (by simp [maxLen]; omega)
      have nt : RdT ((default : World).alloc (.cells (u8s raw).toArray 5)) none 0 0 [] := ⟨Rd.nil _ _, fun s hs => (by cases hs), by decide⟩
      exact ⟨_, nt, ⟨[], Rd.nil _ _, rfl, by show 0 * 24 ≤ reachBytes; decide, fun j p X hp => by simp at hp⟩, Rd.nil _ _, nt, hr, by show sz.toNat < 65536; omega, by show (41 : Nat) < 65536; decide, ht, fun n hn => (by cases hn), by show 0 * 4 ≤ reachBytes; decide, by show raw.length ≤ reachBytes; simp [reachBytes]; omega⟩
end Go.Proofs.Ythgnlbdolilklaa
