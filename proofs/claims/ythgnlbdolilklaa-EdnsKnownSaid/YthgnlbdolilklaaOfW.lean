/- What a message that says something says; what it is without it: plain laws of its lists. -/
import Derived.Test.YthgnlbdolilklaaWiM
import Derived.Test.YthgnlbdolilklaaAwkF
namespace Go.Proofs.Ythgnlbdolilklaa
open Go Go.RowKit
theorem fit_snoc {Q : List RD} {L : List RL} (h : FitRs Q L) {sz hi ver : Int} {d : Bool} {raw : List UInt8} (hl : Q.length ≤ 4000000) (hg : mayB sz hi ver = true ∧ raw.length ≤ 65535) : FitRs (Q ++ [optRD sz.toNat (ttlN hi.toNat ver.toNat d) raw.length]) (L ++ [optRL raw]) := by
  obtain ⟨m1, m2, m3, m4, m5, m6⟩ := mayB_iff hg.1
  have ht := (ttl_of hi.toNat ver.toNat d (by omega) (by omega)).1
  refine ⟨by simp [h.1], by simp [reachBytes]; omega, fun j q l hq hl2 => ?_⟩
  rw [List.getElem?_append] at hq hl2
  by_cases hj : j < Q.length
  · rw [if_pos hj] at hq
    rw [if_pos (by rw [← h.1]; exact hj)] at hl2
    exact h.2.2 j q l hq hl2
  · rw [if_neg hj] at hq
    rw [if_neg (by rw [← h.1]; exact hj), ← h.1] at hl2
    obtain ⟨m, hm⟩ : ∃ m, j - Q.length = m := ⟨_, rfl⟩
    rw [hm] at hq hl2
    cases m with
    | succ m => simp at hq
    | zero =>
      simp only [List.getElem?_cons_zero, Option.some.injEq] at hq hl2
      subst hq hl2
      have hB : Blk ((default : World).alloc (.cells (u8s raw).toArray 5)) 0 5 (0, 0) (rowOf byteE raw) := by rw [rowOf_byte]; exact Blk.new (default : World) 5 (0, 0) (u8s raw).toArray
      have hr := rd_blk (E := byteE) hB raw.length rfl (by simp [maxLen]; omega)
      have nt : RdT ((default : World).alloc (.cells (u8s raw).toArray 5)) none 0 0 [] := ⟨Rd.nil _ _, fun s hs => (by cases hs), by decide⟩
      exact ⟨_, nt, ⟨[], Rd.nil _ _, rfl, by show 0 * 24 ≤ reachBytes; decide, fun j p X hp => by simp at hp⟩, Rd.nil _ _, nt, hr, by show sz.toNat < 65536; omega, by show (41 : Nat) < 65536; decide, ht, fun n hn => (by cases hn), by show 0 * 4 ≤ reachBytes; decide, by show raw.length ≤ reachBytes; simp [reachBytes]; omega⟩
theorem snoc_of {A B : List RD} {q : RD} (h : A.map metaR = (B ++ [q]).map metaR) : ∃ A' q', A = A' ++ [q'] ∧ A'.map metaR = B.map metaR ∧ metaR q' = metaR q := by
  rcases List.eq_nil_or_concat A with rfl | ⟨A', q', rfl⟩
  · simp at h
  · refine ⟨A', q', List.concat_eq_append, ?_⟩
    rw [List.concat_eq_append, List.map_append, List.map_append] at h
    have := List.append_inj' h rfl
    simpa using this
theorem isOpt_of {q : RD} {sz ttl rl : Nat} (h : metaR q = metaR (optRD sz ttl rl)) : isOpt q = true ∧ q.ty = 41 ∧ q.cl = sz ∧ q.ttl = ttl := by
  unfold metaR optRD at h
  simp only [Prod.mk.injEq] at h
  obtain ⟨h1, h2, h3⟩ := h
  exact ⟨by unfold isOpt; rw [h1]; rfl, h1, h2, h3⟩
theorem zf_with {A B : List RD} {L : List RL} {l : RL} {sz ttl rl : Nat} (hno : ∀ x ∈ B, isOpt x = false) (hL : B.length = L.length) (h : A.map metaR = (B ++ [optRD sz ttl rl]).map metaR) :
    (zQ A (L ++ [l])).map metaR = B.map metaR ∧ zL A (L ++ [l]) = L ∧ idxF A 0 = B.length := by
  obtain ⟨A', q', rfl, h1, h2⟩ := snoc_of h
  have hl : A'.length = L.length := by rw [← hL]; simpa using congrArg List.length h1
  have hn := meta_no h1 hno
  obtain ⟨e1, e2⟩ := zf_snoc (l := l) hl hn (isOpt_of h2).1
  rw [e1, e2]
  refine ⟨h1, rfl, ?_⟩
  rw [idxF_snoc hn (isOpt_of h2).1, hl, hL]
theorem ofU_with {w : World} {a : Option Addr} {n c : Nat} {A B : List RD} {L : List RL} {O : List Opt} {sz hi ver : Int} {d : Bool} (hr : RdRs w a n c A (L ++ [optRL (rawB O)])) (hno : ∀ x ∈ B, isOpt x = false) (hL : B.length = L.length)
    (h : A.map metaR = (B ++ [optRD sz.toNat (ttlN hi.toNat ver.toNat d) (rawB O).length]).map metaR) (hg : mayB sz hi ver = true ∧ (rawB O).length ≤ 65535) (hC : ∀ o ∈ O, o.1 < 65536) : OfU A (L ++ [optRL (rawB O)]) sz hi ver d O true 0 := by
  obtain ⟨A', q', rfl, h1, h2⟩ := snoc_of h
  have hl : A'.length = L.length := by rw [← hL]; simpa using congrArg List.length h1
  have hn := meta_no h1 hno
  obtain ⟨i1, i2, i3, i4⟩ := isOpt_of h2
  have hq : (A' ++ [q'])[A'.length]? = some q' := by simp
  have hl2 : (L ++ [optRL (rawB O)])[A'.length]? = some (optRL (rawB O)) := by rw [hl]; simp
  have hR := hr.2.2.2 _ q' _ hq hl2
  obtain ⟨m1, m2, m3, m4, m5, m6⟩ := mayB_iff hg.1
  obtain ⟨t1, t2, t3, t4, t5⟩ := ttl_of hi.toNat ver.toNat d (by omega) (by omega)
  have z0 : q'.on = 0 := hR.ow.1.len.symm
  have z1 : q'.mn = 0 := hR.nm.len.symm
  have z2 : q'.un = 0 := hR.nu.len.symm
  have z3 : q'.xn = 0 := hR.tx.1.len.symm
  refine .inr (.inr ⟨A'.length, q', optRL (rawB O), idxF_snoc hn i1, by simp, ?_, hq, hl2, rfl, fun base e w' hB => ?_⟩)
  · rw [List.drop_of_length_le (by simp)]; decide
  · rw [z0, z1, z2, z3, i2, i3, i4] at hB
    unfold ReadB at hB
    rw [if_pos ⟨rfl, rfl, t2, rfl, rfl, rfl, hg.2⟩] at hB
    show ∃ u, e = .returned (.tuple #[eV sz hi ver d u, .int .i64 0]) ∧ OwnO w' base u O
    have hp : prs (optRL (rawB O)).raw 0 = some O := prs_of_raw (okO_of hC hg.2)
    rw [hp] at hB
    obtain ⟨u, rfl, hu⟩ := hB
    refine ⟨u, ?_, hu⟩
    rw [t3, t4, t5, Int.toNat_of_nonneg m1, Int.toNat_of_nonneg m3, Int.toNat_of_nonneg m5]
end Go.Proofs.Ythgnlbdolilklaa
