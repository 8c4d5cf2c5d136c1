/- Small lemmas: what Read answers, whatever the record is; stores into new blocks. -/
import Derived.Test.YthgnlbdolilklaaRfR
import Derived.Test.YthgnlbdolilklaaOvE
namespace Go.Proofs.Ythgnlbdolilklaa
open Go Go.RowKit Go.Maps
theorem readB_uni (n0 ty cl ttl n4 n5 n6 : Nat) (raw : List UInt8) : ∃ (s h v : Int) (d : Bool) (A : List Opt) (E : Int), A.length ≤ 1152921504606846976 ∧
    ∀ (base : Nat) (e : Ending) (w' : World), ReadB base n0 ty cl ttl n4 n5 n6 raw e w' → ∃ u, e = .returned (.tuple #[eV s h v d u, .int .i64 E]) ∧ OwnO w' base u A := by
  by_cases h : rdOK n0 ty ttl n4 n5 n6 raw.length
  · cases hp : prs raw 0 with
    | none =>
      refine ⟨0, 0, 0, false, [], 8, by decide, fun base e w' hR => ?_⟩
      unfold ReadB at hR
      rw [if_pos h, hp] at hR
      exact ⟨nilV, hR, OwnO.nil _ _⟩
    | some A =>
      refine ⟨cl, (ttl / 16777216 : Nat), (ttl / 65536 % 256 : Nat), (ttl / 32768 % 2 == 1), A, 0, ?_, fun base e w' hR => ?_⟩
      · obtain ⟨e1, _⟩ := raw_of_prs hp
        have h2 := h.2.2.2.2.2.2
        rw [e1, rawB_len] at h2
        have h3 : ∀ B : List Opt, B.length ≤ (B.map fun o => 4 + o.2.length).sum := fun B => by
          induction B with
          | nil => simp
          | cons b r ih => simp only [List.length_cons, List.map_cons, List.sum_cons]; omega
        have := h3 A
        omega
      · unfold ReadB at hR
        rw [if_pos h, hp] at hR
        exact hR
  · refine ⟨0, 0, 0, false, [], 8, by decide, fun base e w' hR => ?_⟩
    unfold ReadB at hR
    rw [if_neg h] at hR
    exact ⟨nilV, hR, OwnO.nil _ _⟩
theorem ownRec_store {w w' : World} {b k : Nat} {q : RD} {L : RL} {t : TypeId} {fz : Nat × Nat} {C : List Value} (ho : OwnRec w b q L) (hB : Blk w k t fz C) (h1 : (9 : Nat) ≠ t) (h2 : (26 : Nat) ≠ t) (h3 : (30 : Nat) ≠ t) (h4 : (5 : Nat) ≠ t) (hg : w.grownBy w' (some k)) : OwnRec w' b q L :=
  ⟨own_store ho.ow hB h1 hg, ownN_store ho.nm hB h2 h1 hg, own_store ho.nu hB h3 hg, own_store ho.tx hB h1 hg, own_store ho.raw hB h4 hg⟩
theorem ownO_rd_at {w : World} {base : Nat} {a : Option Addr} {n c : Nat} {l : List Opt} (h : OwnO w base (.slice a n c) l) : RdO w a n c l ∧ l.length = n := by
  obtain ⟨a', c', e, r⟩ := h.rdO
  simp only [Value.slice.injEq] at e
  obtain ⟨x1, x2, x3⟩ := e
  rw [x1, x2, x3]
  exact ⟨r, rfl⟩
theorem OwnRec.lens {w w0 : World} {base : Nat} {q q0 : RD} {L : RL} (ho : OwnRec w base q L) (h : RecR w0 q0 L) : q.on = q0.on ∧ q.mn = q0.mn ∧ q.un = q0.un ∧ q.xn = q0.xn ∧ q.rn = q0.rn := by
  obtain ⟨_, e1⟩ := own_rd_at ho.ow
  obtain ⟨_, e3⟩ := own_rd_at ho.nu
  obtain ⟨_, e4⟩ := own_rd_at ho.tx
  obtain ⟨_, e5⟩ := own_rd_at ho.raw
  obtain ⟨a, c, e2⟩ := ho.nm.shape
  simp only [Value.slice.injEq] at e2
  have d1 := h.ow.1.len
  have d2 := h.nm.len
  have d3 := h.nu.len
  have d4 := h.tx.1.len
  have d5 := h.raw.len
  omega
theorem fresh_store {wp wn wy : World} (h : Below wp.heap.size wp wn) (hg : wn.grownBy wy (some wp.heap.size)) : Below wp.heap.size wp wy := h.grown hg h.size (fun k hk => by cases hk; exact Nat.le_refl _)
theorem enter9 (args : Array Value) (w : World) : (callFunc 9 args).run Try.prog w = .ok (.enter 9 args) w := Go.MuLone.run_callFunc_enter Try.func9 (by kernel_rfl) (by rfl) args w
end Go.Proofs.Ythgnlbdolilklaa
