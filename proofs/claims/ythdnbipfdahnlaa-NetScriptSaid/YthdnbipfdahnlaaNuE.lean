/- Both networks side by side; what one does the other does, plain. -/
import Derived.Test.YthdnbipfdahnlaaNuD
namespace Go.Proofs.Ythdnbipfdahnlaa
open Go Go.RowKit
/-- the program's network and the document's, apart: N calls were made -/
structure Bth (w : World) (n B : Nat) (S : Nat → Prop) (s : NS) (r : Nat) (L : List Fl) (N : Nat) : Prop where
  a : NetA w n B w.heap.size S s
  q : RefP w S r (s.F.drop s.at_) L s.c
  e : s.A = srtL L
  br : B ≤ r
  room : L.length ≤ 16384
  fates : s.F.length ≤ 65536
  at_ : s.at_ ≤ s.F.length
  mf : ∀ f ∈ s.F, mayF f = true
  dl : ∀ f ∈ L, f.d.length ≤ 65535
  sent : 0 ≤ s.c.sent ∧ s.c.sent ≤ N
  lost : 0 ≤ s.c.lost ∧ s.c.lost ≤ N
  forged : 0 ≤ s.c.forged ∧ s.c.forged ≤ N
  taken : 0 ≤ s.c.taken ∧ s.c.taken ≤ 16384 * N
/-- the plain part -/
structure BthP (s : NS) (L : List Fl) (N : Nat) : Prop where
  e : s.A = srtL L
  room : L.length ≤ 16384
  fates : s.F.length ≤ 65536
  at_ : s.at_ ≤ s.F.length
  mf : ∀ f ∈ s.F, mayF f = true
  dl : ∀ f ∈ L, f.d.length ≤ 65535
  sent : 0 ≤ s.c.sent ∧ s.c.sent ≤ N
  lost : 0 ≤ s.c.lost ∧ s.c.lost ≤ N
  forged : 0 ≤ s.c.forged ∧ s.c.forged ≤ N
  taken : 0 ≤ s.c.taken ∧ s.c.taken ≤ 16384 * N
theorem Bth.p {w : World} {n B : Nat} {S : Nat → Prop} {s : NS} {r : Nat} {L : List Fl} {N : Nat} (h : Bth w n B S s r L N) : BthP s L N := ⟨h.e, h.room, h.fates, h.at_, h.mf, h.dl, h.sent, h.lost, h.forged, h.taken⟩
theorem Bth.mk' {w : World} {n B : Nat} {S : Nat → Prop} {s : NS} {r : Nat} {L : List Fl} {N : Nat} (a : NetA w n B w.heap.size S s) (q : RefP w S r (s.F.drop s.at_) L s.c) (br : B ≤ r) (h : BthP s L N) : Bth w n B S s r L N := ⟨a, q, h.e, br, h.room, h.fates, h.at_, h.mf, h.dl, h.sent, h.lost, h.forged, h.taken⟩
theorem BthP.len {s : NS} {L : List Fl} {N : Nat} (h : BthP s L N) : s.A.length = L.length := by rw [h.e]; unfold srtL; rw [srtK_len]
theorem BthP.ok {s : NS} {L : List Fl} {N : Nat} (h : BthP s L N) (hN : N ≤ 1000) : s.ok := by
  have h1 := h.sent
  have h2 := h.lost
  have h3 := h.forged
  have h4 := h.taken
  have h5 := h.len
  have h6 := h.room
  exact ⟨by rw [h.e]; exact srtL_srt L, by omega, h.fates, h.at_, by omega, by omega, by omega, by omega⟩
theorem BthP.next {s : NS} {L : List Fl} {N : Nat} (h : BthP s L N) : BthP s L (N + 1) := by
  have h1 := h.sent
  have h2 := h.lost
  have h3 := h.forged
  have h4 := h.taken
  exact ⟨h.e, h.room, h.fates, h.at_, h.mf, h.dl, by omega, by omega, by omega, by omega⟩
theorem fate_head (s : NS) : (s.F.drop s.at_).headD (0, 0, 0) = fateAt s := by
  unfold fateAt
  rw [List.headD_eq_head?_getD, List.head?_drop]
theorem drop_tail (F : List Fate) (k : Nat) (hk : k ≤ F.length) : (F.drop k).tail = F.drop (min (k + 1) F.length) := by
  rw [List.tail_drop]
  rcases Nat.lt_or_ge k F.length with h | h
  · rw [Nat.min_eq_left (by omega)]
  · rw [Nat.min_eq_right (by omega), List.drop_of_length_le (by omega), List.drop_of_length_le (by omega)]
theorem flip_len (d : List UInt8) (m : Nat) : (flip d m).length = d.length := by unfold flip; rw [List.length_set]
theorem flsF_dl (f : Fate) (h : Hd) (d : List UInt8) (y : Int) (hd : d.length ≤ 65535) : ∀ x ∈ flsF f h d y, x.d.length ≤ 65535 := by
  intro x hx
  unfold flsF at hx
  split at hx
  · cases hx
  · split at hx
    · simp only [List.mem_cons, List.not_mem_nil, or_false] at hx
      rcases hx with rfl | rfl <;> exact hd
    · split at hx
      · simp only [List.mem_cons, List.not_mem_nil, or_false] at hx
        subst hx
        show (flip d _).length ≤ _
        rw [flip_len]
        exact hd
      · simp only [List.mem_cons, List.not_mem_nil, or_false] at hx
        subst hx
        exact hd
/-- Send does the same -/
theorem send_law {s : NS} {L : List Fl} {N : Nat} (hb : BthP s L N) (h : Hd) (d : List UInt8) (y : Int) :
    ∃ L', rsendS (s.F.drop s.at_) L s.c h d y = ((sendS s h d y).1, (sendS s h d y).2.1, (sendS s h d y).2.2.F.drop (sendS s h d y).2.2.at_, L', (sendS s h d y).2.2.c) ∧ BthP (sendS s h d y).2.2 L' (N + 1) := by
  have hl := hb.len
  unfold rsendS sendS
  rw [fate_head]
  by_cases hc : chk d.length y = 0
  · have hcn : ¬ chk d.length y ≠ 0 := fun h => h hc
    rw [if_neg hcn, if_neg hcn, hl]
    have hd := (chk_ok hc).1
    by_cases hf : 16384 < L.length + cntF (fateAt s)
    · rw [if_pos hf, if_pos hf]
      exact ⟨L, rfl, hb.next⟩
    · rw [if_neg hf, if_neg hf]
      have hlen := flsF_len (fateAt s) h d y
      have h1 := hb.sent
      have h2 := hb.lost
      have h3 := hb.forged
      have h4 := hb.taken
      have hdl : ∀ f ∈ L ++ flsF (fateAt s) h d y, f.d.length ≤ 65535 := fun f hf => by
        rcases List.mem_append.1 hf with hf | hf
        · exact hb.dl f hf
        · exact flsF_dl _ h d y hd f hf
      have hroom : (L ++ flsF (fateAt s) h d y).length ≤ 16384 := by rw [List.length_append, hlen]; omega
      have hat : min (s.at_ + 1) s.F.length ≤ s.F.length := Nat.min_le_right _ _
      rw [drop_tail s.F s.at_ hb.at_]
      by_cases k1 : (fateAt s).1 = 1
      · rw [if_pos k1, if_pos k1]
        refine ⟨L, ?_, ⟨hb.e, hb.room, hb.fates, hat, hb.mf, hb.dl, ?_, ?_, ?_, ?_⟩⟩
        · unfold cntF flsF
          rw [if_pos k1, if_pos k1, List.append_nil]
          rfl
        all_goals (dsimp only; omega)
      · rw [if_neg k1, if_neg k1]
        by_cases k2 : (fateAt s).1 = 2
        · rw [if_pos k2]
          refine ⟨L ++ flsF (fateAt s) h d y, ?_, ⟨?_, hroom, hb.fates, hat, hb.mf, hdl, ?_, ?_, ?_, ?_⟩⟩
          · unfold cntF
            rw [if_neg k1, if_pos k2, Int.add_zero]
            rfl
          · unfold flsF
            rw [if_neg k1, if_pos k2]
            dsimp only
            rw [show L ++ [⟨y + (fateAt s).2.1, h, d⟩, ⟨y + (fateAt s).2.1 + (fateAt s).2.2, h, d⟩] = (L ++ [(⟨y + (fateAt s).2.1, h, d⟩ : Fl)]) ++ [⟨y + (fateAt s).2.1 + (fateAt s).2.2, h, d⟩] by simp, srtL_snoc, srtL_snoc, hb.e]
          all_goals (dsimp only; omega)
        · rw [if_neg k2]
          by_cases k3 : (fateAt s).1 = 3
          · rw [if_pos k3]
            refine ⟨L ++ flsF (fateAt s) h d y, ?_, ⟨?_, hroom, hb.fates, hat, hb.mf, hdl, ?_, ?_, ?_, ?_⟩⟩
            · unfold cntF
              rw [if_neg k1, if_neg k2, Int.add_zero]
              rfl
            · unfold flsF
              rw [if_neg k1, if_neg k2, if_pos k3]
              dsimp only
              rw [srtL_snoc, hb.e]
            all_goals (dsimp only; omega)
          · rw [if_neg k3]
            refine ⟨L ++ flsF (fateAt s) h d y, ?_, ⟨?_, hroom, hb.fates, hat, hb.mf, hdl, ?_, ?_, ?_, ?_⟩⟩
            · unfold cntF
              rw [if_neg k1, if_neg k2, Int.add_zero]
              rfl
            · unfold flsF
              rw [if_neg k1, if_neg k2, if_neg k3]
              dsimp only
              rw [srtL_snoc, hb.e]
            all_goals (dsimp only; omega)
  · rw [if_pos hc, if_pos hc]
    exact ⟨L, rfl, hb.next⟩
/-- Forge does the same -/
theorem forge_law {s : NS} {L : List Fl} {N : Nat} (hb : BthP s L N) (h : Hd) (d : List UInt8) (y : Int) :
    ∃ L', rforgeS L s.c h d y = ((forgeS s h d y).1, L', (forgeS s h d y).2.c) ∧ BthP (forgeS s h d y).2 L' (N + 1) ∧ (forgeS s h d y).2.F = s.F ∧ (forgeS s h d y).2.at_ = s.at_ := by
  have hl := hb.len
  have h1 := hb.sent
  have h2 := hb.lost
  have h3 := hb.forged
  have h4 := hb.taken
  unfold rforgeS forgeS
  by_cases hc : chk d.length y = 0
  · have hcn : ¬ chk d.length y ≠ 0 := fun h => h hc
    rw [if_neg hcn, if_neg hcn, hl]
    by_cases hf : 16384 < L.length + 1
    · rw [if_pos hf, if_pos hf]
      exact ⟨L, rfl, hb.next, rfl, rfl⟩
    · rw [if_neg hf, if_neg hf]
      refine ⟨L ++ [⟨y, h, d⟩], rfl, ⟨?_, ?_, hb.fates, hb.at_, hb.mf, ?_, ?_, ?_, ?_, ?_⟩, rfl, rfl⟩
      · dsimp only
        rw [srtL_snoc, hb.e]
      · rw [List.length_append]; simp only [List.length_cons, List.length_nil]; omega
      · intro f hf
        rcases List.mem_append.1 hf with hf | hf
        · exact hb.dl f hf
        · simp only [List.mem_cons, List.not_mem_nil, or_false] at hf
          subst hf
          exact (chk_ok hc).1
      all_goals (dsimp only; omega)
  · rw [if_pos hc, if_pos hc]
    exact ⟨L, rfl, hb.next, rfl, rfl⟩
/-- Due does the same -/
theorem due_law {s : NS} {L : List Fl} {N : Nat} (hb : BthP s L N) (y : Int) :
    ∃ L', rdueS L s.c y = ((dueS s y).1, (dueS s y).2.1, L', (dueS s y).2.2.c) ∧ BthP (dueS s y).2.2 L' (N + 1) ∧ (dueS s y).2.2.F = s.F ∧ (dueS s y).2.2.at_ = s.at_ ∧ (dueS s y).1.length ≤ 16384 := by
  have hl := hb.len
  have h1 := hb.sent
  have h2 := hb.lost
  have h3 := hb.forged
  have h4 := hb.taken
  have h5 := hb.room
  unfold rdueS dueS
  by_cases hy : y < 0 ∨ 1099511627776 < y
  · rw [if_pos hy, if_pos hy]
    exact ⟨L, rfl, hb.next, rfl, rfl, Nat.zero_le _⟩
  · rw [if_neg hy, if_neg hy, ← hb.e]
    have ht : (s.A.takeWhile fun f => decide (f.at_ ≤ y)).length ≤ 16384 := by
      have := (List.takeWhile_sublist (l := s.A) (fun f => decide (f.at_ ≤ y))).length_le
      omega
    have hd : (s.A.dropWhile fun f => decide (f.at_ ≤ y)).length ≤ 16384 := by
      have := (List.dropWhile_sublist (l := s.A) (fun f => decide (f.at_ ≤ y))).length_le
      omega
    refine ⟨_, rfl, ⟨?_, hd, hb.fates, hb.at_, hb.mf, ?_, ?_, ?_, ?_, ?_⟩, rfl, rfl, ht⟩
    · dsimp only
      exact (srtL_of_srt _ (srt_drop s.A _ (by rw [hb.e]; exact srtL_srt L))).symm
    · intro f hf
      have := (List.dropWhile_sublist (l := s.A) (fun f => decide (f.at_ ≤ y))).subset hf
      rw [hb.e] at this
      exact hb.dl f ((srtK_mem _ _ f).1 this)
    all_goals (dsimp only; omega)
theorem forge_at {w : World} {n B m : Nat} {S : Nat → Prop} {s : NS} (hA : NetA w n B m S s) (hok : s.ok) (h : Hd) {da : Option Addr} {dn dc : Nat} {d : List UInt8} (hp : Rd byteE w da dn dc d) (hdn : dn ≤ 140737488355328) (y : Int) :
    Calls Try.prog 11 #[.pointer (some ⟨n, 0, none⟩), pkV h (.slice da dn dc), .int .i64 y] w fun e w' => e = .returned (.int .i64 (forgeS s h d y).1) ∧ (∃ S', NetA w' n B w'.heap.size S' (forgeS s h d y).2 ∧ ∀ g, S' g → S g ∨ w.heap.size ≤ g) ∧ Tch S w w' := by
  refine (forge_any hA.P hok h hp hdn y).mono ?_
  rintro e w' ⟨h1, h2, h3⟩
  have hm := hA.mw
  have hb := hA.bm
  have hz := h3.size
  refine ⟨h1, ⟨_, NetA.of (B := B) h2 (fun g hg => ?_) (by omega), fun g hg => hg.1⟩, h3⟩
  rcases hg with hg | hg
  · exact hA.lo g hg
  · omega
end Go.Proofs.Ythdnbipfdahnlaa
