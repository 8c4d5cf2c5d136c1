/- NetKeeps, plain: what the flights of packets that are sent one by one are. -/
import Derived.Test.YthdnbipfdahnlaaNtQ
namespace Go.Proofs.Ythdnbipfdahnlaa
open Go Go.RowKit
theorem pop_self (x : UInt8) : pop (x ^^^ x) = 0 := by rw [UInt8.xor_self]; decide
theorem bitsL_self : ∀ d : List UInt8, bitsL d d = 0
  | [] => rfl
  | x :: r => by rw [bitsL, pop_self, bitsL_self r]
theorem bitsL_set : ∀ (d : List UInt8) (j r : Nat), r < 8 → bitsL (d.set j (flipB (d.getD j 0) r)) d ≤ 1
  | [], j, r, _ => by simp [bitsL]
  | x :: t, 0, r, hr => by
    have h := (pop_flip x hr).2
    simp only [List.set_cons_zero, bitsL, List.getD_cons_zero, h, bitsL_self]
    omega
  | x :: t, j + 1, r, hr => by
    have h := bitsL_set t j r hr
    simp only [List.set_cons_succ, bitsL, List.getD_cons_succ, pop_self]
    omega
theorem bitsL_flip (d : List UInt8) (m : Nat) : bitsL (flip d m) d ≤ 1 := bitsL_set d (m / 8) (m % 8) (Nat.mod_lt _ (by decide))
theorem flip_len (d : List UInt8) (m : Nat) : (flip d m).length = d.length := by unfold flip; rw [List.length_set]
def hdK (i : Nat) : Hd := ⟨1, i, 2, 53, false⟩
/-- how many flights bear a number -/
def cntP (i : Int) (A : List Fl) : Nat := (A.filter (fun f => f.h.fport == i)).length
theorem cntP_ins (i : Int) (x : Fl) : ∀ A : List Fl, cntP i (insU x A) = cntP i A + (if x.h.fport = i then 1 else 0)
  | [] => by
    unfold insU cntP
    by_cases h : x.h.fport = i <;> simp [h]
  | y :: r => by
    unfold insU
    split
    · have ih := cntP_ins i x r
      unfold cntP at ih ⊢
      by_cases h : y.h.fport = i
      · simp only [List.filter_cons, h, beq_self_eq_true, if_true, List.length_cons, ih]; omega
      · simp only [List.filter_cons, beq_iff_eq, h, if_false, ih]
    · unfold cntP
      by_cases h : x.h.fport = i
      · simp only [List.filter_cons, h, beq_self_eq_true, if_true, List.length_cons]
      · simp only [List.filter_cons, beq_iff_eq, h, if_false, Nat.add_zero]
/-- where a flight comes from -/
def FromK (D : List (List UInt8)) (Y : List Int) (k : Nat) (f : Fl) : Prop := ∃ (i : Nat) (d : List UInt8) (y : Int), i < k ∧ D[i]? = some d ∧ Y[i]? = some y ∧ f.h = hdK i ∧ (0 ≤ y ∧ y ≤ f.at_ ∧ f.at_ ≤ 700000) ∧ f.d.length = d.length ∧ bitsL f.d d ≤ 1
theorem FromK.mono {D : List (List UInt8)} {Y : List Int} {k : Nat} {f : Fl} (h : FromK D Y k f) : FromK D Y (k + 1) f := by
  obtain ⟨i, d, y, h1, h2⟩ := h
  exact ⟨i, d, y, by omega, h2⟩
structure KInv (D : List (List UInt8)) (Y : List Int) (k dbl : Nat) (s : NS) : Prop where
  ok : s.ok
  may : ∀ f ∈ s.F, mayF f = true
  sent : s.c.sent = k
  lost : s.c.lost ≤ k
  forged : s.c.forged = 0
  taken : s.c.taken = 0
  src : ∀ f ∈ s.A, FromK D Y k f
  two : ∀ i : Int, cntP i s.A ≤ 2
  len : (s.A.length : Int) = k + dbl - s.c.lost
  dbl : dbl ≤ k
theorem cntP_none {D : List (List UInt8)} {Y : List Int} {k : Nat} {A : List Fl} (h : ∀ f ∈ A, FromK D Y k f) : cntP k A = 0 := by
  unfold cntP
  rw [List.length_eq_zero_iff, List.filter_eq_nil_iff]
  intro f hf
  obtain ⟨i, d, y, h1, _, _, h4, _⟩ := h f hf
  rw [h4]
  simp [hdK]
  omega
theorem ins_src {D : List (List UInt8)} {Y : List Int} {k : Nat} {A : List Fl} {x : Fl} (h : ∀ f ∈ A, FromK D Y k f) (hx : FromK D Y k x) : ∀ f ∈ insU x A, FromK D Y k f := fun f hf => by
  rcases (insU_mem x A f).1 hf with rfl | hf
  · exact hx
  · exact h f hf
/-- one packet more -/
theorem keep_step {D : List (List UInt8)} {Y : List Int} {k dbl : Nat} {s : NS} (h : KInv D Y k dbl s) (hk : k < 40) {d : List UInt8} {y : Int} (hd : D[k]? = some d) (hdl : d.length ≤ 50) (hy : Y[k]? = some y) (hy0 : 0 ≤ y) (hy1 : y ≤ 4000) :
    ∃ (c : Nat) (s' : NS), sendS s (hdK k) d y = ((c : Int), 0, s') ∧ c ≤ 2 ∧ KInv D Y (k + 1) (if c = 2 then dbl + 1 else dbl) s' := by
  have hm := may_kinds (fateAt_may s h.may)
  obtain ⟨⟨hm1, hm2⟩, hm3, hm4, hkind⟩ := hm
  have hl := h.len
  have hl0 := h.ok.lost
  have hs0 := h.ok.sent
  have hat := h.ok.at_
  have hdb := h.dbl
  have hroom : s.A.length ≤ 80 := by omega
  have hsrc : ∀ f ∈ s.A, FromK D Y (k + 1) f := fun f hf => (h.src f hf).mono
  have hn := cntP_none h.src
  have hse := h.sent
  have hlo := h.lost
  have hfo := h.forged
  have hta := h.taken
  have hchk : chk d.length y = 0 := by unfold chk; rw [if_neg (by omega), if_neg (by omega)]
  have hcnt : cntF (fateAt s) ≤ 2 := by unfold cntF; split <;> (try split) <;> omega
  have hfull : ¬ 16384 < s.A.length + cntF (fateAt s) := by omega
  have hx : ∀ (t : Int) (e : List UInt8), y ≤ t ∧ t ≤ 700000 → e.length = d.length → bitsL e d ≤ 1 → FromK D Y (k + 1) ⟨t, hdK k, e⟩ := fun t e h1 h2 h3 => ⟨k, d, y, by omega, hd, hy, rfl, ⟨hy0, h1⟩, h2, h3⟩
  have hb0 : bitsL d d ≤ 1 := by rw [bitsL_self]; omega
  have hmin : min (s.at_ + 1) s.F.length ≤ s.F.length := Nat.min_le_right _ _
  have hone : ∀ (x : Fl), x.h = hdK k → ∀ i : Int, cntP i (insU x s.A) ≤ 2 := fun x hxh i => by
    rw [cntP_ins, hxh]
    have := h.two i
    by_cases hi : (hdK k).fport = i
    · rw [if_pos hi]
      have hi' : (k : Int) = i := hi
      rw [← hi', hn]
      omega
    · rw [if_neg hi]; exact this
  unfold sendS
  rw [if_neg (by simp [hchk]), if_neg hfull]
  by_cases k1 : (fateAt s).1 = 1
  · rw [if_pos k1]
    exact ⟨0, _, rfl, by decide, ⟨⟨h.ok.srt, h.ok.room, h.ok.fates, hmin, by dsimp only; omega, by dsimp only; omega, h.ok.forged, h.ok.taken⟩, h.may, by dsimp only; omega, by dsimp only; omega, hfo, hta, hsrc, h.two, by rw [if_neg (by decide)]; dsimp only; omega, by rw [if_neg (by decide)]; omega⟩⟩
  rw [if_neg k1]
  by_cases k2 : (fateAt s).1 = 2
  · rw [if_pos k2]
    refine ⟨2, _, rfl, by decide, ⟨⟨insU_srt _ _ (insU_srt _ _ h.ok.srt), by dsimp only; rw [insU_len, insU_len]; omega, h.ok.fates, hmin, by dsimp only; omega, h.ok.lost, h.ok.forged, h.ok.taken⟩, h.may, by dsimp only; omega, by dsimp only; omega, hfo, hta, ins_src (ins_src hsrc (hx _ _ (by omega) rfl hb0)) (hx _ _ (by omega) rfl hb0), fun i => ?_, by rw [if_pos rfl]; dsimp only; rw [insU_len, insU_len]; omega, by rw [if_pos rfl]; omega⟩⟩
    dsimp only
    rw [cntP_ins, cntP_ins]
    have := h.two i
    dsimp only
    by_cases hi : (hdK k).fport = i
    · rw [if_pos hi]
      have hi' : (k : Int) = i := hi
      rw [← hi', hn]
      omega
    · rw [if_neg hi]; omega
  rw [if_neg k2]
  by_cases k3 : (fateAt s).1 = 3
  · rw [if_pos k3]
    exact ⟨1, _, rfl, by decide, ⟨⟨insU_srt _ _ h.ok.srt, by dsimp only; rw [insU_len]; omega, h.ok.fates, hmin, by dsimp only; omega, h.ok.lost, h.ok.forged, h.ok.taken⟩, h.may, by dsimp only; omega, by dsimp only; omega, hfo, hta, ins_src hsrc (hx _ _ (by omega) (flip_len _ _) (bitsL_flip _ _)), hone _ rfl, by rw [if_neg (by decide)]; dsimp only; rw [insU_len]; omega, by rw [if_neg (by decide)]; omega⟩⟩
  rw [if_neg k3]
  exact ⟨1, _, rfl, by decide, ⟨⟨insU_srt _ _ h.ok.srt, by dsimp only; rw [insU_len]; omega, h.ok.fates, hmin, by dsimp only; omega, h.ok.lost, h.ok.forged, h.ok.taken⟩, h.may, by dsimp only; omega, by dsimp only; omega, hfo, hta, ins_src hsrc (hx _ _ (by omega) rfl hb0), hone _ rfl, by rw [if_neg (by decide)]; dsimp only; rw [insU_len]; omega, by rw [if_neg (by decide)]; omega⟩⟩
theorem cntP_app (i : Int) (A B : List Fl) : cntP i (A ++ B) = cntP i A + cntP i B := by unfold cntP; rw [List.filter_append, List.length_append]
theorem cntP_take (i : Int) (A : List Fl) (t : Nat) : cntP i (A.take t) ≤ cntP i A := by
  have := cntP_app i (A.take t) (A.drop t)
  rw [List.take_append_drop] at this
  omega
theorem cntP_succ (i : Int) (A : List Fl) (t : Nat) (f : Fl) (h : A[t]? = some f) : cntP i (A.take (t + 1)) = cntP i (A.take t) + (if f.h.fport = i then 1 else 0) := by
  obtain ⟨ht, rfl⟩ := List.getElem?_eq_some_iff.1 h
  rw [List.take_succ_eq_append_getElem ht, cntP_app]
  congr 1
  unfold cntP
  by_cases hi : A[t].h.fport = i <;> simp [hi]
theorem mem_tw {α : Type} {p : α → Bool} : ∀ (L : List α) (a : α), a ∈ L.takeWhile p → p a = true
  | [], a, h => by simp at h
  | x :: r, a, h => by
    by_cases hx : p x = true
    · rw [List.takeWhile_cons_of_pos hx] at h
      rcases List.mem_cons.1 h with rfl | h
      · exact hx
      · exact mem_tw r a h
    · rw [List.takeWhile_cons_of_neg hx] at h; cases h
/-- the network while it is emptied: t flights of A were taken -/
structure KDr (A : List Fl) (c : Cn) (t : Nat) (s : NS) : Prop where
  ok : s.ok
  le : t ≤ A.length
  A : s.A = A.drop t
  sent : s.c.sent = c.sent
  lost : s.c.lost = c.lost
  forged : s.c.forged = c.forged
  taken : s.c.taken = t
/-- one moment is taken -/
theorem drain_step {A : List Fl} {c : Cn} {t : Nat} {s : NS} (h : KDr A c t s) (hr : ∀ f ∈ A, 0 ≤ f.at_ ∧ f.at_ ≤ 700000) (hl : A.length ≤ 80) (ht : t < A.length) :
    ∃ (z : Int) (m : Nat) (s' : NS), nextS s = (z, true) ∧ 0 < m ∧ t + m ≤ A.length ∧ dueS s z = ((A.drop t).take m, 0, s') ∧ (∀ f ∈ (A.drop t).take m, f.at_ ≤ z) ∧ KDr A c (t + m) s' := by
  obtain ⟨f, hf⟩ : ∃ f, A[t]? = some f := ⟨A[t], List.getElem?_eq_getElem ht⟩
  have hdrop : A.drop t = f :: A.drop (t + 1) := by
    rw [List.getElem?_eq_getElem ht] at hf
    rw [List.drop_eq_getElem_cons ht, Option.some.inj hf]
  have hA := h.A
  have hfm := hr f (List.mem_of_getElem? hf)
  have hno : ¬ (f.at_ < 0 ∨ 1099511627776 < f.at_) := by omega
  obtain ⟨p, hp⟩ : ∃ p : Fl → Bool, p = fun g => decide (g.at_ ≤ f.at_) := ⟨_, rfl⟩
  obtain ⟨m, hm⟩ : ∃ m, ((A.drop t).takeWhile p).length = m := ⟨_, rfl⟩
  have hpre : (A.drop t).takeWhile p <+: A.drop t := List.takeWhile_prefix _
  have htake : (A.drop t).takeWhile p = (A.drop t).take m := by rw [← hm]; exact List.prefix_iff_eq_take.1 hpre
  have hdw : (A.drop t).dropWhile p = (A.drop t).drop m := by
    have h1 := List.takeWhile_append_dropWhile (p := p) (l := A.drop t)
    have h2 := List.take_append_drop m (A.drop t)
    rw [htake] at h1
    exact List.append_cancel_left (h1.trans h2.symm)
  have hmle : m ≤ (A.drop t).length := by rw [← hm]; exact hpre.length_le
  rw [List.length_drop] at hmle
  have hm0 : 0 < m := by
    rw [← hm, hdrop, List.takeWhile_cons_of_pos (by rw [hp]; simp)]
    simp
  have hall : ∀ g ∈ (A.drop t).take m, g.at_ ≤ f.at_ := fun g hg => by
    rw [← htake] at hg
    have := mem_tw _ _ hg
    rw [hp] at this
    exact of_decide_eq_true this
  have htk := h.taken
  refine ⟨f.at_, m, ⟨s.F, s.at_, A.drop (t + m), ⟨s.c.sent, s.c.lost, s.c.forged, s.c.taken + m⟩⟩, by unfold nextS; rw [hA, hdrop], hm0, by omega, ?_, hall, ?_⟩
  · unfold dueS
    rw [if_neg hno, hA, ← hp, hdw, hm, htake, List.drop_drop]
  · have hsub : (A.drop (t + m)).length ≤ 80 := by rw [List.length_drop]; omega
    refine ⟨⟨?_, by dsimp only; omega, h.ok.fates, h.ok.at_, h.ok.sent, h.ok.lost, h.ok.forged, by dsimp only; omega⟩, by omega, rfl, h.sent, h.lost, h.forged, by dsimp only; omega⟩
    have hs := h.ok.srt
    rw [hA] at hs
    have := srt_drop _ p hs
    rw [hdw, List.drop_drop] at this
    exact this
end Go.Proofs.Ythdnbipfdahnlaa
