/- Layer 3: how many of the last labels are the same: name.Common. Names of at most 2^40 labels. -/
import Derived.Test.YtbpkhnnfdjihdaaBack
import Derived.Test.YtbpkhnnfdjihdaaNameLaw
namespace Go.Proofs.Ytbpkhnnfdjihdaa
open Go.RowKit Go.Shelf
attribute [local go_sem] Oper.semAt_some
theorem keepsFrom_below {B : Nat} {W W' : World} (h : Below W.heap.size W W') : KeepsFrom B W W' := ⟨h.size, fun k _ _ hk _ => (h.block k (Array.getElem?_eq_some_iff.1 hk).1).trans hk⟩
theorem boxed_below {B b : Nat} {t : TypeId} {v : Value} {W W' : World} (h : Boxed W b t v) (hb : Below B W W') (hB : b < B) : Boxed W' b t v := (hb.block b hB).trans h
/-- place p, told from the end, holds the same label -/
def samP (l l' : Nm) (p : Nat) : Prop := (rv l)[p]? = (rv l')[p]?
theorem samP_take (l l' : Nm) : ∀ k, (∀ p, p < k → samP l l' p) → (rv l).take k = (rv l').take k
  | 0, _ => rfl
  | k + 1, h => rv_step l l' k (samP_take l l' k fun p hp => h p (by omega)) (h k (by omega))
theorem samP_yes {l l' : Nm} {p : Nat} (h1 : p < l.length) (h2 : p < l'.length) (h : foldL (l[l.length - 1 - p]'(by omega)) = foldL (l'[l'.length - 1 - p]'(by omega))) : samP l l' p := by
  unfold samP; rw [rv_get _ _ h1, rv_get _ _ h2, h]
theorem samP_no {l l' : Nm} {p : Nat} (h1 : p < l.length) (h2 : p < l'.length) (h : foldL (l[l.length - 1 - p]'(by omega)) ≠ foldL (l'[l'.length - 1 - p]'(by omega))) : ¬ samP l l' p := by
  unfold samP; rw [rv_get _ _ h1, rv_get _ _ h2]; intro e; exact h (Option.some.inj e)
theorem samP_out {l l' : Nm} {p : Nat} (h1 : p < l.length) (h2 : ¬ p < l'.length) : ¬ samP l l' p := by
  unfold samP; rw [rv_get _ _ h1, List.getElem?_eq_none (by rw [rv_length]; omega)]; intro e; cases e
theorem comL_stop {l l' : Nm} {k : Nat} (h : ∀ p, p < k → samP l l' p) (hk : k < l.length) (hn : ¬ samP l l' k) : comL l l' = k := by
  have ht := samP_take l l' k h
  have h2 : k ≤ l'.length := by
    have := congrArg List.length ht
    simp [rv_length] at this; omega
  exact comL_eq l l' k ht (by omega) h2 (.inr (.inr hn))
theorem comL_all {l l' : Nm} (h : ∀ p, p < l.length → samP l l' p) : comL l l' = l.length := by
  have ht := samP_take l l' l.length h
  have h2 : l.length ≤ l'.length := by
    have := congrArg List.length ht
    simp [rv_length] at this; omega
  exact comL_eq l l' l.length ht (by omega) h2 (.inl rfl)
theorem five_boxes (w : World) (t0 t1 t2 t3 t4 : TypeId) (v0 v1 v2 v3 v4 : Value) : ∃ W0, (((((w.alloc (.cells #[v0] t0)).alloc (.cells #[v1] t1)).alloc (.cells #[v2] t2)).alloc (.cells #[v3] t3)).alloc (.cells #[v4] t4)) = W0 ∧
    Boxed W0 w.heap.size t0 v0 ∧ Boxed W0 (w.heap.size + 1) t1 v1 ∧ Boxed W0 (w.heap.size + 2) t2 v2 ∧ Boxed W0 (w.heap.size + 3) t3 v3 ∧ Boxed W0 (w.heap.size + 4) t4 v4 ∧ W0.heap.size = w.heap.size + 5 ∧ Below w.heap.size w W0 := by
  have e0 := Boxed.new w t0 v0
  have e1 := Boxed.new (w.alloc (.cells #[v0] t0)) t1 v1
  have e2 := Boxed.new ((w.alloc (.cells #[v0] t0)).alloc (.cells #[v1] t1)) t2 v2
  have e3 := Boxed.new (((w.alloc (.cells #[v0] t0)).alloc (.cells #[v1] t1)).alloc (.cells #[v2] t2)) t3 v3
  have e4 := Boxed.new ((((w.alloc (.cells #[v0] t0)).alloc (.cells #[v1] t1)).alloc (.cells #[v2] t2)).alloc (.cells #[v3] t3)) t4 v4
  simp only [World.size_alloc] at e1 e2 e3 e4
  exact ⟨_, rfl, (((e0.alloc _).alloc _).alloc _).alloc _, ((e1.alloc _).alloc _).alloc _, (e2.alloc _).alloc _, e3.alloc _, e4, by simp [World.size_alloc],
    (((((Below.refl _ w).alloc (Nat.le_refl _) _).alloc (by simp) _).alloc (by simp; omega) _).alloc (by simp; omega) _).alloc (by simp; omega) _⟩
set_option maxRecDepth 100000 in
set_option maxHeartbeats 4000000 in
theorem common_any {w : World} {a a' : Option Addr} {n c n' c' : Nat} {l l' : Nm} (h : Rd strE w a n c l) (h' : Rd strE w a' n' c' l') (hn : n ≤ 1099511627776) (hn' : n' ≤ 1099511627776) (ht : ∀ s ∈ l, s.length ≤ 140737488355328) (ht' : ∀ s ∈ l', s.length ≤ 140737488355328) :
    Calls Try.prog 47 #[.slice a n c, .slice a' n' c'] w fun e w' => e = .returned (.int .i64 (comL l l')) ∧ Below w.heap.size w w' := by
  have hl := h.len
  have hl' := h'.len
  subst hl hl'
  refine (callsIn_wide (n := 3)).1 ?_
  refine callsIn_of_wp_marks Try.func47 rfl trivial ?_ rfl
  simp only [Try.ntmps47, List.size_toArray, List.length_cons, List.length_nil, Nat.reduceAdd, Nat.reduceSub, Array.replicate_succ, Array.replicate_zero, List.push_toArray, List.append_toArray, List.nil_append, List.cons_append]
  have hH := Lib.hid h
  have hH' := Lib.hid h'
  clear h h'
  gi_wp2_with (refine ⟨trivial, ?_⟩; gi_at_call 55; refine (back_in Fence.wide _ trivial rfl _ _ _ _).mono ?_; rintro e w' ⟨rfl, rfl⟩)
  obtain ⟨W0, hW0, b0, b1, b2, b3, b4, hsz, hbw⟩ := five_boxes w 46 46 3 3 46 (.slice a l.length c) (.slice a' l'.length c') (.int .i64 0) (.int .i64 0) (.slice a l.length c)
  rw [hW0]
  clear hW0
  have hr0 := hH.out.ext hbw
  have hr0' := hH'.out.ext hbw
  have hI : l.length = 0 ∨ ∃ b o, a = some ⟨b, o, none⟩ ∧ b < w.heap.size ∧ ∀ j (hj : j < l.length), W0.cell? ⟨b, o + j, none⟩ = some (.string (mk l[j])) := by
    by_cases h0 : l.length = 0
    · exact .inl h0
    · obtain ⟨b, o, e, hlt, _⟩ := hH.out.addr (by omega)
      obtain ⟨b', o', e', hc'⟩ := rd_str hr0 (by omega)
      rw [e] at e'
      simp only [Option.some.injEq, Addr.mk.injEq] at e'
      obtain ⟨rfl, rfl, _⟩ := e'
      exact .inr ⟨b, o, e, hlt, hc'⟩
  refine wpIn_rangeFunc_ownG rfl (by omega) (gf := 59) (lb := #[.pointer (some ⟨w.heap.size + 4, 0, none⟩)]) rfl trivial (enters_of Try.func59 (by kernel_rfl) rfl)
    (back_stops Fence.wide _ trivial rfl (by omega) (w.heap.size + 4) w.heap.size c a l hn W0 (by omega) (by omega) b4.cell hI) KB.trans (kb_b (by omega) (by omega)) (Below.refl _ _) (fun _ => rfl)
    (fun pre W => ((∀ p ∈ pre, samP l l' p.1) ∧ Boxed W w.heap.size 46 (.slice a l.length c) ∧ Boxed W (w.heap.size + 1) 46 (.slice a' l'.length c') ∧ Boxed W (w.heap.size + 2) 3 (.int .i64 0) ∧ Boxed W (w.heap.size + 3) 3 (.int .i64 pre.length) ∧ w.heap.size + 5 ≤ W.heap.size) ∧ Below w.heap.size w W)
    (fun c pre W => (c = .ret ∧ ∃ ini last, pre = ini ++ [last] ∧ (∀ p ∈ ini, samP l l' p.1) ∧ ¬ samP l l' last.1 ∧ Boxed W (w.heap.size + 2) 3 (.int .i64 ini.length)) ∧ Below w.heap.size w W)
    ?own1 ?own2 ?start
    (fun x => { tmps := #[.slice a l.length c, .slice a' l'.length c', .pointer (some ⟨w.heap.size, 0, none⟩), .pointer (some ⟨w.heap.size + 1, 0, none⟩), .pointer (some ⟨w.heap.size + 1 + 1, 0, none⟩), .pointer (some ⟨w.heap.size + 1 + 1 + 1, 0, none⟩), .int .i64 ((l.length : Int) - 1 - (x.1 : Nat)), .string (mk (l[l.length - 1 - x.1]'(by have := x.2; omega))), undef, .slice a l.length c, .func (.func 59) #[] #[.pointer (some ⟨w.heap.size + 1 + 1 + 1 + 1, 0, none⟩)], .int .i64 ((l.length : Int) - 1 - (x.1 : Nat)), .string (mk (l[l.length - 1 - x.1]'(by have := x.2; omega))), undef, undef, undef, undef, undef, undef, undef, undef, undef, undef, undef, undef, undef, undef, undef, undef, undef, undef, undef, undef, undef, undef], defers := [] }) ?assign ?body ?done ?stop
  case own1 =>
    intro s W W' row hs hg hr
    have ne : ∀ k, k < w.heap.size + 5 → some k ≠ row := fun k hk e => by have := (hr _ e.symm).1; omega
    exact ⟨⟨hs.1.1, hs.1.2.1.kept hg (ne _ (by omega)), hs.1.2.2.1.kept hg (ne _ (by omega)), hs.1.2.2.2.1.kept hg (ne _ (by omega)), hs.1.2.2.2.2.1.kept hg (ne _ (by omega)), Nat.le_trans hs.1.2.2.2.2.2 hg.size⟩, hs.2.grown hg (by have := hs.1.2.2.2.2.2; omega) fun k e => by have := (hr _ e).1; omega⟩
  case own2 =>
    intro cc s W W' row hs hg hr
    have ne : ∀ k, k < w.heap.size + 5 → some k ≠ row := fun k hk e => by have := (hr _ e.symm).1; omega
    obtain ⟨⟨h1, ini, last, h2, h3, h4, h5⟩, h6⟩ := hs
    exact ⟨⟨h1, ini, last, h2, h3, h4, h5.kept hg (ne _ (by omega))⟩, h6.grown hg (by have := h6.size; omega) fun k e => by have := (hr _ e).1; omega⟩
  case start => exact ⟨⟨fun p hp => (by cases hp), b0, b1, b2, b3, by omega⟩, hbw⟩
  case assign =>
    intro m x W K hK
    unfold bkE
    gi_wp2
    exact hK
  case body =>
    rintro m pre x W ⟨⟨hp, c0, c1, c2, c3, hz⟩, hB⟩ hlen
    have k0 := c0.cell
    have k1 := c1.cell
    have k2 := c2.cell
    have k3 := c3.cell
    have f2 := c2.frozen
    have f3 := c3.frozen
    have hx := x.2
    by_cases hlt : x.1 < l'.length
    · have hlx : (l[l.length - 1 - x.1]'(by omega)).length ≤ 140737488355328 := ht _ (List.getElem_mem _)
      have hly : (l'[l'.length - 1 - x.1]'(by omega)).length ≤ 140737488355328 := ht' _ (List.getElem_mem _)
      have hr1 := hH'.out.ext hB
      obtain ⟨b, o, rfl, hbl, _⟩ := hr1.addr (by omega)
      have hcell : W.cell? ⟨b, o + (l'.length - 1 - x.1), none⟩ = some (.string (mk (l'[l'.length - 1 - x.1]'(by omega)))) := by
        obtain ⟨b', o', e', hc'⟩ := rd_str hr1 (by omega)
        simp only [Option.some.injEq, Addr.mk.injEq] at e'
        obtain ⟨rfl, rfl, _⟩ := e'
        exact hc' _ (by omega)
      have e1 : ((l'.length : Int) - ((l.length : Int) - ((l.length : Int) - 1 - (x.1 : Nat)))).toNat = l'.length - 1 - x.1 := by omega
      have hyes := fun e => samP_yes (l := l) (l' := l') (p := x.1) hx hlt e
      have hno := fun e => samP_no (l := l) (l' := l') (p := x.1) hx hlt e
      clear hr1
      generalize hX : (l[l.length - 1 - x.1]'(by omega)) = X at *
      generalize hY : (l'[l'.length - 1 - x.1]'(by omega)) = Y at *
      by_cases heq : foldL X = foldL Y
      · have hq : (foldL X == foldL Y) = true := by simp [heq]
        gi_wp2_with fail
        refine ⟨trivial, ?_⟩
        refine (CallsIn.inRound m (callsIn_wide.2 (same_any X Y _ hlx hly))).mono ?_
        rw [hq]
        rintro e w2 ⟨rfl, hb2⟩
        have q3 := boxed_below c3 hb2 c3.lt
        have k5 := q3.cell
        have f5 := q3.frozen
        have hy := hyes heq
        clear hyes hno
        gi_wp2_with fail
        refine ⟨(keepsFrom_below hb2).trans ((KeepsOthers.setCell _ _ _).from _), ?_, ?_⟩
        · exact ⟨(hb2.mono (by omega)).setCell (by show _ ≤ w.heap.size + 3; omega) _, (Below.heap_setCell _ _ _ _ (by show w.heap.size + 4 ≠ w.heap.size + 3; omega)).trans (hb2.block _ (by omega))⟩
        · refine ⟨⟨?_, (boxed_below c0 hb2 c0.lt).other (by omega) _, (boxed_below c1 hb2 c1.lt).other (by omega) _, (boxed_below c2 hb2 c2.lt).other (by omega) _, ?_, ?_⟩, ?_⟩
          · intro p hp'
            rcases List.mem_append.1 hp' with h | h
            · exact hp p h
            · simp at h; subst h; exact hy
          · have := q3.set (.int .i64 ((pre.length : Int) + 1))
            simpa using this
          · simp; exact Nat.le_trans hz hb2.size
          · exact (hB.trans (hb2.mono (by omega))).setCell (by show _ ≤ w.heap.size + 3; omega) _
      · have hq : (foldL X == foldL Y) = false := by simp [heq]
        gi_wp2_with fail
        refine ⟨trivial, ?_⟩
        refine (CallsIn.inRound m (callsIn_wide.2 (same_any X Y _ hlx hly))).mono ?_
        rw [hq]
        rintro e w2 ⟨rfl, hb2⟩
        have q3 := boxed_below c3 hb2 c3.lt
        have q2 := boxed_below c2 hb2 c2.lt
        have k5 := q3.cell
        have k6 := q2.cell
        have f6 := q2.frozen
        have hy := hno heq
        clear hyes hno
        gi_wp2_with fail
        exact ⟨(keepsFrom_below hb2).trans ((KeepsOthers.setCell _ _ _).from _), ⟨rfl, pre, x, rfl, hp, hy, q2.set _⟩, (hB.trans (hb2.mono (by omega))).setCell (by show _ ≤ w.heap.size + 2; omega) _⟩
    · gi_wp2_with fail
      refine ⟨trivial, ?_⟩
      gi_wp2_with fail
      exact ⟨(KeepsOthers.setCell _ _ _).from _, ⟨rfl, pre, x, rfl, hp, samP_out hx hlt, c2.set _⟩, hB.setCell (by show _ ≤ w.heap.size + 2; omega) _⟩
  case done =>
    rintro D ys W hD rfl ⟨⟨hp, c0, c1, c2, c3, hz⟩, hB⟩ hK
    have k2 := c2.cell
    have k3 := c3.cell
    have f2 := c2.frozen
    have hr := comL_all (l := l) (l' := l') fun p hp' => hp ⟨p, hp'⟩ ((mem_fins _ _ _).2 hp')
    rw [fins_length _ _ (Nat.le_refl _)] at k3
    clear hp
    gi_wp2
    have hK' := (KeepsOthers.setCell W ⟨w.heap.size + 2, 0, none⟩ (.int .i64 l.length)).same D _ hK rfl
    refine ⟨by simp, .inl ⟨_, _, rfl, run_takeDeferred hK', ?_⟩⟩
    have hc5 := cell_kept (World.cell?_setCell_same' W ⟨w.heap.size + 2, 0, none⟩ (.int .i64 l.length) (by rw [k2]; rfl)) (grownBy_putObj' _ D (.deferred none)) (fun r e => by cases e; exact ⟨_, hK', rfl⟩)
    refine ⟨.int .i64 l.length, ?_, by rw [hr], (hB.setCell (p := ⟨w.heap.size + 2, 0, none⟩) (by show _ ≤ w.heap.size + 2; omega) _).trans (belowK_b (w := w) (Nat.le_refl _) _ D _ _ (by omega) hK' rfl rfl)⟩
    simp [results, Try.f47, go_sem, hc5]
  case stop =>
    rintro D cc pre W hD ⟨k, hk, rfl⟩ ⟨⟨rfl, ini, last, e1, e2, e3, c2⟩, hB⟩ hK
    gi_wp2
    refine ⟨by simp, .inl ⟨_, _, rfl, run_takeDeferred hK, ?_⟩⟩
    have hc5 := cell_kept c2.cell (grownBy_putObj' _ D (.deferred none)) (fun r e => by cases e; exact ⟨_, hK, rfl⟩)
    obtain ⟨k', rfl⟩ : ∃ k', k = k' + 1 := by
      cases k with
      | zero => simp [fins_zero] at e1
      | succ k' => exact ⟨k', rfl⟩
    rw [fins_succ _ _ (by omega)] at e1
    obtain ⟨rfl, e5⟩ := List.append_inj' e1 rfl
    obtain rfl : (⟨k', by omega⟩ : Fin l.length) = last := by simpa using e5
    rw [fins_length _ _ (by omega)] at hc5
    have hr := comL_stop (l := l) (l' := l') (k := k') (fun p hp' => e2 ⟨p, by omega⟩ ((mem_fins _ _ _).2 hp')) (by omega) e3
    refine ⟨.int .i64 (k' : Int), ?_, by rw [hr], hB.trans (belowK_b (w := w) (Nat.le_refl _) W D _ _ (by omega) hK rfl rfl)⟩
    simp [results, Try.f47, go_sem, hc5]
end Go.Proofs.Ytbpkhnnfdjihdaa
