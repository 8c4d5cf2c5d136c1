/- slices.Clone 28, Delete 46 (of the first place). -/
import Derived.Test.YtjkeijjfjbcaiaaPkB
import Derived.Deep.RegionLaw
namespace Go.Proofs.Ytjkeijjfjbcaiaa
open Go.RowKit
theorem step_room {α : Type} {P : Program} {E : Enc α} {ops : Array Oper} {o : Oper} {a : Act} {W : World} {K : Act → World → Prop} {Q : Exit → Act → World → Prop} {Ep : Prop} (hgd : o.guard = none) (s x : Operand) (t tx : TypeId)
    (ho : o.op = .call { callee := .builtin .append, args := #[s, x], argTypes := #[t, tx] }) {i : TypeInfo} (ht : P.underlying t = some (.slice E.e)) (hi : P.info? E.e = some i)
    (hsize : i.size = E.k) {g n cap : Nat} {X : List α} {xv : Value} {news : List α} (hs : a.eval s = .slice (some ⟨g, 0, none⟩) n cap) (hB : Blk W g E.e (0, 0) (rowOf E X)) (hX : X.length = cap) (hx : a.eval x = xv) (hsrc : Src P E.k tx xv news.length (rowOf E news) W)
    (hroom : n + news.length ≤ cap) {m : Nat} (hm : m = n + news.length)
    (h : ∀ w', Blk w' g E.e (0, 0) (rowOf E (splice X n news)) → W.grownBy w' (some g) → K (a.put o.dst (.slice (some ⟨g, 0, none⟩) m cap)) w') :
    if Region.wanted o (yielded ops a.tmps) = true then Oper.wp P o a W K Q else Ep := by
  subst hm
  have hw : Region.wanted o (yielded ops a.tmps) = true := by simp [Region.wanted, hgd]
  rw [if_pos hw]
  have hr := run_append_room_src (P := P) W t tx o.type E.e i ht hi g 0 n cap xv news.length (rowOf E news) (by rw [hsize]; exact hsrc) hroom
    (fun j hj => by
      rw [hB.cell, hsize, Nat.zero_add, List.getElem?_eq_getElem]; rfl
      rw [rowOf_length] at hj ⊢
      have := Nat.mul_le_mul_right E.k hroom
      rw [hX]
      rw [Nat.add_mul] at this
      omega) (fun j _ => by rw [hB.frozen]; simp)
  unfold Oper.wp execOp
  simp only [ho, resolve, invoke, builtin, Sem.run_bind, Sem.run_pure, Result.andThen_ok, List.map_toArray, List.map_cons, List.map_nil, hs, hx, hr]
  rw [Nat.zero_add, hsize]
  exact h _ (setCells_rows hB n news (by omega)) (grown_sets _ _ _ _)
theorem app_run {P : Program} {ops : Array Oper} {rest : List Oper} {o : Oper} {a : Act} {Q : Exit → Act → World → Prop} {W w' : World} {v xv v' : Value} (hgd : o.guard = none) (s x : Operand) (t tx : TypeId)
    (ho : o.op = .call { callee := .builtin .append, args := #[s, x], argTypes := #[t, tx] }) (hs : a.eval s = v) (hx : a.eval x = xv) (hr : (Builtin.append_ #[t, tx] o.type #[v, xv]).run P W = .ok v' w')
    (h : wpList P ops Q rest (a.put o.dst v') w') : wpList P ops Q (o :: rest) a W := by
  refine wpList_plain hgd fun K hK => ?_
  unfold Oper.wp execOp
  simp only [ho, resolve, invoke, builtin, Sem.run_bind, Sem.run_pure, Result.andThen_ok, List.map_toArray, List.map_cons, List.map_nil, hs, hx, hr]
  exact hK _ _ h
theorem Try.info34x : (Try.prog.info? 34).map (fun i => (i.zero, i.size, i.bytes)) = some (some (.agg #[.int .u32 0, .int .i64 0, .int .i64 0, .int .i64 0]), 4, 32) := by kernel_rfl
set_option maxHeartbeats 4000000 in
set_option maxRecDepth 100000 in
theorem clone_any {w : World} {a : Option Addr} {n c : Nat} {l : List Kn} (h : Rd knE w a n c l) (hn : n ≤ 1000000) :
    Calls Try.prog 28 #[.slice a n c] w fun e w' => (∃ v, e = .returned v ∧ Own knE w' w.heap.size v l) ∧ Below w.heap.size w w' := by
  obtain ⟨i0, hi, hz0, hz1, hz2⟩ := info_parts Try.info34x
  have hl := h.len
  have hown := Own.made knE w #[] [] 0 rfl rfl (by simp [maxLen])
  have hsrc := (h.ext ((Below.refl _ w).alloc (Nat.le_refl _) (.cells #[] 34))).src (P := Try.prog) Try.underlying31
  have q41 : ∀ (u : World) (a : Option Addr) (n c : Nat), (binOp .eql 31 (.slice a n c) (.slice none 0 0)).run Try.prog u = .ok (.bool a.isNone) u := fun u a n c => Go.Lib.run_eql_slice_nil u 31 34 a n c 0 0 Try.underlying31
  cases a with
  | none =>
    have hn0 : n = 0 := by
      rcases Nat.eq_zero_or_pos n with h0 | h0
      · exact h0
      · obtain ⟨b, o, hb⟩ := h.addr h0; simp at hb
    subst hn0
    have hl0 : l = [] := List.length_eq_zero_iff.1 hl
    subst hl0
    go_enter Try.func28, Try.ntmps28
    go_wp2_with fail
    go_ret
    exact ⟨⟨_, rfl, Own.nil _ _ _⟩, Below.refl _ _⟩
  | some ad =>
  clear h
  obtain ⟨v', w2, hr, ho, hg, -⟩ := run_append_Own (P := Try.prog) knE _ _ 31 31 31 i0 _ 32 Try.underlying31 hi hz0 hz1 hz2 rfl _ _ hown _ l hsrc (by simp [maxLen]; omega) (by simp; omega) (by simp)
  have hb2 := own_below ((Below.refl w.heap.size w).alloc (Nat.le_refl _) _) hg hown (by simp) (Nat.le_refl _)
  rw [List.nil_append] at ho
  obtain ⟨a', c', rfl⟩ := ho.shape
  have hO := Lib.hid ho
  clear ho hg hsrc hown
  have e34 : knE.e = 34 := rfl
  rw [e34] at hr
  go_enter Try.func28, Try.ntmps28
  go_wp2_with (at_builtin; refine app_run rfl (.tmp 5) (.tmp 6) 31 31 rfl rfl rfl hr ?_)
  go_ret
  exact ⟨⟨_, rfl, by rw [← hl]; exact hO.out⟩, hb2⟩
set_option maxHeartbeats 4000000 in
set_option maxRecDepth 100000 in
theorem del01 {w : World} {base : Nat} {v : Value} {L : List Kn} (hO : Own knE w base v L) (hl2 : 2 ≤ L.length) (hl : L.length ≤ 1000000) :
    Calls Try.prog 46 #[v, .int .i64 0, .int .i64 1] w fun e w' => (∃ v', e = .returned v' ∧ Own knE w' base v' (L.drop 1) ∧ v'.ownBlock = v.ownBlock) ∧ w.grownBy w' v.ownBlock := by
  rcases hO with ⟨_, rfl⟩ | ⟨g, cap, X, rfl, hbg, hB, hX, hle, hcm, htk⟩
  · simp at hl2
  obtain ⟨i0, hi, hz0, hz1, hz2⟩ := info_parts Try.info34x
  have hR : Rd knE w (some ⟨g, 0, none⟩) L.length cap L := by
    obtain ⟨a, c, e, h⟩ := Own.rd (E := knE) (w := w) (base := base) (v := .slice (some ⟨g, 0, none⟩) L.length cap) (l := L) (.inr ⟨g, cap, X, rfl, hbg, hB, hX, hle, hcm, htk⟩)
    cases e
    exact h
  have hR1 := hR.cut 1 L.length cap (by omega) (Nat.le_refl _) hle (Nat.le_refl _)
  rw [if_neg (by omega), List.take_of_length_le (Nat.le_refl _)] at hR1
  have hsrc : Hid (Src Try.prog knE.k 31 (.slice (some ⟨g, 4, none⟩) (L.length - 1) (cap - 1)) (L.drop 1).length (rowOf knE (L.drop 1)) w.drew) := by
    have := (hR1.ext ((Below.refl _ w).drew)).src (P := Try.prog) (tx := 31) Try.underlying31
    simp only [Option.map_some, Addr.add_lit, knE, Nat.zero_add, Nat.one_mul] at this
    exact Lib.hid this
  have sz : ∀ u, (sizeOf (Try.prog.elem 31)).run Try.prog u = .ok 4 u := fun u => by rw [elem_of Try.underlying31]; exact run_sizeOf_info (by kernel_rfl) u
  have r0 : ∀ u, (Instr.slice 31 (.slice (some ⟨g, 0, none⟩) L.length cap) (some (.int .i64 0)) (some (.int .i64 1)) (some (.int .i64 L.length))).run Try.prog u = .ok (.slice (some ⟨g, 0, none⟩) 1 L.length) u := fun u => by
    rw [run_slice_lhm u 31 (some ⟨g, 0, none⟩) L.length cap (by kernel_rfl) .i64 .i64 .i64 0 1 L.length (by omega) (by omega) (by omega) (by omega), sz]
    simp [Result.andThen, sliced, Addr.add]
  have r1 : ∀ u, (Instr.slice 31 (.slice (some ⟨g, 0, none⟩) L.length cap) none (some (.int .i64 0)) none).run Try.prog u = .ok (.slice (some ⟨g, 0, none⟩) 0 cap) u := fun u => run_upto (P := Try.prog) u 31 34 4 Try.underlying31 (by kernel_rfl) g L.length cap 0 (by omega) (by omega) hle
  have r2 : ∀ u, (Instr.slice 31 (.slice (some ⟨g, 0, none⟩) L.length cap) (some (.int .i64 1)) none none).run Try.prog u = .ok (.slice (some ⟨g, 4, none⟩) (L.length - 1) (cap - 1)) u := fun u => run_from (P := Try.prog) u 31 34 4 Try.underlying31 (by kernel_rfl) g L.length cap 1 (by omega) (by omega) hle
  have r3 : ∀ u, (Instr.slice 31 (.slice (some ⟨g, 0, none⟩) (L.length - 1) cap) (some (.int .i64 ((L.length - 1 : Nat) : Int))) (some (.int .i64 (L.length : Int))) none).run Try.prog u = .ok (.slice (some ⟨g, (L.length - 1) * 4, none⟩) 1 (cap - (L.length - 1))) u := fun u => by
    rw [run_slice_lh u 31 (some ⟨g, 0, none⟩) (L.length - 1) cap (by kernel_rfl) .i64 .i64 ((L.length - 1 : Nat) : Int) L.length (by omega) (by omega) (by omega), sz]
    have e0 : ¬ L.length - 1 = 0 := by omega
    have e1 : ¬ cap - (L.length - 1) = 0 := by omega
    have e2 : L.length - (L.length - 1) = 1 := by omega
    simp [Result.andThen, sliced, Addr.add, e2]
    rw [if_neg (by omega), if_neg (by omega)]
  have hB' := Lib.hid hB
  have hX' := Lib.hid hX
  have hm : Hid (L.length - 1 = 0 + (L.drop 1).length) := Lib.hid (by simp)
  have hc' : Hid (cap ≤ maxLen) := Lib.hid hcm
  have hle' : Hid (L.length ≤ cap) := Lib.hid hle
  have hroom : Hid (0 + (L.drop 1).length ≤ cap) := Lib.hid (by simp; omega)
  clear hR hR1 hB hX sz hl hcm hle
  go_enter Try.func46, Try.ntmps46
  go_wp2_with fail
  go_region_law (refine step_room (E := knE) (X := X) (news := L.drop 1) (by rfl) (.tmp 22) (.tmp 25) 31 31 (by rfl) Try.underlying31 hi hz1 (by rfl) hB'.out.drew hX'.out (by rfl) hsrc.out hroom.out hm.out ?_; intro w2 hB2 hg2)
  have hlX : (splice X 0 (L.drop 1)).length = cap := by
    have h1 := hX'.out
    have h2 := hle'.out
    unfold splice; simp; omega
  have r4 := fun ty => run_clear_rows (P := Try.prog) (E := knE) w2 31 ty _ Try.underlying31 (fun w => kn_zero) rfl g ((L.length - 1) * 4) 1 (cap - (L.length - 1)) (by omega)
    (fun k hk => by
      rw [hB2.cell, List.getElem?_eq_getElem]
      · rfl
      · rw [rowOf_length, hlX]
        have := hle'.out
        simp only [knE] at hk ⊢
        omega) (fun k _ => by rw [hB2.frozen]; simp)
  have hB3 : Hid (Blk (w2.setCells g ((L.length - 1) * 4) (rowOf knE (List.replicate 1 knE.z))) g 34 (0, 0) (rowOf knE (splice (splice X 0 (L.drop 1)) (L.length - 1) (List.replicate 1 knE.z)))) := Lib.hid (setCells_rows hB2 (L.length - 1) _ (by
    rw [hlX]
    have := hle'.out
    simp; omega))
  have hg3 := Lib.hid (grown_sets w2 g ((L.length - 1) * 4) (rowOf knE (List.replicate 1 knE.z)))
  generalize w2.setCells g ((L.length - 1) * 4) (rowOf knE (List.replicate 1 knE.z)) = w3 at *
  have hlX' := Lib.hid hlX
  have hg2' : Hid (w.grownBy w2 (some g)) := Lib.hid ⟨hg2.os, hg2.tape, hg2.output, hg2.size, hg2.block⟩
  clear hlX hg2 hB2
  go_wp2_with fail
  go_ret
  have hld : (L.drop 1).length = L.length - 1 := by simp
  have h1 := hle'.out
  have h2 := hlX'.out
  refine ⟨⟨_, rfl, .inr ⟨g, cap, _, by rw [hld]; rfl, hbg, hB3.out, ?_, by omega, hc'.out, ?_⟩, rfl⟩, grown_tr hg2'.out hg3.out⟩
  · rw [length_splice _ _ _ (by rw [h2]; simp; omega)]; exact h2
  · rw [hld]
    have e : splice X 0 (L.drop 1) = L.drop 1 ++ X.drop (0 + (L.drop 1).length) := by unfold splice; simp
    have e2 : splice (splice X 0 (L.drop 1)) (L.length - 1) (List.replicate 1 knE.z) = (splice X 0 (L.drop 1)).take (L.length - 1) ++ ((List.replicate 1 knE.z) ++ (splice X 0 (L.drop 1)).drop (L.length - 1 + 1)) := rfl
    rw [e2, List.take_left' (by rw [List.length_take]; omega), e, List.take_left' hld]
end Go.Proofs.Ytjkeijjfjbcaiaa
