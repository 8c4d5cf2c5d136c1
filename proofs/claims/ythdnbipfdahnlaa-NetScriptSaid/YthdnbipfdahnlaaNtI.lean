/- Flights, fates, packets as elements; slices.Insert 40 on flights. Printed by gen_nti.py. -/
import Derived.Test.YthdnbipfdahnlaaNtS
namespace Go.Proofs.Ythdnbipfdahnlaa
open Go Go.RowKit
abbrev Fate := Int × Int × Int
def fateE : Enc Fate := ⟨51, 3, fun f => [.int .i64 f.1, .int .i64 f.2.1, .int .i64 f.2.2], (0, 0, 0), fun _ => rfl, fun x v hv => by simp at hv; rcases hv with rfl | rfl | rfl <;> rfl, by decide⟩
/-- a packet's head -/
structure Hd where
  from_ : Int
  fport : Int
  to_ : Int
  tport : Int
  stream : Bool
def pkC (h : Hd) (d : Value) : List Value := [.int .u32 h.from_, .int .u16 h.fport, .int .u32 h.to_, .int .u16 h.tport, .bool h.stream, d]
/-- a packet as it lies -/
structure PD where
  h : Hd
  da : Option Addr
  dn : Nat
  dc : Nat
def pkE : Enc PD := ⟨32, 6, fun q => pkC q.h (.slice q.da q.dn q.dc), ⟨⟨0, 0, 0, 0, false⟩, none, 0, 0⟩, fun _ => rfl, fun x v hv => by simp [pkC] at hv; rcases hv with rfl | rfl | rfl | rfl | rfl | rfl <;> rfl, by decide⟩
/-- a flight as it lies -/
structure FD where
  at_ : Int
  p : PD
def flE : Enc FD := ⟨71, 7, fun q => .int .i64 q.at_ :: pkC q.p.h (.slice q.p.da q.p.dn q.p.dc), ⟨0, ⟨⟨0, 0, 0, 0, false⟩, none, 0, 0⟩⟩, fun _ => rfl, fun x v hv => by simp [pkC] at hv; rcases hv with rfl | rfl | rfl | rfl | rfl | rfl | rfl <;> rfl, by decide⟩
theorem Try.info71 : (Try.prog.info? 71).map (fun i => (i.zero, i.size, i.bytes)) = some (some (.agg #[.int .i64 0, .int .u32 0, .int .u16 0, .int .u32 0, .int .u16 0, .bool false, .slice none 0 0]), 7, 48) := by kernel_rfl
theorem Try.info32 : (Try.prog.info? 32).map (fun i => (i.zero, i.size, i.bytes)) = some (some (.agg #[.int .u32 0, .int .u16 0, .int .u32 0, .int .u16 0, .bool false, .slice none 0 0]), 6, 40) := by kernel_rfl
theorem Try.info51 : (Try.prog.info? 51).map (fun i => (i.zero, i.size, i.bytes)) = some (some (.agg #[.int .i64 0, .int .i64 0, .int .i64 0]), 3, 24) := by kernel_rfl
theorem wpList_copy_run {P : Program} (w : World) {ops : Array Oper} {rest : List Oper} {o : Oper} {a : Act} {Q : Exit → Act → World → Prop} (hgd : o.guard = none) (d s : Operand) (t t' : TypeId)
    (ho : o.op = .call { callee := .builtin .copy, args := #[d, s], argTypes := #[t, t'] }) (v u : Value) (hd : a.eval d = v) (hs : a.eval s = u) {v' : Value} {w' : World}
    (hr : (Builtin.copy_ #[t, t'] o.type #[v, u]).run P w = .ok v' w') (h : wpList P ops Q rest (a.put o.dst v') w') : wpList P ops Q (o :: rest) a w := by
  refine wpList_plain hgd fun K hK => ?_
  unfold Oper.wp execOp
  simp only [ho, resolve, invoke, builtin, Sem.run_bind, Sem.run_pure, Result.andThen_ok, List.map_toArray, List.map_cons, List.map_nil, hd, hs, hr]
  exact hK _ _ h
theorem step_copy_run {P : Program} {ops : Array Oper} {o : Oper} {a : Act} {w : World} {K : Act → World → Prop} {Q : Exit → Act → World → Prop} {Ep : Prop} (hgd : o.guard = none) (d x : Operand) (dT sT : TypeId)
    (hop : o.op = .call { callee := .builtin .copy, args := #[d, x], argTypes := #[dT, sT] }) (v u : Value) (hd : a.eval d = v) (hx : a.eval x = u) {v' : Value} {w' : World}
    (hr : (Builtin.copy_ #[dT, sT] o.type #[v, u]).run P w = .ok v' w') (hK : K (a.put o.dst v') w') : if Region.wanted o (yielded ops a.tmps) = true then Oper.wp P o a w K Q else Ep := by
  have hw : Region.wanted o (yielded ops a.tmps) = true := by simp [Region.wanted, hgd]
  rw [if_pos hw]
  unfold Oper.wp
  simp [execOp, hop, resolve, invoke, builtin, hd, hx, hr, Result.andThen]
  exact hK
theorem run_from_S {P : Program} (u : World) (t e : TypeId) (ht : P.underlying t = some (.slice e)) {s : Nat} (he : (P.info? e).map (·.size) = some s) (g o n cap i : Nat) (lo : Int) (hlo : lo = i) (hi : i < cap) (hn : i ≤ n) :
    (Instr.slice t (.slice (some ⟨g, o * s, none⟩) n cap) (some (.int .i64 lo)) none none).run P u = .ok (.slice (some ⟨g, (o + i) * s, none⟩) (n - i) (cap - i)) u := by
  subst hlo
  have ee := elem_of ht
  rw [run_slice_l u t (some ⟨g, o * s, none⟩) n cap (by rw [ee]; exact ht) .i64 i (by omega) (by omega), ee, run_sizeOf_info he]
  have : ¬ cap = i := by omega
  have e2 : o * s + i * s = (o + i) * s := by rw [Nat.add_mul]
  simp [Result.andThen, sliced, Addr.add, this, e2]
  intro h0
  rw [← e2, h0, Nat.add_zero]
theorem run_upto_S {P : Program} (u : World) (t e : TypeId) (ht : P.underlying t = some (.slice e)) {s : Nat} (he : (P.info? e).map (·.size) = some s) (a : Addr) (n cap i : Nat) (hi : Int) (hhi : hi = i) (h0 : 0 < cap) (hc : i ≤ cap) :
    (Instr.slice t (.slice (some a) n cap) none (some (.int .i64 hi)) none).run P u = .ok (.slice (some a) i cap) u := by
  subst hhi
  have ee := elem_of ht
  rw [run_slice_h u t (some a) n cap (by rw [ee]; exact ht) .i64 i (by omega) (by omega), ee, run_sizeOf_info he]
  have : ¬ cap = 0 := by omega
  simp [Result.andThen, sliced, Addr.add]
set_option maxHeartbeats 4000000 in
set_option maxRecDepth 100000 in
theorem ins_end {w : World} {v : Value} {ob : Option Nat} {l : List FD} (h : OwnS flE w v l ob) {b : Nat} {x : FD} (hx : Blk w b 71 (0, 0) (flE.f x)) (hl : l.length ≤ 100000) :
    Calls Try.prog 40 #[v, .int .i64 l.length, .slice (some ⟨b, 0, none⟩) 1 1] w fun e w' => ∃ v' ob', e = .returned v' ∧ OwnS flE w' v' (l ++ [x]) ob' ∧ Tch (fun k => ob = some k) w w' ∧ (ob' = ob ∨ ob' = some w.heap.size) := by
  obtain ⟨i0, hi0, hz0, hz1, hz2⟩ := info_parts Try.info71
  have hsrc := (rd_blk (E := flE) (X := [x]) (w := w) (g := b) (fz := (0, 0)) (by rw [rowOf_one1]; exact hx) 1 rfl (by decide)).src (P := Try.prog) (tx := 61) Try.underlying61
  obtain ⟨v', w', ob', hr, r1, r2, r3⟩ := run_append_OwnS (P := Try.prog) flE w 61 61 61 i0 _ 48 Try.underlying61 hi0 hz0 hz1 hz2 rfl v l ob h _ [x] hsrc (by simp) (by simp [maxLen]; omega) (by simp; omega)
  obtain ⟨a, c, rfl, hR⟩ := h.rd
  obtain ⟨a', hc1, _⟩ := cut_l (P := Try.prog) hR 61 Try.underlying61 (by kernel_rfl) .i64 (l.length : Int) l.length rfl (Nat.le_refl _)
  obtain ⟨n, hn⟩ : ∃ n, l.length = n := ⟨_, rfl⟩
  have q1 := Lib.hid r1
  have q2 := Lib.hid r2
  have q3 := Lib.hid r3
  rw [hn] at hr hc1 hl
  simp only [hn]
  clear r1 r2 r3 h hR hsrc hx
  go_enter Try.func40, Try.ntmps40
  go_wp2_with (at_builtin; refine Lib.wpList_append_run _ rfl _ _ 61 61 rfl _ _ rfl rfl _ _ hr ?_)
  go_ret
  exact ⟨_, _, rfl, q1.out, q2.out, q3.out⟩
theorem cells_row {w : World} {g : Nat} {X : List FD} (hB : Blk w g 71 (0, 0) (rowOf flE X)) (j m : Nat) : ∀ t v, (rowOf flE ((X.drop j).take m))[t]? = some v → w.cell? ((⟨g, j * 7, none⟩ : Addr).add t) = some v := by
  intro t v ht
  rw [Addr.add_lit, hB.cell]
  rw [← rowOf_take, ← rowOf_drop, List.getElem?_take, List.getElem?_drop] at ht
  split at ht
  · exact ht
  · cases ht
theorem there_fl {w : World} {g : Nat} {X : List FD} (hB : Blk w g 71 (0, 0) (rowOf flE X)) {o n : Nat} (hn : o + n ≤ X.length * 7) : ∀ j, j < n → (w.cell? ⟨g, o + j, none⟩).isSome = true ∧ w.frozen? ⟨g, o + j, none⟩ = false := by
  intro j hj
  refine ⟨?_, by rw [hB.frozen]; simp⟩
  rw [hB.cell, List.getElem?_eq_getElem (by rw [rowOf_length]; show o + j < X.length * 7; omega)]
  rfl
theorem grown_cells (w : World) (g o : Nat) (vs : List Value) : w.grownBy (w.setCells g o vs) (some g) := ⟨setCells_os _ _ _ _, setCells_tape _ _ _ _, setCells_output _ _ _ _, Nat.le_of_eq (setCells_size _ _ _ _).symm, fun k _ hk => setCells_other g (fun e => hk (by rw [e])) _ _ _⟩
set_option maxHeartbeats 8000000 in
set_option maxRecDepth 100000 in
theorem ins_room {w : World} {g o cap i : Nat} {X l : List FD} (hB : Blk w g 71 (0, 0) (rowOf flE X)) (hX : X.length = o + cap) (htk : (X.drop o).take l.length = l) (hcm : cap ≤ maxLen) (hi : i < l.length) (hroom : l.length + 1 ≤ cap) {b : Nat} {x : FD} (hx : Blk w b 71 (0, 0) (flE.f x)) (hb : g ≠ b) (hl : l.length ≤ 100000) :
    Calls Try.prog 40 #[.slice (some ⟨g, o * 7, none⟩) l.length cap, .int .i64 i, .slice (some ⟨b, 0, none⟩) 1 1] w fun e w' => e = .returned (.slice (some ⟨g, o * 7, none⟩) (l.length + 1) cap) ∧ OwnS flE w' (.slice (some ⟨g, o * 7, none⟩) (l.length + 1) cap) (l.take i ++ [x] ++ l.drop i) (some g) ∧ Tch (fun k => some g = some k) w w' := by
  have hsz : (Try.prog.info? 71).map (·.size) = some 7 := by kernel_rfl
  obtain ⟨n, hn⟩ : ∃ n, l.length = n := ⟨_, rfl⟩
  have e1 : ∀ u lo, lo = (i : Int) → (Instr.slice 61 (.slice (some ⟨g, o * 7, none⟩) n cap) (some (.int .i64 lo)) none none).run Try.prog u = .ok (.slice (some ⟨g, (o + i) * 7, none⟩) (n - i) (cap - i)) u := fun u lo h => run_from_S u 61 71 Try.underlying61 hsz g o n cap i lo h (by omega) (by omega)
  have e2 : ∀ u hi', hi' = (n : Int) + 1 → (Instr.slice 61 (.slice (some ⟨g, o * 7, none⟩) n cap) none (some (.int .i64 hi')) none).run Try.prog u = .ok (.slice (some ⟨g, o * 7, none⟩) (n + 1) cap) u := fun u hi' h => run_upto_S u 61 71 Try.underlying61 hsz ⟨g, o * 7, none⟩ n cap (n + 1) hi' (by omega) (by omega) (by omega)
  have e3 : ∀ u lo, lo = (i : Int) + 1 → (Instr.slice 61 (.slice (some ⟨g, o * 7, none⟩) (n + 1) cap) (some (.int .i64 lo)) none none).run Try.prog u = .ok (.slice (some ⟨g, (o + (i + 1)) * 7, none⟩) (n - i) (cap - (i + 1))) u := fun u lo h => by
    have := run_from_S (P := Try.prog) u 61 71 Try.underlying61 hsz g o (n + 1) cap (i + 1) lo (by omega) (by omega) (by omega)
    rw [this, show n + 1 - (i + 1) = n - i by omega]
  have e4 : ∀ u lo, lo = (i : Int) → (Instr.slice 61 (.slice (some ⟨g, o * 7, none⟩) (n + 1) cap) (some (.int .i64 lo)) none none).run Try.prog u = .ok (.slice (some ⟨g, (o + i) * 7, none⟩) (n + 1 - i) (cap - i)) u := fun u lo h => run_from_S u 61 71 Try.underlying61 hsz g o (n + 1) cap i lo h (by omega) (by omega)
  have hov : (callFunc 47 #[.slice (some ⟨b, 0, none⟩) 1 1, .slice (some ⟨g, (o + (i + 1)) * 7, none⟩) (n - i) (cap - (i + 1))]).run Try.prog w = .ok (.value (.bool false)) w := by
    have hz7 : ∀ w, (sizeOf 71).run Try.prog w = .ok 7 w := fun u => run_sizeOf_info hsz u
    have hsa : w.shape? b = some (71, 7) := by have h := hx; unfold Blk at h; simp [World.shape?, h, flE, pkC]
    have hsb : w.shape? g = some (71, (o + cap) * 7) := by
      have h := hB
      unfold Blk at h
      have e : (rowOf flE X).length = (o + cap) * 7 := by rw [rowOf_length, hX]; rfl
      simp [World.shape?, h, e]
    rw [run_callFunc_extern Try.func47 (by kernel_rfl) (by kernel_rfl) (by kernel_rfl) (e := Extern.SlicesOverlaps.overlaps #[61, 61] #[4]) (by kernel_rfl),
      Lib.run_overlaps_apart w 61 4 71 Try.underlying61 7 hz7 ⟨b, 0, none⟩ ⟨g, (o + (i + 1)) * 7, none⟩ 1 1 (n - i) (cap - (i + 1)) (fun e => hb e.symm) 71 71 7 ((o + cap) * 7) hsa hsb (by omega) (by rw [hx.frozen]; simp) (by rw [hx.frozen]; simp)]
    rfl
  have hX2 : (X.drop (o + i)).take (l.length - i) = l.drop i := by
    have := congrArg (List.drop i) htk
    rw [List.drop_take, List.drop_drop] at this
    exact this
  have hdl : (l.drop i).length = n - i := by rw [List.length_drop, hn]
  have hrl : (rowOf flE (l.drop i)).length = (n - i) * 7 := by rw [rowOf_length, hdl]; rfl
  have hsr : ∀ j v, (rowOf flE (l.drop i))[j]? = some v → w.drew.cell? ((⟨g, (o + i) * 7, none⟩ : Addr).add j) = some v := fun j v hj => by
    rw [← hX2, hn] at hj
    exact cells_row hB.drew (o + i) (n - i) j v hj
  have c1 : ∀ ty, (Builtin.copy_ #[61, 61] ty #[.slice (some ⟨g, (o + (i + 1)) * 7, none⟩) (n - i) (cap - (i + 1)), .slice (some ⟨g, (o + i) * 7, none⟩) (n + 1 - i) (cap - i)]).run Try.prog w.drew = .ok (goInt ((n - i : Nat) : Int)) (w.drew.setCells g ((o + (i + 1)) * 7) (rowOf flE (l.drop i))) := fun ty =>
    run_copy_k w.drew 61 61 ty 71 7 g ((o + (i + 1)) * 7) (n - i) (cap - (i + 1)) ⟨g, (o + i) * 7, none⟩ (n + 1 - i) (cap - i) (rowOf flE (l.drop i)) Try.underlying61 hsz (n - i) (by simp only [Nat.min_def]; split <;> omega) hrl
      hsr
      (fun j hj => (there_fl hB.drew (n := (n - i) * 7) (by rw [hX]; omega) j (by rw [← hrl]; exact hj)).1) (fun j hj => (there_fl hB.drew (n := (n - i) * 7) (by rw [hX]; omega) j (by rw [← hrl]; exact hj)).2) (rowOf_one flE _)
  have hB1 : Blk (w.drew.setCells g ((o + (i + 1)) * 7) (rowOf flE (l.drop i))) g 71 (0, 0) (rowOf flE (splice X (o + (i + 1)) (l.drop i))) := by
    have := setCells_blk (rowOf flE (l.drop i)) ((o + (i + 1)) * 7) w.drew hB.drew (by rw [hrl, rowOf_length, hX]; show _ ≤ (o + cap) * 7; omega)
    rwa [show (o + (i + 1)) * 7 = (o + (i + 1)) * flE.k from rfl, rowOf_splice] at this
  have hg1 := grown_cells w.drew g ((o + (i + 1)) * 7) (rowOf flE (l.drop i))
  have hx1 : Blk (w.drew.setCells g ((o + (i + 1)) * 7) (rowOf flE (l.drop i))) b 71 (0, 0) (flE.f x) := (hx.drew).grownV2 hg1 (fun e => hb (Option.some.inj e).symm)
  generalize w.drew.setCells g ((o + (i + 1)) * 7) (rowOf flE (l.drop i)) = w1 at *
  have hX1 : (splice X (o + (i + 1)) (l.drop i)).length = o + cap := by unfold splice; simp; omega
  have c2 : ∀ ty, (Builtin.copy_ #[61, 61] ty #[.slice (some ⟨g, (o + i) * 7, none⟩) (n + 1 - i) (cap - i), .slice (some ⟨b, 0, none⟩) 1 1]).run Try.prog w1 = .ok (goInt 1) (w1.setCells g ((o + i) * 7) (flE.f x)) := fun ty =>
    run_copy_k w1 61 61 ty 71 7 g ((o + i) * 7) (n + 1 - i) (cap - i) ⟨b, 0, none⟩ 1 1 (flE.f x) Try.underlying61 hsz 1 (by simp only [Nat.min_def]; split <;> omega) (by rw [flE.len]; rfl)
      (fun j v hj => by rw [Addr.add_lit, hx1.cell, Nat.zero_add]; exact hj)
      (fun j hj => (there_fl hB1 (n := 7) (by rw [hX1]; omega) j hj).1) (fun j hj => (there_fl hB1 (n := 7) (by rw [hX1]; omega) j hj).2) (flE.one x)
  have hB2 : Blk (w1.setCells g ((o + i) * 7) (flE.f x)) g 71 (0, 0) (rowOf flE (splice (splice X (o + (i + 1)) (l.drop i)) (o + i) [x])) := by
    have := setCells_blk (flE.f x) ((o + i) * 7) w1 hB1 (by rw [flE.len, rowOf_length, hX1]; show (o + i) * 7 + 7 ≤ (o + cap) * 7; omega)
    rwa [← rowOf_one1, show (o + i) * 7 = (o + i) * flE.k from rfl, rowOf_splice] at this
  have hg2 := grown_cells w1 g ((o + i) * 7) (flE.f x)
  generalize w1.setCells g ((o + i) * 7) (flE.f x) = w2 at *
  have hfin : OwnS flE w2 (.slice (some ⟨g, o * 7, none⟩) (n + 1) cap) (l.take i ++ [x] ++ l.drop i) (some g) := by
    have el : (l.take i ++ [x] ++ l.drop i).length = n + 1 := by simp; omega
    refine ⟨_, cap, by rw [el]; rfl, hcm, .inr ⟨g, o, _, rfl, by omega, rfl, hB2, ins_place_len x hX (by omega) hroom, by omega, ?_⟩⟩
    rw [el, ← hn]
    exact ins_place x hX htk (by omega) hroom
  have ht : Tch (fun k => some g = some k) w w2 := Tch.of_grown (row := some g) (grown_trans (grown_trans (grown_of_below (Below.refl _ w).drew) hg1) hg2) (fun k hk => hk)
  have q1 := Lib.hid hfin
  have q2 := Lib.hid ht
  have m1 : ¬ ((i : Int) = (n : Int)) := by omega
  have m2 : ¬ ((cap : Int) < (n : Int) + 1) := by omega
  have m3 : (n : Int) ≤ 100000 := by omega
  have m4 : (i : Int) < n := by omega
  clear hfin ht hB1 hB2 hg1 hg2 hx1 hX1 hX2 hdl hrl htk hB hX hx
  rw [hn]
  go_enter Try.func40, Try.ntmps40
  go_wp2_with fail
  have hw : IntKind.i64.wrap ((i : Int) + 1) = (i : Int) + 1 := IntWalk.i64_in _ (by omega)
  go_region_law (refine step_copy_run (by rfl) _ _ 61 61 (by rfl) _ _ (by simp [Act.eval, Act.put]) (by simp [Act.eval, Act.put]) (c1 _) ?_)
  go_wp2_with (at_builtin; refine wpList_copy_run _ rfl _ _ 61 61 rfl _ _ rfl rfl (c2 _) ?_)
  go_ret
  exact ⟨rfl, q1.out, q2.out⟩
set_option maxHeartbeats 8000000 in
set_option maxRecDepth 100000 in
theorem ins_grow {w : World} {g o cap i : Nat} {X l : List FD} (hB : Blk w g 71 (0, 0) (rowOf flE X)) (_hX : X.length = o + cap) (htk : (X.drop o).take l.length = l) (_hcm : cap ≤ maxLen) (hi : i < l.length) (hle : l.length ≤ cap) (hroom : cap < l.length + 1) {b : Nat} {x : FD} (hx : Blk w b 71 (0, 0) (flE.f x)) (hl : l.length ≤ 100000) :
    Calls Try.prog 40 #[.slice (some ⟨g, o * 7, none⟩) l.length cap, .int .i64 i, .slice (some ⟨b, 0, none⟩) 1 1] w fun e w' => ∃ c', e = .returned (.slice (some ⟨w.heap.size, 0, none⟩) (l.length + 1) c') ∧ OwnS flE w' (.slice (some ⟨w.heap.size, 0, none⟩) (l.length + 1) c') (l.take i ++ [x] ++ l.drop i) (some w.heap.size) ∧ Below w.heap.size w w' := by
  have hsz : (Try.prog.info? 71).map (·.size) = some 7 := by kernel_rfl
  obtain ⟨i0, hi0, hz0, hz1, hz2⟩ := info_parts Try.info71
  obtain ⟨n, hn⟩ : ∃ n, l.length = n := ⟨_, rfl⟩
  have hcap : cap = n := by omega
  have e1 : ∀ u lo, lo = (i : Int) → (Instr.slice 61 (.slice (some ⟨g, o * 7, none⟩) n cap) (some (.int .i64 lo)) none none).run Try.prog u = .ok (.slice (some ⟨g, (o + i) * 7, none⟩) (n - i) (cap - i)) u := fun u lo h => run_from_S u 61 71 Try.underlying61 hsz g o n cap i lo h (by omega) (by omega)
  have e2 : ∀ u hi', hi' = (i : Int) → (Instr.slice 61 (.slice (some ⟨g, o * 7, none⟩) n cap) none (some (.int .i64 hi')) none).run Try.prog u = .ok (.slice (some ⟨g, o * 7, none⟩) i cap) u := fun u hi' h => run_upto_S u 61 71 Try.underlying61 hsz ⟨g, o * 7, none⟩ n cap i hi' h (by omega) (by omega)
  have hXi : (X.drop o).take i = l.take i := by rw [← htk, List.take_take, Nat.min_eq_left (by omega)]
  have hdl : (l.drop i).length = n - i := by rw [List.length_drop, hn]
  have hrl : (rowOf flE (l.drop i)).length = (n - i) * 7 := by rw [rowOf_length, hdl]; rfl
  have hold : (Builtin.firstCells i0.size i (.slice (some ⟨g, o * 7, none⟩) i cap)).run Try.prog w.drew = .ok (rowOf flE (l.take i)).toArray w.drew := by
    refine run_firstCells_some w.drew i0.size i ⟨g, o * 7, none⟩ i cap (rowOf flE (l.take i)) (by rw [rowOf_length, hz1, List.length_take]; show min i l.length * 7 = _; rw [Nat.min_eq_left (by omega)]) ?_
    intro j u hj
    rw [← hXi] at hj
    exact cells_row hB.drew o i j u hj
  have hap := Lib.run_append_grow_zeros (P := Try.prog) w 61 3 61 71 i0 _ .i64 .i64 Try.underlying61 Try.underlying3 hi0 hz0 (some ⟨g, o * 7, none⟩) i cap (rowOf flE (l.take i)) hold (n + 1 - i) (by omega) (by rw [hz1]; omega) (by omega) (by omega) (by rw [hz2]; omega) (growslice_fits (by omega) (by rw [hz2]; omega))
  have hge := grownCap_ge w (i + (n + 1 - i)) cap 71
  have hcmx := grownCap_le_maxLen w (i + (n + 1 - i)) cap 71 (by simp [maxLen]; omega)
  have en : i + (n + 1 - i) = n + 1 := by omega
  rw [en] at hap hge hcmx
  obtain ⟨c', hc'⟩ : ∃ c', grownCap w (n + 1) cap 71 = c' := ⟨_, rfl⟩
  rw [hc'] at hap hge hcmx
  obtain ⟨Y, hY⟩ : ∃ Y : List FD, Y = l.take i ++ List.replicate (n + 1 - i) flE.z ++ List.replicate (c' - (n + 1)) flE.z := ⟨_, rfl⟩
  have hYl : Y.length = c' := by rw [hY]; simp; omega
  have hB0 : Blk (w.drew.alloc (.cells ((rowOf flE (l.take i)).toArray ++ Builtin.zeroCells (Value.agg #[.int .i64 0, .int .u32 0, .int .u16 0, .int .u32 0, .int .u16 0, .bool false, .slice none 0 0]).cells (n + 1 - i) ++ Builtin.zeroCells (Value.agg #[.int .i64 0, .int .u32 0, .int .u16 0, .int .u32 0, .int .u16 0, .bool false, .slice none 0 0]).cells (c' - (n + 1))) 71)) w.heap.size 71 (0, 0) (rowOf flE Y) := by
    have := Blk.new w.drew 71 (0, 0) ((rowOf flE (l.take i)).toArray ++ Builtin.zeroCells (Value.agg #[.int .i64 0, .int .u32 0, .int .u16 0, .int .u32 0, .int .u16 0, .bool false, .slice none 0 0]).cells (n + 1 - i) ++ Builtin.zeroCells (Value.agg #[.int .i64 0, .int .u32 0, .int .u16 0, .int .u32 0, .int .u16 0, .bool false, .slice none 0 0]).cells (c' - (n + 1)))
    have hZ : ∀ m, (Builtin.zeroCells (Value.agg #[.int .i64 0, .int .u32 0, .int .u16 0, .int .u32 0, .int .u16 0, .bool false, .slice none 0 0]).cells m).toList = rowOf flE (List.replicate m flE.z) := fun m => rowOf_replicate flE m _ rfl
    rw [Array.toList_append, Array.toList_append, hZ, hZ] at this
    rw [hY, rowOf_append, rowOf_append]
    exact this
  have hk0 : Below w.heap.size w (w.drew.alloc (.cells ((rowOf flE (l.take i)).toArray ++ Builtin.zeroCells (Value.agg #[.int .i64 0, .int .u32 0, .int .u16 0, .int .u32 0, .int .u16 0, .bool false, .slice none 0 0]).cells (n + 1 - i) ++ Builtin.zeroCells (Value.agg #[.int .i64 0, .int .u32 0, .int .u16 0, .int .u32 0, .int .u16 0, .bool false, .slice none 0 0]).cells (c' - (n + 1))) 71)) := ((Below.refl _ w).drew).alloc (Nat.le_refl _) _
  generalize w.drew.alloc (.cells ((rowOf flE (l.take i)).toArray ++ Builtin.zeroCells (Value.agg #[.int .i64 0, .int .u32 0, .int .u16 0, .int .u32 0, .int .u16 0, .bool false, .slice none 0 0]).cells (n + 1 - i) ++ Builtin.zeroCells (Value.agg #[.int .i64 0, .int .u32 0, .int .u16 0, .int .u32 0, .int .u16 0, .bool false, .slice none 0 0]).cells (c' - (n + 1))) 71) = w0 at *
  have hg : Blk w0 g 71 (0, 0) (rowOf flE X) := hB.below hk0 hB.lt
  have hx0 : Blk w0 b 71 (0, 0) (flE.f x) := hx.below hk0 hx.lt
  have hgl := hB.lt
  obtain ⟨B, hBB⟩ : ∃ B, w.heap.size = B := ⟨_, rfl⟩
  rw [hBB] at hB0 hap hk0 hgl
  have e3 : ∀ u lo, lo = (i : Int) → (Instr.slice 61 (.slice (some ⟨B, 0, none⟩) (n + 1) c') (some (.int .i64 lo)) none none).run Try.prog u = .ok (.slice (some ⟨B, i * 7, none⟩) (n + 1 - i) (c' - i)) u := fun u lo h => by
    have := run_from_S (P := Try.prog) u 61 71 Try.underlying61 hsz B 0 (n + 1) c' i lo h (by omega) (by omega)
    simpa using this
  have e4 : ∀ u lo, lo = (i : Int) + 1 → (Instr.slice 61 (.slice (some ⟨B, 0, none⟩) (n + 1) c') (some (.int .i64 lo)) none none).run Try.prog u = .ok (.slice (some ⟨B, (i + 1) * 7, none⟩) (n - i) (c' - (i + 1))) u := fun u lo h => by
    have := run_from_S (P := Try.prog) u 61 71 Try.underlying61 hsz B 0 (n + 1) c' (i + 1) lo (by omega) (by omega) (by omega)
    rw [show n + 1 - (i + 1) = n - i by omega] at this
    simpa using this
  have c1 : ∀ ty, (Builtin.copy_ #[61, 61] ty #[.slice (some ⟨B, i * 7, none⟩) (n + 1 - i) (c' - i), .slice (some ⟨b, 0, none⟩) 1 1]).run Try.prog w0 = .ok (goInt 1) (w0.setCells B (i * 7) (flE.f x)) := fun ty =>
    run_copy_k w0 61 61 ty 71 7 B (i * 7) (n + 1 - i) (c' - i) ⟨b, 0, none⟩ 1 1 (flE.f x) Try.underlying61 hsz 1 (by simp only [Nat.min_def]; split <;> omega) (by rw [flE.len]; rfl)
      (fun j v hj => by rw [Addr.add_lit, hx0.cell, Nat.zero_add]; exact hj)
      (fun j hj => (there_fl hB0 (n := 7) (by rw [hYl]; omega) j hj).1) (fun j hj => (there_fl hB0 (n := 7) (by rw [hYl]; omega) j hj).2) (flE.one x)
  have hB1 : Blk (w0.setCells B (i * 7) (flE.f x)) B 71 (0, 0) (rowOf flE (splice Y i [x])) := by
    have := setCells_blk (flE.f x) (i * 7) w0 hB0 (by rw [flE.len, rowOf_length, hYl]; show i * 7 + 7 ≤ c' * 7; omega)
    rwa [← rowOf_one1, show i * 7 = i * flE.k from rfl, rowOf_splice] at this
  have hg1 := grown_cells w0 B (i * 7) (flE.f x)
  generalize w0.setCells B (i * 7) (flE.f x) = w1 at *
  have hgx : Blk w1 g 71 (0, 0) (rowOf flE X) := hg.grownV2 hg1 (fun e => by have := Option.some.inj e; omega)
  have hY1 : (splice Y i [x]).length = c' := by unfold splice; simp; omega
  have hX2 : (X.drop (o + i)).take (l.length - i) = l.drop i := by
    have := congrArg (List.drop i) htk
    rw [List.drop_take, List.drop_drop] at this
    exact this
  have hsr : ∀ j v, (rowOf flE (l.drop i))[j]? = some v → w1.drew.cell? ((⟨g, (o + i) * 7, none⟩ : Addr).add j) = some v := fun j v hj => by
    rw [← hX2, hn] at hj
    exact cells_row hgx.drew (o + i) (n - i) j v hj
  have c2 : ∀ ty, (Builtin.copy_ #[61, 61] ty #[.slice (some ⟨B, (i + 1) * 7, none⟩) (n - i) (c' - (i + 1)), .slice (some ⟨g, (o + i) * 7, none⟩) (n - i) (cap - i)]).run Try.prog w1.drew = .ok (goInt ((n - i : Nat) : Int)) (w1.drew.setCells B ((i + 1) * 7) (rowOf flE (l.drop i))) := fun ty =>
    run_copy_k w1.drew 61 61 ty 71 7 B ((i + 1) * 7) (n - i) (c' - (i + 1)) ⟨g, (o + i) * 7, none⟩ (n - i) (cap - i) (rowOf flE (l.drop i)) Try.underlying61 hsz (n - i) (by simp only [Nat.min_def]; split <;> omega) hrl
      hsr
      (fun j hj => (there_fl hB1.drew (n := (n - i) * 7) (by rw [hY1]; omega) j (by rw [← hrl]; exact hj)).1) (fun j hj => (there_fl hB1.drew (n := (n - i) * 7) (by rw [hY1]; omega) j (by rw [← hrl]; exact hj)).2) (rowOf_one flE _)
  have hB2 : Blk (w1.drew.setCells B ((i + 1) * 7) (rowOf flE (l.drop i))) B 71 (0, 0) (rowOf flE (splice (splice Y i [x]) (i + 1) (l.drop i))) := by
    have := setCells_blk (rowOf flE (l.drop i)) ((i + 1) * 7) w1.drew hB1.drew (by rw [hrl, rowOf_length, hY1]; show (i + 1) * 7 + (n - i) * 7 ≤ c' * 7; omega)
    rwa [show (i + 1) * 7 = (i + 1) * flE.k from rfl, rowOf_splice] at this
  have hg2 := grown_cells w1.drew B ((i + 1) * 7) (rowOf flE (l.drop i))
  generalize w1.drew.setCells B ((i + 1) * 7) (rowOf flE (l.drop i)) = w2 at *
  have hfin : OwnS flE w2 (.slice (some ⟨B, 0, none⟩) (n + 1) c') (l.take i ++ [x] ++ l.drop i) (some B) := by
    have el : (l.take i ++ [x] ++ l.drop i).length = n + 1 := by simp; omega
    refine ⟨some ⟨B, 0, none⟩, c', by rw [el], hcmx, .inr ⟨B, 0, _, rfl, by omega, by simp, hB2, ?_, by omega, ?_⟩⟩
    · rw [hY, ins_new_len x flE.z _ (by omega) (by rw [hn])]; simp; omega
    · rw [el, ← hn, List.drop_zero, hY]
      exact ins_new x flE.z _ (by omega) (by rw [hn])
  have ht : Below B w w2 := (hk0.grown (grown_trans (grown_trans hg1 (grown_of_below (Below.refl _ w1).drew)) hg2) (by rw [← hBB]; exact hk0.size) (fun k hk => by cases hk; exact Nat.le_refl _))
  have q1 := Lib.hid hfin
  have q2 := Lib.hid ht
  have m1 : ¬ ((i : Int) = (n : Int)) := by omega
  have m2 : (cap : Int) < (n : Int) + 1 := by omega
  have m3 : (n : Int) ≤ 100000 := by omega
  have m4 : (i : Int) < n := by omega
  have m5 : (n : Int) + 1 - i = ((n + 1 - i : Nat) : Int) := by omega
  have hap' : (Builtin.append_ #[61, 3] 61 #[.slice (some ⟨g, o * 7, none⟩) i cap, .int .i64 ((n : Int) + 1 - i)]).run Try.prog w = .ok (.slice (some ⟨B, 0, none⟩) (n + 1) c') w0 := by rw [m5]; exact hap
  clear hfin ht hB1 hB2 hg1 hg2 hx0 hY1 hX2 hdl hrl htk hB hx hap hold hXi hB0 hk0 hg hgx hsr m5 hc' hY hYl hge hcmx hcap
  rw [hn]
  go_enter Try.func40, Try.ntmps40
  go_wp2_with (at_builtin; first | refine Lib.wpList_append_run _ rfl _ _ 61 3 rfl _ _ rfl rfl _ _ hap' ?_ | refine wpList_copy_run _ rfl _ _ 61 61 rfl _ _ rfl rfl (c1 _) ?_)
  have hw : IntKind.i64.wrap ((i : Int) + 1) = (i : Int) + 1 := IntWalk.i64_in _ (by omega)
  go_region_law (refine step_copy_run (by rfl) _ _ 61 61 (by rfl) _ _ (by simp [Act.eval, Act.put]) (by simp [Act.eval, Act.put]) (c2 _) ?_)
  go_wp2_with fail
  go_ret
  rw [hBB]
  exact ⟨_, rfl, q1.out, q2.out⟩
/-- slices.Insert of one flight -/
theorem ins_any {w : World} {v : Value} {ob : Option Nat} {l : List FD} (h : OwnS flE w v l ob) {i : Nat} (hi : i ≤ l.length) {b : Nat} {x : FD} (hx : Blk w b 71 (0, 0) (flE.f x)) (hb : ob ≠ some b) (hl : l.length ≤ 100000) :
    Calls Try.prog 40 #[v, .int .i64 i, .slice (some ⟨b, 0, none⟩) 1 1] w fun e w' => ∃ v' ob', e = .returned v' ∧ OwnS flE w' v' (l.take i ++ [x] ++ l.drop i) ob' ∧ Tch (fun k => ob = some k) w w' ∧ (ob' = ob ∨ ob' = some w.heap.size) := by
  by_cases he : i = l.length
  · subst he
    rw [List.take_length, List.drop_length, List.append_nil]
    exact ins_end h hx hl
  · obtain ⟨a, cap, rfl, h2, ⟨h3, h4, h5⟩ | ⟨g, o, X, h3, h4, h5, h6, h7, h8, h9⟩⟩ := h
    · subst h5
      exact absurd (Nat.le_zero.1 hi) he
    · subst h5 h3
      by_cases hr : l.length + 1 ≤ cap
      · refine (ins_room (i := i) h6 h7 h9 h2 (by omega) hr hx (fun e => hb (by rw [e])) hl).mono ?_
        rintro e w' ⟨rfl, q1, q2⟩
        exact ⟨_, _, rfl, q1, q2, .inl rfl⟩
      · refine (ins_grow (i := i) h6 h7 h9 h2 (by omega) h8 (by omega) hx hl).mono ?_
        rintro e w' ⟨c', rfl, q1, q2⟩
        exact ⟨_, _, rfl, q1, Tch.of_below q2, .inr rfl⟩
end Go.Proofs.Ythdnbipfdahnlaa
