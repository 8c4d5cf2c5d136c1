/- header.flags 25: the map literal, its entries laid in whatever order. -/
import Derived.Test.YtbpkhnnfdjihdaaStH
import Derived.Test.YtbpkhnnfdjihdaaHdLaw
import Derived.Test.YtbpkhnnfdjihdaaRdrN
import Derived.Maps.RangeWalk
import Derived.Deep.RegionHeld3
namespace Go.Proofs.Ytbpkhnnfdjihdaa
open Go Go.RowKit Go.Maps Go.WideShapes
def ptrR (mb : Nat) (v : Value) : Option (DataW Unit × List MemPlace) := match v with
  | .pointer (some ⟨b, o, none⟩) => if b = mb then some (.lit (.int .i64 o), []) else none
  | _ => none
theorem ptrR_mk (mb o : Nat) : ptrR mb (.pointer (some ⟨mb, o, none⟩)) = some (.lit (.int .i64 o), []) := by simp [ptrR]
theorem ptrR_inv {mb : Nat} {v : Value} {z : DataW Unit × List MemPlace} (h : ptrR mb v = some z) : ∃ o : Nat, v = .pointer (some ⟨mb, o, none⟩) ∧ z = (.lit (.int .i64 o), []) := by
  unfold ptrR at h
  split at h
  · split at h
    · rename_i hb
      subst hb
      exact ⟨_, rfl, by simpa using h.symm⟩
    · cases h
  · cases h
theorem fk_wf (j : Nat) : (Lit.int .i64 (fk j : Int)).wf = true := by
  have := fk_lt j
  exact WalkArith.wf_i64 (by omega)
theorem fk_inj {i j : Nat} (hi : i < 7) (hj : j < 7) (h : fk i = fk j) : i = j := by
  match i, hi, j, hj with
  | 0, _, 0, _ => first | rfl | (exact absurd h (by decide))
  | 0, _, 1, _ => first | rfl | (exact absurd h (by decide))
  | 0, _, 2, _ => first | rfl | (exact absurd h (by decide))
  | 0, _, 3, _ => first | rfl | (exact absurd h (by decide))
  | 0, _, 4, _ => first | rfl | (exact absurd h (by decide))
  | 0, _, 5, _ => first | rfl | (exact absurd h (by decide))
  | 0, _, 6, _ => first | rfl | (exact absurd h (by decide))
  | 1, _, 0, _ => first | rfl | (exact absurd h (by decide))
  | 1, _, 1, _ => first | rfl | (exact absurd h (by decide))
  | 1, _, 2, _ => first | rfl | (exact absurd h (by decide))
  | 1, _, 3, _ => first | rfl | (exact absurd h (by decide))
  | 1, _, 4, _ => first | rfl | (exact absurd h (by decide))
  | 1, _, 5, _ => first | rfl | (exact absurd h (by decide))
  | 1, _, 6, _ => first | rfl | (exact absurd h (by decide))
  | 2, _, 0, _ => first | rfl | (exact absurd h (by decide))
  | 2, _, 1, _ => first | rfl | (exact absurd h (by decide))
  | 2, _, 2, _ => first | rfl | (exact absurd h (by decide))
  | 2, _, 3, _ => first | rfl | (exact absurd h (by decide))
  | 2, _, 4, _ => first | rfl | (exact absurd h (by decide))
  | 2, _, 5, _ => first | rfl | (exact absurd h (by decide))
  | 2, _, 6, _ => first | rfl | (exact absurd h (by decide))
  | 3, _, 0, _ => first | rfl | (exact absurd h (by decide))
  | 3, _, 1, _ => first | rfl | (exact absurd h (by decide))
  | 3, _, 2, _ => first | rfl | (exact absurd h (by decide))
  | 3, _, 3, _ => first | rfl | (exact absurd h (by decide))
  | 3, _, 4, _ => first | rfl | (exact absurd h (by decide))
  | 3, _, 5, _ => first | rfl | (exact absurd h (by decide))
  | 3, _, 6, _ => first | rfl | (exact absurd h (by decide))
  | 4, _, 0, _ => first | rfl | (exact absurd h (by decide))
  | 4, _, 1, _ => first | rfl | (exact absurd h (by decide))
  | 4, _, 2, _ => first | rfl | (exact absurd h (by decide))
  | 4, _, 3, _ => first | rfl | (exact absurd h (by decide))
  | 4, _, 4, _ => first | rfl | (exact absurd h (by decide))
  | 4, _, 5, _ => first | rfl | (exact absurd h (by decide))
  | 4, _, 6, _ => first | rfl | (exact absurd h (by decide))
  | 5, _, 0, _ => first | rfl | (exact absurd h (by decide))
  | 5, _, 1, _ => first | rfl | (exact absurd h (by decide))
  | 5, _, 2, _ => first | rfl | (exact absurd h (by decide))
  | 5, _, 3, _ => first | rfl | (exact absurd h (by decide))
  | 5, _, 4, _ => first | rfl | (exact absurd h (by decide))
  | 5, _, 5, _ => first | rfl | (exact absurd h (by decide))
  | 5, _, 6, _ => first | rfl | (exact absurd h (by decide))
  | 6, _, 0, _ => first | rfl | (exact absurd h (by decide))
  | 6, _, 1, _ => first | rfl | (exact absurd h (by decide))
  | 6, _, 2, _ => first | rfl | (exact absurd h (by decide))
  | 6, _, 3, _ => first | rfl | (exact absurd h (by decide))
  | 6, _, 4, _ => first | rfl | (exact absurd h (by decide))
  | 6, _, 5, _ => first | rfl | (exact absurd h (by decide))
  | 6, _, 6, _ => first | rfl | (exact absurd h (by decide))
/-- block b holds the flags of F -/
def FlM (w : World) (mb b n : Nat) (F : Nat → Bool) : Prop :=
  ∃ D : DataW Unit, w.ownsMap Try.prog 3 (ptrR mb) b n D ∧ ∀ x : Int, (Lit.int .i64 x).wf = true →
    (((∀ j, j < 7 → F j = true → x ≠ fk j) ∧ Maps.has D (.int .i64 x) = false) ∨ ∃ j, j < 7 ∧ F j = true ∧ x = fk j ∧ Maps.has D (.int .i64 x) = true ∧ ∀ z, D.atKey (.int .i64 x) z = .lit (.int .i64 (fo j)))
theorem FlM.made (w : World) (mb : Nat) : FlM (w.alloc (.map #[] 0)) mb w.heap.size 0 (fun _ => false) :=
  ⟨_, World.ownsMap_made w Try.prog 3 _, fun _ _ => .inl ⟨fun j hj (h : false = true) => by simp at h, rfl⟩⟩
theorem FlM.eq {w : World} {mb b n : Nat} {F G : Nat → Bool} (h : FlM w mb b n F) (hf : ∀ j, j < 7 → F j = G j) : FlM w mb b n G := by
  obtain ⟨D, h, r⟩ := h
  refine ⟨D, h, fun x hx => ?_⟩
  rcases r x hx with ⟨q1, q2⟩ | ⟨j, hj, q1, q2⟩
  · exact .inl ⟨fun j hj hG => q1 j hj ((hf j hj).trans hG), q2⟩
  · exact .inr ⟨j, hj, (hf j hj).symm.trans q1, q2⟩
theorem FlM.lt {w : World} {mb b n : Nat} {F : Nat → Bool} (h : FlM w mb b n F) : b < w.heap.size := by obtain ⟨D, h, _⟩ := h; exact h.lt
theorem FlM.keep {w w' : World} {mb b n : Nat} {F : Nat → Bool} (h : FlM w mb b n F) (hb : w'.heap[b]? = w.heap[b]?) : FlM w' mb b n F := by
  obtain ⟨D, ⟨es, clock, h1, h2⟩, r⟩ := h
  exact ⟨D, ⟨es, clock, hb.trans h1, h2⟩, r⟩
theorem key3 : Keyed Try.prog 3 := int_keyed Try.underlying3
theorem FlM.store {w : World} {mb b n : Nat} {F : Nat → Bool} (h : FlM w mb b n F) (hn : n < maxLen) {j : Nat} (hj : j < 7) :
    ∃ w', (Instr.mapUpdate 56 (.map (some b)) (.int .i64 (fk j)) (.pointer (some ⟨mb, fo j, none⟩))).run Try.prog w = .ok () w' ∧ FlM w' mb b (n + 1) (fun i => if i = j then true else F i) ∧ w.grownBy w' (some b) ∧ w'.heap.size = w.heap.size := by
  obtain ⟨D, h, r⟩ := h
  obtain ⟨w', hrun, h1, h2⟩ := h.store key3 Try.underlying56 hn (keyOf_int_mk Try.underlying3 (fk_wf j)) (ptrR_mk mb (fo j))
  have hk := key3.key (keyOf_int_mk Try.underlying3 (fk_wf j))
  refine ⟨w', hrun, ⟨_, h1, fun y hy => ?_⟩, h2.grown, ?_⟩
  · by_cases hyx : y = fk j
    · subst hyx
      exact .inr ⟨j, hj, by simp, rfl, has_put_same h.isMap hk _, fun z => atKey_put_same h.isMap hk _ _⟩
    · have hne : Lit.int .i64 y ≠ Lit.int .i64 (fk j : Int) := fun e => hyx (by cases e; rfl)
      rcases r y hy with ⟨q1, q2⟩ | ⟨i, hi, q1, q2, q3, q4⟩
      · refine .inl ⟨fun i hi hF => ?_, by rw [has_put_other hne]; exact q2⟩
        by_cases hij : i = j
        · subst hij; exact hyx
        · simp only [hij, if_false] at hF; exact q1 i hi hF
      · refine .inr ⟨i, hi, ?_, q2, by rw [has_put_other hne]; exact q3, fun z => by rw [atKey_put_other hne]; exact q4 z⟩
        by_cases hij : i = j
        · simp [hij]
        · simp only [hij, if_false]; exact q1
  · obtain ⟨es, clock, es', clock', h3, rfl⟩ := h2
    simp [Go.ChangeMaps.setBlock]
def L7 (b0 b1 b2 b3 b4 b5 b6 : Bool) : Array Bool := #[true, true, true, true, b0, true, true, true, b1, true, true, true, b2, true, true, true, b3, true, true, true, b4, true, true, true, b5, true, true, true, b6, false, false]
def rdy (b0 b1 b2 b3 b4 b5 b6 : Bool) : List Nat := (if b0 then [] else [4]) ++ (if b1 then [] else [8]) ++ (if b2 then [] else [12]) ++ (if b3 then [] else [16]) ++ (if b4 then [] else [20]) ++ (if b5 then [] else [24]) ++ (if b6 then [] else [28])
def cnt7 (b0 b1 b2 b3 b4 b5 b6 : Bool) : Nat := (if b0 then 0 else 1) + (if b1 then 0 else 1) + (if b2 then 0 else 1) + (if b3 then 0 else 1) + (if b4 then 0 else 1) + (if b5 then 0 else 1) + (if b6 then 0 else 1)
def fb7 (b0 b1 b2 b3 b4 b5 b6 : Bool) (j : Nat) : Bool := match j with | 0 => b0 | 1 => b1 | 2 => b2 | 3 => b3 | 4 => b4 | 5 => b5 | _ => b6
set_option maxHeartbeats 4000000 in
theorem ins_loop {Q : Exit → Act → World → Prop} {ops : Array Oper} {a : Act} {mb bm m : Nat} {W : World}
    (hready : ∀ b0 b1 b2 b3 b4 b5 b6 : Bool, (b0 && b1 && b2 && b3 && b4 && b5 && b6) = false → Region.ready .any ops (L7 b0 b1 b2 b3 b4 b5 b6) = rdy b0 b1 b2 b3 b4 b5 b6)
    (hop : ∀ j, j < 7 → ∀ (K : Act → World → Prop) (w w' : World), (Instr.mapUpdate 56 (.map (some bm)) (.int .i64 (fk j)) (.pointer (some ⟨mb, fo j, none⟩))).run Try.prog w = .ok () w' → K a w' → wpOp Try.prog ops Q (4 * j + 4) K a w)
    (hdone : ∀ w', FlM w' mb bm 7 (fun _ => true) → W.grownBy w' (some bm) → w'.heap.size = W.heap.size → wpAnyH Try.prog .any ops Q (fun _ => True) m (L7 true true true true true true true) a w') :
    ∀ (n : Nat) (b0 b1 b2 b3 b4 b5 b6 : Bool) (w : World), cnt7 b0 b1 b2 b3 b4 b5 b6 = n → n ≤ 7 → FlM w mb bm (7 - n) (fb7 b0 b1 b2 b3 b4 b5 b6) → W.grownBy w (some bm) → w.heap.size = W.heap.size → wpAnyH Try.prog .any ops Q (fun _ => True) (n + m) (L7 b0 b1 b2 b3 b4 b5 b6) a w := by
  intro n
  induction n with
  | zero =>
    intro b0 b1 b2 b3 b4 b5 b6 w hc _ hF hg hz
    have e : b0 = true ∧ b1 = true ∧ b2 = true ∧ b3 = true ∧ b4 = true ∧ b5 = true ∧ b6 = true := by
      revert hc; cases b0 <;> cases b1 <;> cases b2 <;> cases b3 <;> cases b4 <;> cases b5 <;> cases b6 <;> simp [cnt7]
    obtain ⟨rfl, rfl, rfl, rfl, rfl, rfl, rfl⟩ := e
    rw [Nat.zero_add]
    refine hdone w (hF.eq fun j hj => ?_) hg hz
    unfold fb7; split <;> rfl
  | succ n ih =>
    intro b0 b1 b2 b3 b4 b5 b6 w hc hn hF hg hz
    have hf : (b0 && b1 && b2 && b3 && b4 && b5 && b6) = false := by
      revert hc; cases b0 <;> cases b1 <;> cases b2 <;> cases b3 <;> cases b4 <;> cases b5 <;> cases b6 <;> simp [cnt7]
    have hr := hready b0 b1 b2 b3 b4 b5 b6 hf
    rw [Nat.add_right_comm]
    refine ⟨fun h0 => ?_, fun i hi => ?_⟩
    · rw [hr] at h0
      revert h0 hf; cases b0 <;> cases b1 <;> cases b2 <;> cases b3 <;> cases b4 <;> cases b5 <;> cases b6 <;> simp [rdy]
    · rw [hr] at hi
      have hi2 : (i = 4 ∧ b0 = false) ∨ (i = 8 ∧ b1 = false) ∨ (i = 12 ∧ b2 = false) ∨ (i = 16 ∧ b3 = false) ∨ (i = 20 ∧ b4 = false) ∨ (i = 24 ∧ b5 = false) ∨ (i = 28 ∧ b6 = false) := by
        revert hi; cases b0 <;> cases b1 <;> cases b2 <;> cases b3 <;> cases b4 <;> cases b5 <;> cases b6 <;> simp [rdy]
      have hsz : 7 - (n + 1) < maxLen := Nat.lt_of_le_of_lt (Nat.sub_le _ _) (by decide)
      rcases hi2 with ⟨rfl, rfl⟩ | ⟨rfl, rfl⟩ | ⟨rfl, rfl⟩ | ⟨rfl, rfl⟩ | ⟨rfl, rfl⟩ | ⟨rfl, rfl⟩ | ⟨rfl, rfl⟩
      · obtain ⟨w', hrun, hF', hg', hz'⟩ := hF.store hsz (j := 0) (by decide)
        refine hop 0 (by decide) _ w w' hrun ⟨trivial, ?_⟩
        refine ih true b1 b2 b3 b4 b5 b6 w' (by revert hc; simp [cnt7]; try omega) (by omega) ?_ (grown_trans hg hg') (hz'.trans hz)
        have e7 : 7 - (n + 1) + 1 = 7 - n := by omega
        rw [e7] at hF'
        refine hF'.eq fun i hi => ?_
        match i, hi with
        | 0, _ => simp [fb7]
        | 1, _ => simp [fb7]
        | 2, _ => simp [fb7]
        | 3, _ => simp [fb7]
        | 4, _ => simp [fb7]
        | 5, _ => simp [fb7]
        | 6, _ => simp [fb7]
      · obtain ⟨w', hrun, hF', hg', hz'⟩ := hF.store hsz (j := 1) (by decide)
        refine hop 1 (by decide) _ w w' hrun ⟨trivial, ?_⟩
        refine ih b0 true b2 b3 b4 b5 b6 w' (by revert hc; simp [cnt7]; try omega) (by omega) ?_ (grown_trans hg hg') (hz'.trans hz)
        have e7 : 7 - (n + 1) + 1 = 7 - n := by omega
        rw [e7] at hF'
        refine hF'.eq fun i hi => ?_
        match i, hi with
        | 0, _ => simp [fb7]
        | 1, _ => simp [fb7]
        | 2, _ => simp [fb7]
        | 3, _ => simp [fb7]
        | 4, _ => simp [fb7]
        | 5, _ => simp [fb7]
        | 6, _ => simp [fb7]
      · obtain ⟨w', hrun, hF', hg', hz'⟩ := hF.store hsz (j := 2) (by decide)
        refine hop 2 (by decide) _ w w' hrun ⟨trivial, ?_⟩
        refine ih b0 b1 true b3 b4 b5 b6 w' (by revert hc; simp [cnt7]; try omega) (by omega) ?_ (grown_trans hg hg') (hz'.trans hz)
        have e7 : 7 - (n + 1) + 1 = 7 - n := by omega
        rw [e7] at hF'
        refine hF'.eq fun i hi => ?_
        match i, hi with
        | 0, _ => simp [fb7]
        | 1, _ => simp [fb7]
        | 2, _ => simp [fb7]
        | 3, _ => simp [fb7]
        | 4, _ => simp [fb7]
        | 5, _ => simp [fb7]
        | 6, _ => simp [fb7]
      · obtain ⟨w', hrun, hF', hg', hz'⟩ := hF.store hsz (j := 3) (by decide)
        refine hop 3 (by decide) _ w w' hrun ⟨trivial, ?_⟩
        refine ih b0 b1 b2 true b4 b5 b6 w' (by revert hc; simp [cnt7]; try omega) (by omega) ?_ (grown_trans hg hg') (hz'.trans hz)
        have e7 : 7 - (n + 1) + 1 = 7 - n := by omega
        rw [e7] at hF'
        refine hF'.eq fun i hi => ?_
        match i, hi with
        | 0, _ => simp [fb7]
        | 1, _ => simp [fb7]
        | 2, _ => simp [fb7]
        | 3, _ => simp [fb7]
        | 4, _ => simp [fb7]
        | 5, _ => simp [fb7]
        | 6, _ => simp [fb7]
      · obtain ⟨w', hrun, hF', hg', hz'⟩ := hF.store hsz (j := 4) (by decide)
        refine hop 4 (by decide) _ w w' hrun ⟨trivial, ?_⟩
        refine ih b0 b1 b2 b3 true b5 b6 w' (by revert hc; simp [cnt7]; try omega) (by omega) ?_ (grown_trans hg hg') (hz'.trans hz)
        have e7 : 7 - (n + 1) + 1 = 7 - n := by omega
        rw [e7] at hF'
        refine hF'.eq fun i hi => ?_
        match i, hi with
        | 0, _ => simp [fb7]
        | 1, _ => simp [fb7]
        | 2, _ => simp [fb7]
        | 3, _ => simp [fb7]
        | 4, _ => simp [fb7]
        | 5, _ => simp [fb7]
        | 6, _ => simp [fb7]
      · obtain ⟨w', hrun, hF', hg', hz'⟩ := hF.store hsz (j := 5) (by decide)
        refine hop 5 (by decide) _ w w' hrun ⟨trivial, ?_⟩
        refine ih b0 b1 b2 b3 b4 true b6 w' (by revert hc; simp [cnt7]; try omega) (by omega) ?_ (grown_trans hg hg') (hz'.trans hz)
        have e7 : 7 - (n + 1) + 1 = 7 - n := by omega
        rw [e7] at hF'
        refine hF'.eq fun i hi => ?_
        match i, hi with
        | 0, _ => simp [fb7]
        | 1, _ => simp [fb7]
        | 2, _ => simp [fb7]
        | 3, _ => simp [fb7]
        | 4, _ => simp [fb7]
        | 5, _ => simp [fb7]
        | 6, _ => simp [fb7]
      · obtain ⟨w', hrun, hF', hg', hz'⟩ := hF.store hsz (j := 6) (by decide)
        refine hop 6 (by decide) _ w w' hrun ⟨trivial, ?_⟩
        refine ih b0 b1 b2 b3 b4 b5 true w' (by revert hc; simp [cnt7]; try omega) (by omega) ?_ (grown_trans hg hg') (hz'.trans hz)
        have e7 : 7 - (n + 1) + 1 = 7 - n := by omega
        rw [e7] at hF'
        refine hF'.eq fun i hi => ?_
        match i, hi with
        | 0, _ => simp [fb7]
        | 1, _ => simp [fb7]
        | 2, _ => simp [fb7]
        | 3, _ => simp [fb7]
        | 4, _ => simp [fb7]
        | 5, _ => simp [fb7]
        | 6, _ => simp [fb7]
theorem ins_op {ops : Array Oper} {Q : Exit → Act → World → Prop} {i : Nat} {o : Oper} {a : Act} {m k x : Operand} {bm : Nat} {key val : Value} (ho : ops[i]? = some o) (hg : o.guard = none) (hd : o.dst = none) (hop : o.op = Op.insert 56 m k x)
    (hm : a.eval m = .map (some bm)) (hk : a.eval k = key) (hx : a.eval x = val) {K : Act → World → Prop} {w w' : World} (hrun : (Instr.mapUpdate 56 (.map (some bm)) key val).run Try.prog w = .ok () w') (hK : K a w') : wpOp Try.prog ops Q i K a w := by
  refine wpOp_step ho fun K' hK' => ?_
  have hw : Region.wanted o (yielded ops a.tmps) = true := by unfold Region.wanted; rw [hg]
  rw [if_pos hw]
  unfold Oper.wp
  simp [execOp, hop, hm, hk, hx, hrun, Result.andThen]
  simp only [Oper.upon, hd]
  exact hK' _ _ hK
set_option linter.unusedSimpArgs false in
set_option maxHeartbeats 16000000 in
set_option maxRecDepth 100000 in
theorem flags_any {w : World} {g : Nat} : Calls Try.prog 25 #[.pointer (some ⟨g, 0, none⟩)] w fun e w' => e = .returned (.map (some w.heap.size)) ∧ FlM w' g w.heap.size 7 (fun _ => true) ∧ Below w.heap.size w w' := by
  have hmm := @run_makeMap Try.prog
  go_enter Try.func25, Try.ntmps25
  go_wp2_with fail
  refine wp_region_held_drew (S := fun _ => True) (by kernel_rfl) trivial (fun hHeld => ?_)
  refine wpAnyH_take (i := 1) (oi := { dst := some 4, op := Op.move (Operand.tmp 0), type := 58, pos := _, after := #[], guard := none }) (v := ?_) rfl (by kernel_rfl) (by kernel_rfl) (by kernel_rfl) (fun _ _ _ h => h) (Or.inl ⟨by rfl, ?_⟩) (by assumption) ?_
  rotate_left
  · intro w hSw
    go_simp
    first | done | with_reducible rfl
  try simp only [Act.put, List.setIfInBounds_toArray, List.set_cons_zero, List.set_cons_succ]
  refine wpAnyH_take (i := 2) (oi := { dst := some 5, op := Op.nilCheck (Operand.tmp 4), type := 0, pos := _, after := #[{ on := 1, ground := Ground.data }], guard := none }) (v := ?_) rfl (by kernel_rfl) (by kernel_rfl) (by kernel_rfl) (fun _ _ _ h => h) (Or.inl ⟨by rfl, ?_⟩) (by assumption) ?_
  rotate_left
  · intro w hSw
    go_simp
    first | done | with_reducible rfl
  try simp only [Act.put, List.setIfInBounds_toArray, List.set_cons_zero, List.set_cons_succ]
  refine wpAnyH_take (i := 3) (oi := { dst := some 6, op := Op.fieldAddr 28 (Operand.tmp 5) 8, type := 0, pos := _, after := #[{ on := 2, ground := Ground.data }], guard := none }) (v := ?_) rfl (by kernel_rfl) (by kernel_rfl) (by kernel_rfl) (fun _ _ _ h => h) (Or.inl ⟨by rfl, ?_⟩) (by assumption) ?_
  rotate_left
  · intro w hSw
    go_simp
    first | done | with_reducible rfl
  try simp only [Act.put, List.setIfInBounds_toArray, List.set_cons_zero, List.set_cons_succ]
  refine wpAnyH_take (i := 5) (oi := { dst := some 7, op := Op.move (Operand.tmp 0), type := 58, pos := _, after := #[], guard := none }) (v := ?_) rfl (by kernel_rfl) (by kernel_rfl) (by kernel_rfl) (fun _ _ _ h => h) (Or.inl ⟨by rfl, ?_⟩) (by assumption) ?_
  rotate_left
  · intro w hSw
    go_simp
    first | done | with_reducible rfl
  try simp only [Act.put, List.setIfInBounds_toArray, List.set_cons_zero, List.set_cons_succ]
  refine wpAnyH_take (i := 6) (oi := { dst := some 8, op := Op.nilCheck (Operand.tmp 7), type := 0, pos := _, after := #[{ on := 5, ground := Ground.data }], guard := none }) (v := ?_) rfl (by kernel_rfl) (by kernel_rfl) (by kernel_rfl) (fun _ _ _ h => h) (Or.inl ⟨by rfl, ?_⟩) (by assumption) ?_
  rotate_left
  · intro w hSw
    go_simp
    first | done | with_reducible rfl
  try simp only [Act.put, List.setIfInBounds_toArray, List.set_cons_zero, List.set_cons_succ]
  refine wpAnyH_take (i := 7) (oi := { dst := some 9, op := Op.fieldAddr 28 (Operand.tmp 8) 7, type := 0, pos := _, after := #[{ on := 6, ground := Ground.data }], guard := none }) (v := ?_) rfl (by kernel_rfl) (by kernel_rfl) (by kernel_rfl) (fun _ _ _ h => h) (Or.inl ⟨by rfl, ?_⟩) (by assumption) ?_
  rotate_left
  · intro w hSw
    go_simp
    first | done | with_reducible rfl
  try simp only [Act.put, List.setIfInBounds_toArray, List.set_cons_zero, List.set_cons_succ]
  refine wpAnyH_take (i := 9) (oi := { dst := some 10, op := Op.move (Operand.tmp 0), type := 58, pos := _, after := #[], guard := none }) (v := ?_) rfl (by kernel_rfl) (by kernel_rfl) (by kernel_rfl) (fun _ _ _ h => h) (Or.inl ⟨by rfl, ?_⟩) (by assumption) ?_
  rotate_left
  · intro w hSw
    go_simp
    first | done | with_reducible rfl
  try simp only [Act.put, List.setIfInBounds_toArray, List.set_cons_zero, List.set_cons_succ]
  refine wpAnyH_take (i := 10) (oi := { dst := some 11, op := Op.nilCheck (Operand.tmp 10), type := 0, pos := _, after := #[{ on := 9, ground := Ground.data }], guard := none }) (v := ?_) rfl (by kernel_rfl) (by kernel_rfl) (by kernel_rfl) (fun _ _ _ h => h) (Or.inl ⟨by rfl, ?_⟩) (by assumption) ?_
  rotate_left
  · intro w hSw
    go_simp
    first | done | with_reducible rfl
  try simp only [Act.put, List.setIfInBounds_toArray, List.set_cons_zero, List.set_cons_succ]
  refine wpAnyH_take (i := 11) (oi := { dst := some 12, op := Op.fieldAddr 28 (Operand.tmp 11) 6, type := 0, pos := _, after := #[{ on := 10, ground := Ground.data }], guard := none }) (v := ?_) rfl (by kernel_rfl) (by kernel_rfl) (by kernel_rfl) (fun _ _ _ h => h) (Or.inl ⟨by rfl, ?_⟩) (by assumption) ?_
  rotate_left
  · intro w hSw
    go_simp
    first | done | with_reducible rfl
  try simp only [Act.put, List.setIfInBounds_toArray, List.set_cons_zero, List.set_cons_succ]
  refine wpAnyH_take (i := 13) (oi := { dst := some 13, op := Op.move (Operand.tmp 0), type := 58, pos := _, after := #[], guard := none }) (v := ?_) rfl (by kernel_rfl) (by kernel_rfl) (by kernel_rfl) (fun _ _ _ h => h) (Or.inl ⟨by rfl, ?_⟩) (by assumption) ?_
  rotate_left
  · intro w hSw
    go_simp
    first | done | with_reducible rfl
  try simp only [Act.put, List.setIfInBounds_toArray, List.set_cons_zero, List.set_cons_succ]
  refine wpAnyH_take (i := 14) (oi := { dst := some 14, op := Op.nilCheck (Operand.tmp 13), type := 0, pos := _, after := #[{ on := 13, ground := Ground.data }], guard := none }) (v := ?_) rfl (by kernel_rfl) (by kernel_rfl) (by kernel_rfl) (fun _ _ _ h => h) (Or.inl ⟨by rfl, ?_⟩) (by assumption) ?_
  rotate_left
  · intro w hSw
    go_simp
    first | done | with_reducible rfl
  try simp only [Act.put, List.setIfInBounds_toArray, List.set_cons_zero, List.set_cons_succ]
  refine wpAnyH_take (i := 15) (oi := { dst := some 15, op := Op.fieldAddr 28 (Operand.tmp 14) 5, type := 0, pos := _, after := #[{ on := 14, ground := Ground.data }], guard := none }) (v := ?_) rfl (by kernel_rfl) (by kernel_rfl) (by kernel_rfl) (fun _ _ _ h => h) (Or.inl ⟨by rfl, ?_⟩) (by assumption) ?_
  rotate_left
  · intro w hSw
    go_simp
    first | done | with_reducible rfl
  try simp only [Act.put, List.setIfInBounds_toArray, List.set_cons_zero, List.set_cons_succ]
  refine wpAnyH_take (i := 17) (oi := { dst := some 16, op := Op.move (Operand.tmp 0), type := 58, pos := _, after := #[], guard := none }) (v := ?_) rfl (by kernel_rfl) (by kernel_rfl) (by kernel_rfl) (fun _ _ _ h => h) (Or.inl ⟨by rfl, ?_⟩) (by assumption) ?_
  rotate_left
  · intro w hSw
    go_simp
    first | done | with_reducible rfl
  try simp only [Act.put, List.setIfInBounds_toArray, List.set_cons_zero, List.set_cons_succ]
  refine wpAnyH_take (i := 18) (oi := { dst := some 17, op := Op.nilCheck (Operand.tmp 16), type := 0, pos := _, after := #[{ on := 17, ground := Ground.data }], guard := none }) (v := ?_) rfl (by kernel_rfl) (by kernel_rfl) (by kernel_rfl) (fun _ _ _ h => h) (Or.inl ⟨by rfl, ?_⟩) (by assumption) ?_
  rotate_left
  · intro w hSw
    go_simp
    first | done | with_reducible rfl
  try simp only [Act.put, List.setIfInBounds_toArray, List.set_cons_zero, List.set_cons_succ]
  refine wpAnyH_take (i := 19) (oi := { dst := some 18, op := Op.fieldAddr 28 (Operand.tmp 17) 4, type := 0, pos := _, after := #[{ on := 18, ground := Ground.data }], guard := none }) (v := ?_) rfl (by kernel_rfl) (by kernel_rfl) (by kernel_rfl) (fun _ _ _ h => h) (Or.inl ⟨by rfl, ?_⟩) (by assumption) ?_
  rotate_left
  · intro w hSw
    go_simp
    first | done | with_reducible rfl
  try simp only [Act.put, List.setIfInBounds_toArray, List.set_cons_zero, List.set_cons_succ]
  refine wpAnyH_take (i := 21) (oi := { dst := some 19, op := Op.move (Operand.tmp 0), type := 58, pos := _, after := #[], guard := none }) (v := ?_) rfl (by kernel_rfl) (by kernel_rfl) (by kernel_rfl) (fun _ _ _ h => h) (Or.inl ⟨by rfl, ?_⟩) (by assumption) ?_
  rotate_left
  · intro w hSw
    go_simp
    first | done | with_reducible rfl
  try simp only [Act.put, List.setIfInBounds_toArray, List.set_cons_zero, List.set_cons_succ]
  refine wpAnyH_take (i := 22) (oi := { dst := some 20, op := Op.nilCheck (Operand.tmp 19), type := 0, pos := _, after := #[{ on := 21, ground := Ground.data }], guard := none }) (v := ?_) rfl (by kernel_rfl) (by kernel_rfl) (by kernel_rfl) (fun _ _ _ h => h) (Or.inl ⟨by rfl, ?_⟩) (by assumption) ?_
  rotate_left
  · intro w hSw
    go_simp
    first | done | with_reducible rfl
  try simp only [Act.put, List.setIfInBounds_toArray, List.set_cons_zero, List.set_cons_succ]
  refine wpAnyH_take (i := 23) (oi := { dst := some 21, op := Op.fieldAddr 28 (Operand.tmp 20) 3, type := 0, pos := _, after := #[{ on := 22, ground := Ground.data }], guard := none }) (v := ?_) rfl (by kernel_rfl) (by kernel_rfl) (by kernel_rfl) (fun _ _ _ h => h) (Or.inl ⟨by rfl, ?_⟩) (by assumption) ?_
  rotate_left
  · intro w hSw
    go_simp
    first | done | with_reducible rfl
  try simp only [Act.put, List.setIfInBounds_toArray, List.set_cons_zero, List.set_cons_succ]
  refine wpAnyH_take (i := 25) (oi := { dst := some 22, op := Op.move (Operand.tmp 0), type := 58, pos := _, after := #[], guard := none }) (v := ?_) rfl (by kernel_rfl) (by kernel_rfl) (by kernel_rfl) (fun _ _ _ h => h) (Or.inl ⟨by rfl, ?_⟩) (by assumption) ?_
  rotate_left
  · intro w hSw
    go_simp
    first | done | with_reducible rfl
  try simp only [Act.put, List.setIfInBounds_toArray, List.set_cons_zero, List.set_cons_succ]
  refine wpAnyH_take (i := 26) (oi := { dst := some 23, op := Op.nilCheck (Operand.tmp 22), type := 0, pos := _, after := #[{ on := 25, ground := Ground.data }], guard := none }) (v := ?_) rfl (by kernel_rfl) (by kernel_rfl) (by kernel_rfl) (fun _ _ _ h => h) (Or.inl ⟨by rfl, ?_⟩) (by assumption) ?_
  rotate_left
  · intro w hSw
    go_simp
    first | done | with_reducible rfl
  try simp only [Act.put, List.setIfInBounds_toArray, List.set_cons_zero, List.set_cons_succ]
  refine wpAnyH_take (i := 27) (oi := { dst := some 24, op := Op.fieldAddr 28 (Operand.tmp 23) 1, type := 0, pos := _, after := #[{ on := 26, ground := Ground.data }], guard := none }) (v := ?_) rfl (by kernel_rfl) (by kernel_rfl) (by kernel_rfl) (fun _ _ _ h => h) (Or.inl ⟨by rfl, ?_⟩) (by assumption) ?_
  rotate_left
  · intro w hSw
    go_simp
    first | done | with_reducible rfl
  try simp only [Act.put, List.setIfInBounds_toArray, List.set_cons_zero, List.set_cons_succ]
  refine wpAnyH_ready (rs := [0]) (by kernel_rfl) (by simp) ?_
  refine AllReadyH.cons (o := { dst := some 3, op := Op.makeMap 56 none, type := 56, pos := _, after := #[], guard := none }) rfl (fun K hK => ?_) AllReadyH.nil
  go_simp
  refine hK.out _ _ trivial (fun _ => ?_)
  try simp only [Act.put, List.setIfInBounds_toArray, List.set_cons_zero, List.set_cons_succ]
  change wpAnyH _ _ _ _ _ (7 + 2) (L7 false false false false false false false) _ _
  refine ins_loop (mb := g) (bm := w.heap.size) (W := w.drew.alloc (.map #[] 0)) (by decide +kernel) ?hop ?hdone 7 false false false false false false false _ rfl (Nat.le_refl _) ((FlM.made w.drew g).eq fun j hj => ?_) (grown_refl _ _) rfl
  case hop =>
    intro j hj K u u' hrun hK
    match j, hj with
    | 0, _ => exact ins_op rfl rfl rfl rfl rfl rfl rfl hrun hK
    | 1, _ => exact ins_op rfl rfl rfl rfl rfl rfl rfl hrun hK
    | 2, _ => exact ins_op rfl rfl rfl rfl rfl rfl rfl hrun hK
    | 3, _ => exact ins_op rfl rfl rfl rfl rfl rfl rfl hrun hK
    | 4, _ => exact ins_op rfl rfl rfl rfl rfl rfl rfl hrun hK
    | 5, _ => exact ins_op rfl rfl rfl rfl rfl rfl rfl hrun hK
    | 6, _ => exact ins_op rfl rfl rfl rfl rfl rfl rfl hrun hK
  case hdone =>
    intro u hF hg hz
    refine wpAnyH_take (i := 29) (oi := { dst := some 25, op := Op.move (Operand.tmp 3), type := 56, pos := _, after := _, guard := none }) (v := ?_) rfl (by kernel_rfl) (by kernel_rfl) (by kernel_rfl) (fun _ _ _ h => h) (Or.inl ⟨by rfl, ?_⟩) (by trivial) ?_
    rotate_left
    · intro w hSw
      go_simp
      first | done | with_reducible rfl
    try simp only [Act.put, List.setIfInBounds_toArray, List.set_cons_zero, List.set_cons_succ]
    refine wpAnyH_take (i := 30) (oi := { dst := some 2, op := Op.assign (Operand.tmp 25), type := 56, pos := _, after := _, guard := none }) (v := ?_) rfl (by kernel_rfl) (by kernel_rfl) (by kernel_rfl) (fun _ _ _ h => h) (Or.inl ⟨by rfl, ?_⟩) (by trivial) ?_
    rotate_left
    · intro w hSw
      go_simp
      first | done | with_reducible rfl
    try simp only [Act.put, List.setIfInBounds_toArray, List.set_cons_zero, List.set_cons_succ]
    refine wpAnyH_done (by kernel_rfl) ?_ _
    go_wp2_with fail
    go_ret
    exact ⟨rfl, hF, ((Below.refl w.heap.size w).alloc (Nat.le_refl _) _).grown ⟨hg.os, hg.tape, hg.output, hg.size, hg.block⟩ (by simp) (fun k hk => by cases hk; exact Nat.le_refl _)⟩
  · unfold fb7; split <;> rfl
end Go.Proofs.Ytbpkhnnfdjihdaa
