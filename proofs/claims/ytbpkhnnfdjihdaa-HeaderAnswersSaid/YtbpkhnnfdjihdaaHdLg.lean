/- What is too large 16; questions that came in, as questions that lie in memory. -/
import Derived.Test.YtbpkhnnfdjihdaaOpenQ
import Derived.Test.YtbpkhnnfdjihdaaHdSo
import Derived.Deep.RegionHeld3
namespace Go.Proofs.Ytbpkhnnfdjihdaa
open Go Go.RowKit
theorem rd_q {w : World} {a : Option Addr} {n c : Nat} {R : List QD} (h : Rd qE w a n c R) (h0 : 0 < n) : ∃ b o, a = some ⟨b, o, none⟩ ∧ b < w.heap.size ∧ ∀ j (hj : j < R.length), w.cell? ⟨b, o + j * 3, none⟩ = some (.slice R[j].na R[j].nn R[j].nc) ∧ w.cell? ⟨b, o + j * 3 + 1, none⟩ = some (.int .u16 R[j].t) ∧ w.cell? ⟨b, o + j * 3 + 2, none⟩ = some (.int .u16 R[j].k) := by
  obtain ⟨b, o, h1, hb, h2⟩ := h.addr h0
  refine ⟨b, o, h1, hb, fun j hj => ⟨?_, ?_, ?_⟩⟩
  · have := h2 j hj 0 (by decide); simpa [qE] using this
  · have := h2 j hj 1 (by decide); simpa [qE, Nat.add_assoc] using this
  · have := h2 j hj 2 (by decide); simpa [qE, Nat.add_assoc] using this
open Classical in
noncomputable def nmOf (W : World) (q : QD) : Nm := if h : ∃ l, Nmd W q.na q.nn q.nc l then h.choose else []
noncomputable def qv (W : World) (q : QD) : Nm × Int × Int := (nmOf W q, q.t, q.k)
theorem nmOf_is {W : World} {q : QD} (h : ∃ l, Nmd W q.na q.nn q.nc l) : Nmd W q.na q.nn q.nc (nmOf W q) := by
  unfold nmOf
  rw [dif_pos h]
  exact h.choose_spec
theorem qsl_of {W w : World} {a : Option Addr} {n c : Nat} {R : List QD} (hB : Below W.heap.size W w) (hR : Rd qE w a n c R) (hN : ∀ q ∈ R, ∃ l, Nmd W q.na q.nn q.nc l) (hn : n ≤ 1000000) : QsL w a n c (R.map (qv W)) :=
  ⟨by rw [List.length_map]; exact hR.len, hn, fun h0 => by
    obtain ⟨b, o, h1, hb, h2⟩ := rd_q hR h0
    refine ⟨b, o, h1, hb, fun j hj => ?_⟩
    have hj' : j < R.length := by simpa using hj
    obtain ⟨q0, q1, q2⟩ := h2 j hj'
    rw [List.getElem_map]
    exact ⟨_, _, _, q0, (nmOf_is (hN _ (List.getElem_mem hj'))).ext hB, q1, q2⟩⟩
def LgRes (e : Ending) (n : Nat) (R : List QD) : Prop := ∃ b, e = .returned (.bool b) ∧ (b = false → n ≤ 20 ∧ ∀ q ∈ R, q.nn ≤ 130)
set_option maxRecDepth 100000 in
set_option maxHeartbeats 2000000 in
theorem large_any {w : World} (id : Nat) (op rc : Int) (F : Nat → Bool) {a : Option Addr} {n c : Nat} {R : List QD} (hR : Rd qE w a n c R) (a1 : Option Addr) (n1 c1 : Nat) (a2 : Option Addr) (n2 c2 : Nat) (a3 : Option Addr) (n3 c3 : Nat) :
    Calls Try.prog 16 #[mV id op rc F (.slice a n c) (.slice a1 n1 c1) (.slice a2 n2 c2) (.slice a3 n3 c3)] w fun e w' => LgRes e n R ∧ Below w.heap.size w w' := by
  have hl := hR.len
  have hb : Below w.heap.size w (w.alloc (.cells #[.int .u16 (id : Int), .bool (F 6), .int .i64 op, .bool (F 5), .bool (F 4), .bool (F 3), .bool (F 2), .bool (F 1), .bool (F 0), .int .i64 rc, .slice a n c, .slice a1 n1 c1, .slice a2 n2 c2, .slice a3 n3 c3] 28)) := (Below.refl _ _).alloc (Nat.le_refl _) _
  have hB := Blk.new w 28 (0, 0) #[.int .u16 (id : Int), .bool (F 6), .int .i64 op, .bool (F 5), .bool (F 4), .bool (F 3), .bool (F 2), .bool (F 1), .bool (F 0), .int .i64 rc, .slice a n c, .slice a1 n1 c1, .slice a2 n2 c2, .slice a3 n3 c3]
  have hH := Lib.hid (hR.ext hb)
  have hb' := Lib.hid hb
  have hB' := Lib.hid hB
  clear hR hb hB
  unfold mV
  by_cases h20 : n ≤ 20
  · have h20I : ¬ (20 : Int) < n := by omega
    go_enter Try.func16, Try.ntmps16
    go_wp2_with fail
    · go_ret
      exact ⟨⟨true, rfl, fun e => by cases e⟩, hb'.out⟩
    · have hb2 := hb'.out
      have hB2 := hB'.out
      have hH2 := hH.out
      clear hb' hB' hH
      generalize (w.alloc (.cells #[.int .u16 (id : Int), .bool (F 6), .int .i64 op, .bool (F 5), .bool (F 4), .bool (F 3), .bool (F 2), .bool (F 1), .bool (F 0), .int .i64 rc, .slice a n c, .slice a1 n1 c1, .slice a2 n2 c2, .slice a3 n3 c3] 28)) = w1 at *
      have f10 : w1.cell? ⟨w.heap.size, 10, none⟩ = some (.slice a n c) := (hB2.cell 10).trans rfl
      have hH := Lib.hid hH2
      have hb' := Lib.hid hb2
      clear hH2 hb2 hB2
      go_loopw [3] (fun i wr => ∃ k : Nat, k ≤ n ∧ i = .int .i64 k ∧ (∀ j (hj : j < R.length), j < k → R[j].nn ≤ 130) ∧ w1 = wr) (fun i _ => n - (intOf i).toNat)
      case atStart => exact ⟨0, Nat.zero_le _, rfl, fun j _ h => absurd h (Nat.not_lt_zero _), rfl⟩
      case round =>
        obtain ⟨k, hk, rfl, hu, rfl⟩ := hrel
        have hu' := Lib.hid hu
        clear hu
        by_cases hlt : k < n
        · have hkI : (k : Int) < n := by omega
          obtain ⟨b, o, rfl, _, hc⟩ := rd_q hH.out (by omega)
          obtain ⟨q0, _, _⟩ := hc k (by omega)
          clear hc
          generalize hq : R[k]'(by omega) = q at *
          have hq' := Lib.hid hq
          clear hq
          by_cases h130 : q.nn ≤ 130
          · have h130I : ¬ (130 : Int) < q.nn := by omega
            go_wp2_with fail
            go_roundw
            case rel =>
              refine ⟨k + 1, by omega, by go_num, fun j hj hjk => ?_, trivial⟩
              by_cases hjk' : j < k
              · exact hu'.out j hj hjk'
              · have : j = k := by omega
                subst this
                rw [hq'.out]; exact h130
            case measure => simp [intOf]; omega
          · have h130I : (130 : Int) < q.nn := by omega
            go_wp2_with fail
            go_ret
            exact ⟨⟨true, rfl, fun e => by cases e⟩, hb'.out⟩
        · have hk' : k = n := by omega
          subst hk'
          go_wp2_with fail
          go_ret
          refine ⟨⟨false, rfl, fun _ => ⟨h20, fun q hq => ?_⟩⟩, hb'.out⟩
          obtain ⟨j, hj, rfl⟩ := List.getElem_of_mem hq
          exact hu'.out j hj (by omega)
  · have h20I : (20 : Int) < n := by omega
    go_enter Try.func16, Try.ntmps16
    go_wp2_with fail
    go_ret
    exact ⟨⟨true, rfl, fun e => by cases e⟩, hb'.out⟩
set_option maxRecDepth 100000 in
set_option maxHeartbeats 2000000 in
theorem eq_len {w : World} {a a' : Option Addr} {n c n' c' : Nat} (h : n ≠ n') : Calls Try.prog 36 #[.slice a n c, .slice a' n' c', .func (.func 37) #[] #[]] w fun e w' => e = .returned (.bool false) ∧ w = w' := by
  have hne : ¬ (n : Int) = (n' : Int) := by omega
  go_enter Try.func36, Try.ntmps36
  go_wp2_with fail
  go_ret
  exact ⟨rfl, rfl⟩
set_option maxRecDepth 100000 in
set_option maxHeartbeats 4000000 in
theorem answers_len {w : World} (id : Nat) (op rc rc' : Int) (F : Nat → Bool) (hF : F 6 = true) {a a' : Option Addr} {n c n' c' : Nat} (h : n ≠ n') (s1 s2 s3 r1 r2 r3 : Value) :
    Calls Try.prog 20 #[mV id op rc F (.slice a n c) s1 s2 s3, mV id op rc' (fun _ => false) (.slice a' n' c') r1 r2 r3] w fun e w' => e = .returned (.bool false) ∧ Below w.heap.size w w' := by
  have hb : Below w.heap.size w ((w.alloc (.cells #[.int .u16 (id : Int), .bool (F 6), .int .i64 op, .bool (F 5), .bool (F 4), .bool (F 3), .bool (F 2), .bool (F 1), .bool (F 0), .int .i64 rc, .slice a n c, s1, s2, s3] 28)).alloc (.cells #[.int .u16 (id : Int), .bool false, .int .i64 op, .bool false, .bool false, .bool false, .bool false, .bool false, .bool false, .int .i64 rc', .slice a' n' c', r1, r2, r3] 28)) := ((Below.refl _ _).alloc (Nat.le_refl _) _).alloc (by simp) _
  have hb' := Lib.hid hb
  clear hb
  unfold mV
  rw [hF] at *
  go_enter Try.func20, Try.ntmps20
  go_wp2_with (go_at_call 36; refine (eq_len h).mono ?_; rintro e w1 ⟨rfl, rfl⟩)
  go_ret
  exact ⟨rfl, hb'.out⟩
theorem cm_refl (a : Nm) : cm a a = a.length := ((cm_same a a).2 rfl).2
theorem sameL_refl (l : Nm) : sameL l l = true := by
  unfold sameL
  have : comL l l = l.length := by unfold comL; rw [cm_refl, rv_length]
  rw [this]; simp
theorem qsSame_refl (L : List (Nm × Int × Int)) : qsSame L L = true := by
  unfold qsSame qsUp
  rw [decide_eq_true rfl, Bool.true_and, List.all_eq_true]
  intro j hj
  have hj' := List.mem_range.1 hj
  rw [List.getElem?_eq_getElem hj']
  unfold qSame
  simp [sameL_refl]
/-- append onto a slice of the call's own, as a step of a region that draws -/
theorem step_own {α : Type} {P : Program} {E : Enc α} {ops : Array Oper} {o : Oper} {a : Act} {W : World} {K : Act → World → Prop} {Q : Exit → Act → World → Prop} {Ep : Prop} (hgd : o.guard = none) (s x : Operand) (t tx : TypeId)
    (ho : o.op = .call { callee := .builtin .append, args := #[s, x], argTypes := #[t, tx] }) {i : TypeInfo} {z : Value} {bytes : Nat} (ht : P.underlying t = some (.slice E.e)) (hi : P.info? E.e = some i) (hz : i.zero = some z)
    (hsize : i.size = E.k) (hby : i.bytes = bytes) (hzc : z.cells.toList = E.f E.z) {base : Nat} {v xv : Value} {l news : List α} (hs : a.eval s = v) (hown : Own E W base v l) (hx : a.eval x = xv) (hsrc : Src P E.k tx xv news.length (rowOf E news) W)
    (h63 : l.length + news.length ≤ maxLen) (hbytes : (l.length + news.length) * bytes ≤ 140737488355328) (hbase : base ≤ W.heap.size)
    (h : ∀ v' w', Own E w' base v' (l ++ news) → W.grownBy w' v.ownBlock → (v'.ownBlock = v.ownBlock ∨ v'.ownBlock = some W.heap.size) → K (a.put o.dst v') w') :
    if Region.wanted o (yielded ops a.tmps) = true then Oper.wp P o a W K Q else Ep := by
  have hw : Region.wanted o (yielded ops a.tmps) = true := by simp [Region.wanted, hgd]
  rw [if_pos hw]
  obtain ⟨v', w', hr, h2, h3, h4⟩ := run_append_Own (P := P) E W base t tx o.type i z bytes ht hi hz hsize hby hzc v l hown xv news hsrc h63 hbytes hbase
  unfold Oper.wp execOp
  simp only [ho, resolve, invoke, builtin, Sem.run_bind, Sem.run_pure, Result.andThen_ok, List.map_toArray, List.map_cons, List.map_nil, hs, hx, hr]
  exact h v' w' h2 h3 h4
section
variable {P : Program} {ops : Array Oper} {o : Oper} {a : Act} {w : World} {Q : Exit → Act → World → Prop}
theorem store_one_op {K : Act → World → Prop} (ty : TypeId) (x y : Operand) (ho : o.op = .store ty x y) {b j : Nat} {t : TypeId} {C : List Value} {v : Value} (hx : a.eval x = .pointer (some ⟨b, j, none⟩)) (hy : a.eval y = v)
    (hB : Blk w b t (0, 0) C) (hj : j < C.length) (hi : (P.info? ty).map (·.size) = some 1) (h1 : v.oneCell' = true)
    (h : ∀ w', Blk w' b t (0, 0) (C.set j v) → w.grownBy w' (some b) → w'.heap.size = w.heap.size → K (a.put o.dst undef) w') : o.wp P a w K Q := by
  unfold Oper.wp execOp
  simp only [ho, hx, hy, Instr.storeAt, Instr.sureAddr, Sem.run_bind, Sem.run_pure, Result.andThen_ok, run_storeVar_1 w b j ty hB hj hi h1]
  exact h _ (hB.set j v) ⟨rfl, rfl, rfl, by simp [World.setCell], fun k _ hk => Below.heap_setCell _ _ _ _ (fun e => hk (by rw [e]))⟩ (by simp [World.setCell])
end
theorem info50 : ∃ i, Try.prog.info? 50 = some i ∧ i.zero = some (.agg #[.slice none 0 0, .int .u16 0, .int .u16 0]) ∧ i.size = 3 ∧ i.bytes = 32 := by
  have h : (Try.prog.info? 50).map (fun i => (i.size, i.bytes)) = some (3, 32) := by kernel_rfl
  have h2 : (Try.prog.info? 50).bind (fun i => i.zero) = some (.agg #[.slice none 0 0, .int .u16 0, .int .u16 0]) := by kernel_rfl
  cases hi : Try.prog.info? 50 with
  | none => rw [hi] at h; cases h
  | some i =>
    rw [hi] at h h2
    simp at h h2
    exact ⟨i, rfl, h2, h.1, h.2⟩
/-- a slice of questions is appended to one of the call's own -/
theorem step_q {ops : Array Oper} {o : Oper} {a : Act} {W : World} {K : Act → World → Prop} {Q : Exit → Act → World → Prop} {Ep : Prop} {B : Nat} {v : Value} {l news : List QD} {aa : Option Addr} {n c : Nat} (hgd : o.guard = none) (s x : Operand)
    (ho : o.op = .call { callee := .builtin .append, args := #[s, x], argTypes := #[25, 25] }) (hs : a.eval s = v) (hx : a.eval x = .slice aa n c) (hO : Own qE W B v l) (hR : Rd qE W aa n c news) (hn : l.length + n ≤ 1000) (hB : B ≤ W.heap.size)
    (h : ∀ v' w', Own qE w' B v' (l ++ news) → W.grownBy w' v.ownBlock → K (a.put o.dst v') w') :
    if Region.wanted o (yielded ops a.tmps) = true then Oper.wp Try.prog o a W K Q else Ep := by
  obtain ⟨i0, hi, hz0, hz1, hz2⟩ := info50
  have hl := hR.len
  have ht : Try.prog.underlying 25 = some (.slice qE.e) := by kernel_rfl
  exact step_own (E := qE) hgd s x 25 25 ho ht hi hz0 hz1 hz2 rfl hs hO hx (hR.src (P := Try.prog) ht) (by rw [hl]; unfold maxLen; omega) (by rw [hl]; omega) hB fun v' w' h1 h2 _ => h v' w' h1 h2
end Go.Proofs.Ytbpkhnnfdjihdaa
