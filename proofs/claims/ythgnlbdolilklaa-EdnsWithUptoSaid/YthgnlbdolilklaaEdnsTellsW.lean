/- EdnsTells; printed by gen_et.py. -/
import Derived.Test.YthgnlbdolilklaaRfR
import Derived.Test.YthgnlbdolilklaaOvE
namespace Go.Proofs.Ythgnlbdolilklaa
open Go Go.RowKit Go.Maps
theorem recB_uni (sz hi ver : Int) (d : Bool) (O : List Opt) : ∃ (ty cl ttl : Nat) (raw : List UInt8) (E : Int), ty < 65536 ∧ cl < 65536 ∧ ttl < 4294967296 ∧ raw.length ≤ 65535 ∧
    ∀ (w0 : Nat) (e : Ending) (w' : World), RecB w0 sz hi ver d O e w' → ∃ v, e = .returned (.tuple #[rV nilV ty cl ttl nilV nilV nilV v, .int .i64 E]) ∧ Own byteE w' w0 v raw := by
  by_cases h : mayB sz hi ver = true ∧ (rawB O).length ≤ 65535
  · obtain ⟨m1, m2, m3, m4, m5, m6⟩ := mayB_iff h.1
    obtain ⟨t1, _⟩ := ttl_of hi.toNat ver.toNat d (by omega) (by omega)
    refine ⟨41, sz.toNat, ttlN hi.toNat ver.toNat d, rawB O, 0, by decide, by omega, t1, h.2, fun w0 e w' hR => ?_⟩
    unfold RecB at hR
    rw [if_pos h] at hR
    exact hR
  · refine ⟨0, 0, 0, [], 2, by decide, by decide, by decide, by decide, fun w0 e w' hR => ?_⟩
    unfold RecB at hR
    rw [if_neg h] at hR
    exact ⟨nilV, hR, Own.nil _ _ _⟩
theorem readB_uni (n0 ty cl ttl n4 n5 n6 : Nat) (raw : List UInt8) : ∃ (s h v : Int) (d : Bool) (A : List Opt) (E : Int), A.length ≤ 1152921504606846976 ∧
    ∀ (base : Nat) (e : Ending) (w' : World), ReadB base n0 ty cl ttl n4 n5 n6 raw e w' → ∃ u, e = .returned (.tuple #[eV s h v d u, .int .i64 E]) ∧ OwnO w' base u A := by
  by_cases h : rdOK n0 ty ttl n4 n5 n6 raw.length
  · cases hp : prs raw 0 with
    | none =>
      refine ⟨0, 0, 0, false, [], 8, by decide, fun base e w' hR => ?_⟩
      unfold ReadB at hR
      rw [if_pos h, hp] at hR
      exact ⟨nilV, hR, OwnO.nil _ _⟩
    | some A =>
      refine ⟨cl, (ttl / 16777216 : Nat), (ttl / 65536 % 256 : Nat), (ttl / 32768 % 2 == 1), A, 0, ?_, fun base e w' hR => ?_⟩
      · obtain ⟨e1, _⟩ := raw_of_prs hp
        have h2 := h.2.2.2.2.2.2
        rw [e1, rawB_len] at h2
        have h3 : ∀ B : List Opt, B.length ≤ (B.map fun o => 4 + o.2.length).sum := fun B => by
          induction B with
          | nil => simp
          | cons b r ih => simp only [List.length_cons, List.map_cons, List.sum_cons]; omega
        have := h3 A
        omega
      · unfold ReadB at hR
        rw [if_pos h, hp] at hR
        exact hR
  · refine ⟨0, 0, 0, false, [], 8, by decide, fun base e w' hR => ?_⟩
    unfold ReadB at hR
    rw [if_neg h] at hR
    exact ⟨nilV, hR, OwnO.nil _ _⟩
theorem blk_store {w w' : World} {b k : Nat} {t t' : TypeId} {fz fz' : Nat × Nat} {C C' : List Value} (hB : Blk w b t fz C) (hZ : Blk w k t' fz' C') (hne : t ≠ t') (hg : w.grownBy w' (some k)) : Blk w' b t fz C :=
  hB.grownV2 hg fun e => by
    have e2 := Option.some.inj e
    subst e2
    exact hne (blk_type hB hZ)
theorem ownRec_store {w w' : World} {b k : Nat} {q : RD} {L : RL} {t : TypeId} {fz : Nat × Nat} {C : List Value} (ho : OwnRec w b q L) (hB : Blk w k t fz C) (h1 : (9 : Nat) ≠ t) (h2 : (26 : Nat) ≠ t) (h3 : (30 : Nat) ≠ t) (h4 : (5 : Nat) ≠ t) (hg : w.grownBy w' (some k)) : OwnRec w' b q L :=
  ⟨own_store ho.ow hB h1 hg, ownN_store ho.nm hB h2 h1 hg, own_store ho.nu hB h3 hg, own_store ho.tx hB h1 hg, own_store ho.raw hB h4 hg⟩
theorem cells_one (q : RD) : q.cells.toArray.all (·.oneCell') = true := by simp [RD.cells, rC, Value.oneCell']
theorem ownO_rd_at {w : World} {base : Nat} {a : Option Addr} {n c : Nat} {l : List Opt} (h : OwnO w base (.slice a n c) l) : RdO w a n c l ∧ l.length = n := by
  obtain ⟨a', c', e, r⟩ := h.rdO
  simp only [Value.slice.injEq] at e
  obtain ⟨x1, x2, x3⟩ := e
  rw [x1, x2, x3]
  exact ⟨r, rfl⟩
theorem OwnRec.lens {w w0 : World} {base : Nat} {q q0 : RD} {L : RL} (ho : OwnRec w base q L) (h : RecR w0 q0 L) : q.on = q0.on ∧ q.mn = q0.mn ∧ q.un = q0.un ∧ q.xn = q0.xn ∧ q.rn = q0.rn := by
  obtain ⟨_, e1⟩ := own_rd_at ho.ow
  obtain ⟨_, e3⟩ := own_rd_at ho.nu
  obtain ⟨_, e4⟩ := own_rd_at ho.tx
  obtain ⟨_, e5⟩ := own_rd_at ho.raw
  obtain ⟨a, c, e2⟩ := ho.nm.shape
  simp only [Value.slice.injEq] at e2
  have d1 := h.ow.1.len
  have d2 := h.nm.len
  have d3 := h.nu.len
  have d4 := h.tx.1.len
  have d5 := h.raw.len
  omega
/-- a record that has nothing but bytes -/
theorem rec_bare {w : World} {b : Nat} {ty cl ttl n c : Nat} {a : Option Addr} {raw : List UInt8} (h : Own byteE w b (.slice a n c) raw) (h1 : ty < 65536) (h2 : cl < 65536) (h3 : ttl < 4294967296) (h4 : raw.length ≤ 65535) :
    RecR w ⟨none, 0, 0, ty, cl, ttl, none, 0, 0, none, 0, 0, none, 0, 0, a, n, c⟩ ⟨[], [], [], [], raw⟩ := by
  obtain ⟨r, e⟩ := own_rd_at h
  have nt : RdT w none 0 0 [] := ⟨Rd.nil _ _, fun s hs => (by cases hs), by decide⟩
  refine ⟨nt, ⟨[], Rd.nil _ _, rfl, by dsimp only; decide, fun j p X hp => by simp at hp⟩, Rd.nil _ _, nt, r, h2, h1, h3, fun n hn => (by cases hn), by dsimp only; decide, ?_⟩
  dsimp only
  unfold reachBytes
  omega
theorem fresh_store {wp wn wy : World} (h : Below wp.heap.size wp wn) (hg : wn.grownBy wy (some wp.heap.size)) : Below wp.heap.size wp wy := h.grown hg h.size (fun k hk => by cases hk; exact Nat.le_refl _)
theorem enter9 (args : Array Value) (w : World) : (callFunc 9 args).run Try.prog w = .ok (.enter 9 args) w := Go.MuLone.run_callFunc_enter Try.func9 (by kernel_rfl) (by rfl) args w
theorem enter10 (args : Array Value) (w : World) : (callFunc 10 args).run Try.prog w = .ok (.enter 10 args) w := Go.MuLone.run_callFunc_enter Try.func10 (by kernel_rfl) (by rfl) args w
set_option maxHeartbeats 16000000 in
set_option maxRecDepth 100000 in
theorem tells_any {w : World} {a : Option Addr} {n c : Nat} {O : List Opt} (hO : RdO w a n c O) (hC : ∀ o ∈ O, o.1 < 65536) (sz hi ver : Int) (d : Bool) {q : RD} {L : RL} (hq : RecR w q L) :
    Calls Try.prog 3 #[eV sz hi ver d (.slice a n c), q.val] w fun e w' => e = .returned (.bool true) ∧ Below w.heap.size w w' := by
  obtain ⟨oa, on, oc, ty, cl, ttl, ma, mn, mc, ua, un, uc, xa, xn, xc, ra, rn, rc⟩ := q
  have hbnd := hq.small
  dsimp only at hbnd
  obtain ⟨z0, z4, z5, z6, z7⟩ := hbnd
  unfold RD.val rV eV
  dsimp only
  have hO' := Lib.hid hO
  have hq' := Lib.hid hq
  have hC' := Lib.hid hC
  clear hO hq hC
  obtain ⟨W1, hW1⟩ : ∃ W, w.alloc (.cells #[.int .i64 sz, .int .i64 hi, .int .i64 ver, .bool d, .slice a n c] 24) = W := ⟨_, rfl⟩
  obtain ⟨W2, hW2⟩ : ∃ W, W1.alloc (.cells #[.slice oa on oc, .int .u16 ty, .int .u16 cl, .int .u32 ttl, .slice ma mn mc, .slice ua un uc, .slice xa xn xc, .slice ra rn rc] 37) = W := ⟨_, rfl⟩
  have hS0 : Hid (StB w W1.heap.size [.int .i64 sz, .int .i64 hi, .int .i64 ver, .bool d, .slice a n c] [.slice oa on oc, .int .u16 ty, .int .u16 cl, .int .u32 ttl, .slice ma mn mc, .slice ua un uc, .slice xa xn xc, .slice ra rn rc] W2) := by
    have hB1 : Blk W1 w.heap.size 24 (0, 0) [.int .i64 sz, .int .i64 hi, .int .i64 ver, .bool d, .slice a n c] := by rw [← hW1]; exact Blk.new w 24 (0, 0) #[.int .i64 sz, .int .i64 hi, .int .i64 ver, .bool d, .slice a n c]
    have k1 : Below w.heap.size w W1 := by rw [← hW1]; exact alloc_bel _ _
    have k2 : Below W1.heap.size W1 W2 := by rw [← hW2]; exact alloc_bel _ _
    exact Lib.hid ⟨k1.trans (k2.mono k1.size), hB1.below k2 hB1.lt, by rw [← hW2]; exact Blk.new W1 37 (0, 0) #[.slice oa on oc, .int .u16 ty, .int .u16 cl, .int .u32 ttl, .slice ma mn mc, .slice ua un uc, .slice xa xn xc, .slice ra rn rc], hB1.lt⟩
  have p0 : W2.cell? ⟨w.heap.size, 0, none⟩ = some (.int .i64 sz) := (hS0.out.e.cell 0).trans rfl
  have p1 : W2.cell? ⟨w.heap.size, 1, none⟩ = some (.int .i64 hi) := (hS0.out.e.cell 1).trans rfl
  have p2 : W2.cell? ⟨w.heap.size, 2, none⟩ = some (.int .i64 ver) := (hS0.out.e.cell 2).trans rfl
  have p3 : W2.cell? ⟨w.heap.size, 3, none⟩ = some (.bool d) := (hS0.out.e.cell 3).trans rfl
  have p4 : W2.cell? ⟨w.heap.size, 4, none⟩ = some (.slice a n c) := (hS0.out.e.cell 4).trans rfl
  have q0 : W2.cell? ⟨W1.heap.size, 0, none⟩ = some (.slice oa on oc) := (hS0.out.q.cell 0).trans rfl
  have q1 : W2.cell? ⟨W1.heap.size, 1, none⟩ = some (.int .u16 ty) := (hS0.out.q.cell 1).trans rfl
  have q2 : W2.cell? ⟨W1.heap.size, 2, none⟩ = some (.int .u16 cl) := (hS0.out.q.cell 2).trans rfl
  have q3 : W2.cell? ⟨W1.heap.size, 3, none⟩ = some (.int .u32 ttl) := (hS0.out.q.cell 3).trans rfl
  have q4 : W2.cell? ⟨W1.heap.size, 4, none⟩ = some (.slice ma mn mc) := (hS0.out.q.cell 4).trans rfl
  have q5 : W2.cell? ⟨W1.heap.size, 5, none⟩ = some (.slice ua un uc) := (hS0.out.q.cell 5).trans rfl
  have q6 : W2.cell? ⟨W1.heap.size, 6, none⟩ = some (.slice xa xn xc) := (hS0.out.q.cell 6).trans rfl
  have q7 : W2.cell? ⟨W1.heap.size, 7, none⟩ = some (.slice ra rn rc) := (hS0.out.q.cell 7).trans rfl
  go_enter Try.func3, Try.ntmps3
  go_wp2_with fail
  try rw [hW1]
  try rw [hW2]
  clear hW1 hW2
  refine (large_any (hO'.out.ext hS0.out.bel) sz hi ver d).mono ?_
  rintro e w2 ⟨⟨bL, rfl, hs⟩, hb2⟩
  have hS2 := Lib.hid (hS0.out.below hb2)
  clear p0 p1 p2 p3 p4 q0 q1 q2 q3 q4 q5 q6 q7 hb2 hS0
  have p0 : w2.cell? ⟨w.heap.size, 0, none⟩ = some (.int .i64 sz) := (hS2.out.e.cell 0).trans rfl
  have p1 : w2.cell? ⟨w.heap.size, 1, none⟩ = some (.int .i64 hi) := (hS2.out.e.cell 1).trans rfl
  have p2 : w2.cell? ⟨w.heap.size, 2, none⟩ = some (.int .i64 ver) := (hS2.out.e.cell 2).trans rfl
  have p3 : w2.cell? ⟨w.heap.size, 3, none⟩ = some (.bool d) := (hS2.out.e.cell 3).trans rfl
  have p4 : w2.cell? ⟨w.heap.size, 4, none⟩ = some (.slice a n c) := (hS2.out.e.cell 4).trans rfl
  have q0 : w2.cell? ⟨W1.heap.size, 0, none⟩ = some (.slice oa on oc) := (hS2.out.q.cell 0).trans rfl
  have q1 : w2.cell? ⟨W1.heap.size, 1, none⟩ = some (.int .u16 ty) := (hS2.out.q.cell 1).trans rfl
  have q2 : w2.cell? ⟨W1.heap.size, 2, none⟩ = some (.int .u16 cl) := (hS2.out.q.cell 2).trans rfl
  have q3 : w2.cell? ⟨W1.heap.size, 3, none⟩ = some (.int .u32 ttl) := (hS2.out.q.cell 3).trans rfl
  have q4 : w2.cell? ⟨W1.heap.size, 4, none⟩ = some (.slice ma mn mc) := (hS2.out.q.cell 4).trans rfl
  have q5 : w2.cell? ⟨W1.heap.size, 5, none⟩ = some (.slice ua un uc) := (hS2.out.q.cell 5).trans rfl
  have q6 : w2.cell? ⟨W1.heap.size, 6, none⟩ = some (.slice xa xn xc) := (hS2.out.q.cell 6).trans rfl
  have q7 : w2.cell? ⟨W1.heap.size, 7, none⟩ = some (.slice ra rn rc) := (hS2.out.q.cell 7).trans rfl
  cases bL with
  | true =>
    clear hs
    go_wp2_with fail
    go_ret
    exact ⟨rfl, hS2.out.bel⟩
  | false =>
    have hs' := Lib.hid (hs rfl)
    clear hs
    by_cases h7 : 70000 < rn
    · have h7I : (70000 : Int) < rn := by omega
      go_wp2_with fail
      go_ret
      exact ⟨rfl, hS2.out.bel⟩
    · have h7I : ¬ (70000 : Int) < rn := by omega
      by_cases h8 : 130 < on
      · have h8I : (130 : Int) < on := by omega
        go_wp2_with fail
        go_ret
        exact ⟨rfl, hS2.out.bel⟩
      · have h8I : ¬ (130 : Int) < on := by omega
        by_cases h9 : 30 < mn + xn + un
        · have h9I : (30 : Int) < (mn : Int) + xn + un := by omega
          go_wp2_with fail
          go_ret
          exact ⟨rfl, hS2.out.bel⟩
        · have h9I : ¬ (30 : Int) < (mn : Int) + xn + un := by omega
          go_upto_region 3 with (fail)
          clear h7 h7I h8 h8I h9 h9I
          have cs : ∀ wx : World, Below w2.heap.size w2 wx → wx.cell? ⟨w.heap.size, 0, none⟩ = some (.int .i64 sz) ∧ wx.cell? ⟨w.heap.size, 1, none⟩ = some (.int .i64 hi) ∧ wx.cell? ⟨w.heap.size, 2, none⟩ = some (.int .i64 ver) ∧ wx.cell? ⟨w.heap.size, 3, none⟩ = some (.bool d) ∧ wx.cell? ⟨w.heap.size, 4, none⟩ = some (.slice a n c) ∧ wx.cell? ⟨W1.heap.size, 0, none⟩ = some (.slice oa on oc) ∧ wx.cell? ⟨W1.heap.size, 1, none⟩ = some (.int .u16 ty) ∧ wx.cell? ⟨W1.heap.size, 2, none⟩ = some (.int .u16 cl) ∧ wx.cell? ⟨W1.heap.size, 3, none⟩ = some (.int .u32 ttl) ∧ wx.cell? ⟨W1.heap.size, 4, none⟩ = some (.slice ma mn mc) ∧ wx.cell? ⟨W1.heap.size, 5, none⟩ = some (.slice ua un uc) ∧ wx.cell? ⟨W1.heap.size, 6, none⟩ = some (.slice xa xn xc) ∧ wx.cell? ⟨W1.heap.size, 7, none⟩ = some (.slice ra rn rc) := fun wx hb => ⟨cell_old p0 hb, cell_old p1 hb, cell_old p2 hb, cell_old p3 hb, cell_old p4 hb, cell_old q0 hb, cell_old q1 hb, cell_old q2 hb, cell_old q3 hb, cell_old q4 hb, cell_old q5 hb, cell_old q6 hb, cell_old q7 hb⟩
          have cs' := Lib.hid cs
          have hO2 := Lib.hid (hO'.out.ext hS2.out.bel)
          have hq2 := Lib.hid (hq'.out.ext hS2.out.bel)
          have hn32 : Hid (n * 32 ≤ 140737488355296) := Lib.hid (by have h1 := hs'.out.1; have h2 := hO'.out.len; omega)
          have hd40 : Hid (∀ o ∈ O, o.2.length ≤ 140737488355328) := Lib.hid (fun o ho => by have := hs'.out.2 o ho; omega)
          clear cs
          go_cut [5, 6] from 51 to 54 (fun t5 t6 wx => ∃ (b5 b6 : Nat) (a5 : Option Addr) (c5 : Nat) (q6 : RD), t5 = .pointer (some ⟨b5, 0, none⟩) ∧ t6 = .pointer (some ⟨b6, 0, none⟩) ∧ Hid (Blk wx b5 24 (0, 0) [.int .i64 sz, .int .i64 hi, .int .i64 ver, .bool d, .slice a5 O.length c5]) ∧ Hid (OwnO wx w2.heap.size (.slice a5 O.length c5) O) ∧ Hid (Blk wx b6 37 (0, 0) q6.cells) ∧ Hid (OwnRec wx w2.heap.size q6 L) ∧ Hid (q6.ty = ty ∧ q6.cl = cl ∧ q6.ttl = ttl) ∧ Hid (Below w2.heap.size w2 wx))
          case first =>
            refine wp_region_noPanic ?_
            refine wp_region_held_drew (S := fun w' => w'.cell? ⟨w.heap.size, 0, none⟩ = some (.int .i64 sz) ∧ w'.cell? ⟨w.heap.size, 1, none⟩ = some (.int .i64 hi) ∧ w'.cell? ⟨w.heap.size, 2, none⟩ = some (.int .i64 ver) ∧ w'.cell? ⟨w.heap.size, 3, none⟩ = some (.bool d) ∧ w'.cell? ⟨w.heap.size, 4, none⟩ = some (.slice a n c) ∧ w'.cell? ⟨W1.heap.size, 0, none⟩ = some (.slice oa on oc) ∧ w'.cell? ⟨W1.heap.size, 1, none⟩ = some (.int .u16 ty) ∧ w'.cell? ⟨W1.heap.size, 2, none⟩ = some (.int .u16 cl) ∧ w'.cell? ⟨W1.heap.size, 3, none⟩ = some (.int .u32 ttl) ∧ w'.cell? ⟨W1.heap.size, 4, none⟩ = some (.slice ma mn mc) ∧ w'.cell? ⟨W1.heap.size, 5, none⟩ = some (.slice ua un uc) ∧ w'.cell? ⟨W1.heap.size, 6, none⟩ = some (.slice xa xn xc) ∧ w'.cell? ⟨W1.heap.size, 7, none⟩ = some (.slice ra rn rc)) (by kernel_rfl) (cs'.out _ (Below.refl _ _).drew) (fun hHeld => ?_)
            have k0 : Hid (Below w2.heap.size w2 w2.drew) := Lib.hid (Below.refl _ _).drew
            generalize w2.drew = U0 at *
            refine wpAnyH_take (i := 0) (oi := { dst := some 51, op := Op.load 24 (Operand.tmp 2), type := 24, pos := _, after := #[], guard := none }) (v := ?_) rfl (by kernel_rfl) (by kernel_rfl) (by kernel_rfl) (fun _ _ _ h => h) (Or.inl ⟨by rfl, ?_⟩) (by assumption) ?_
            rotate_left
            · intro w hSw
              go_simp
              first | done | with_reducible rfl
            try simp only [Act.put, List.setIfInBounds_toArray, List.set_cons_zero, List.set_cons_succ]
            refine wpAnyH_take (i := 2) (oi := { dst := some 53, op := Op.load 37 (Operand.tmp 3), type := 37, pos := _, after := #[], guard := none }) (v := ?_) rfl (by kernel_rfl) (by kernel_rfl) (by kernel_rfl) (fun _ _ _ h => h) (Or.inl ⟨by rfl, ?_⟩) (by assumption) ?_
            rotate_left
            · intro w hSw
              go_simp
              first | done | with_reducible rfl
            try simp only [Act.put, List.setIfInBounds_toArray, List.set_cons_zero, List.set_cons_succ]
            refine wpAnyH_ready (rs := [1, 4, 5]) (by kernel_rfl) (by simp) ?_
            refine AllReadyH.cons (o := { dst := some 52, op := Op.call { callee := Callee.value (Operand.func 9), args := #[Operand.tmp 51], argTypes := #[24] }, type := 24, pos := _, after := #[{ on := 0, ground := Ground.data }], guard := none }) rfl (fun K hK => ?_) ?_
            · refine step_call (by rfl) (.tmp 51) 24 (by rfl) (by rfl) enter9 ?_
              refine (copy_edns (hO2.out.ext k0.out) hn32.out hd40.out sz hi ver d).mono ?_
              rintro e U1 ⟨⟨v5, rfl, hO⟩, m1⟩
              obtain ⟨a5, c5, rfl⟩ := hO.shape
              have hX1 := Lib.hid (hO.mono k0.out.size)
              replace m1 := Lib.hid m1
              clear hO
              have k1 := Lib.hid (k0.out.trans (m1.out.mono k0.out.size))
              refine ⟨_, rfl, ?_⟩
              refine hK.out _ _ (cs'.out _ k1.out) (fun hHeld => ?_)
              clear hK K
              try simp only [Act.put, List.setIfInBounds_toArray, List.set_cons_zero, List.set_cons_succ]
              refine wpAnyH_ready (rs := [3, 4, 5]) (by kernel_rfl) (by simp) ?_
              refine AllReadyH.cons (o := { dst := some 54, op := Op.call { callee := Callee.value (Operand.func 10), args := #[Operand.tmp 53], argTypes := #[37] }, type := 37, pos := _, after := #[{ on := 2, ground := Ground.data }, { on := 1, ground := Ground.chain }], guard := none }) rfl (fun K hK => ?_) ?_
              · refine step_call (by rfl) (.tmp 53) 37 (by rfl) (by rfl) enter10 ?_
                refine (copy_rec (hq2.out.ext k1.out)).mono ?_
                rintro e U2 ⟨⟨q6, rfl, hO, hqe⟩, m2⟩
                have hY2 := Lib.hid (hO.mono k1.out.size)
                have hqe' := Lib.hid hqe
                clear hqe
                replace m2 := Lib.hid m2
                clear hO
                have k2 := Lib.hid (k1.out.trans (m2.out.mono k1.out.size))
                have hX2 := Lib.hid (hX1.out.ext m2.out)
                refine ⟨_, rfl, ?_⟩
                refine hK.out _ _ (cs'.out _ k2.out) (fun hHeld => ?_)
                clear hK K
                try simp only [Act.put, List.setIfInBounds_toArray, List.set_cons_zero, List.set_cons_succ]
                refine wpAnyH_ready (rs := [4, 5]) (by kernel_rfl) (by simp) ?_
                refine AllReadyH.cons (o := { dst := some 5, op := Op.alloc 24, type := 0, pos := _, after := #[], guard := none }) rfl (fun K hK => ?_) ?_
                · go_simp
                  obtain ⟨U3, e3⟩ : ∃ U, U2.alloc (.cells #[.int .i64 0, .int .i64 0, .int .i64 0, .bool false, .slice none 0 0] 24) = U := ⟨_, rfl⟩
                  have m3 : Hid (Below U2.heap.size U2 U3) := Lib.hid (by rw [← e3]; exact alloc_bel _ _)
                  have k3 := Lib.hid (k2.out.trans (m3.out.mono k2.out.size))
                  have hX3 := Lib.hid (hX2.out.ext m3.out)
                  have hY3 := Lib.hid (hY2.out.ext m3.out)
                  have hZ53 : Hid (Blk U3 U2.heap.size 24 (0, 0) [.int .i64 0, .int .i64 0, .int .i64 0, .bool false, .slice none 0 0]) := Lib.hid (by rw [← e3]; exact Blk.new U2 24 (0, 0) #[.int .i64 0, .int .i64 0, .int .i64 0, .bool false, .slice none 0 0])
                  have sZ5 : Hid (w2.heap.size ≤ U2.heap.size) := Lib.hid k2.out.size
                  rw [e3]
                  clear e3
                  refine hK.out _ _ (cs'.out _ k3.out) (fun hHeld => ?_)
                  clear hK K
                  try simp only [Act.put, List.setIfInBounds_toArray, List.set_cons_zero, List.set_cons_succ]
                  refine wpAnyH_ready (rs := [5]) (by kernel_rfl) (by simp) ?_
                  refine AllReadyH.cons (o := { dst := some 6, op := Op.alloc 37, type := 0, pos := _, after := #[], guard := none }) rfl (fun K hK => ?_) ?_
                  · go_simp
                    obtain ⟨U4, e4⟩ : ∃ U, U3.alloc (.cells #[.slice none 0 0, .int .u16 0, .int .u16 0, .int .u32 0, .slice none 0 0, .slice none 0 0, .slice none 0 0, .slice none 0 0] 37) = U := ⟨_, rfl⟩
                    have m4 : Hid (Below U3.heap.size U3 U4) := Lib.hid (by rw [← e4]; exact alloc_bel _ _)
                    have k4 := Lib.hid (k3.out.trans (m4.out.mono k3.out.size))
                    have hX4 := Lib.hid (hX3.out.ext m4.out)
                    have hY4 := Lib.hid (hY3.out.ext m4.out)
                    have hZ54 := Lib.hid (hZ53.out.below m4.out hZ53.out.lt)
                    have hZ64 : Hid (Blk U4 U3.heap.size 37 (0, 0) [.slice none 0 0, .int .u16 0, .int .u16 0, .int .u32 0, .slice none 0 0, .slice none 0 0, .slice none 0 0, .slice none 0 0]) := Lib.hid (by rw [← e4]; exact Blk.new U3 37 (0, 0) #[.slice none 0 0, .int .u16 0, .int .u16 0, .int .u32 0, .slice none 0 0, .slice none 0 0, .slice none 0 0, .slice none 0 0])
                    have sZ6 : Hid (w2.heap.size ≤ U3.heap.size) := Lib.hid k3.out.size
                    rw [e4]
                    clear e4
                    refine hK.out _ _ (cs'.out _ k4.out) (fun hHeld => ?_)
                    clear hK K
                    try simp only [Act.put, List.setIfInBounds_toArray, List.set_cons_zero, List.set_cons_succ]
                    refine wpAnyH_ready (rs := [6]) (by kernel_rfl) (by simp) ?_
                    refine AllReadyH.cons (o := { dst := none, op := Op.store 24 (Operand.tmp 5) (Operand.tmp 52), type := 0, pos := _, after := #[{ on := 4, ground := Ground.data }, { on := 1, ground := Ground.data }, { on := 3, ground := Ground.chain }, { on := 0, ground := Ground.phase }, { on := 1, ground := Ground.phase }, { on := 2, ground := Ground.textOnly Departure.lateStores }, { on := 3, ground := Ground.textOnly Departure.lateStoresUnsure }, { on := 4, ground := Ground.phase }, { on := 5, ground := Ground.phase }], guard := none }) rfl (fun K hK => ?_) ?_
                    · refine step_store (by rfl) 24 (.tmp 5) (.tmp 52) (by rfl) (cells := #[.int .i64 sz, .int .i64 hi, .int .i64 ver, .bool d, .slice a5 O.length c5]) (by rfl) (by rfl) hZ54.out (by rfl) (by kernel_rfl) (by first | kernel_rfl | rfl) ?_
                      intro U5 hB5 hg5 _
                      replace hB5 := Lib.hid hB5
                      have k5 : Hid (Below w2.heap.size w2 U5) := Lib.hid (k4.out.grown hg5 k4.out.size (fun j hj => by have e2 := Option.some.inj hj; have := sZ5.out; omega))
                      have hZ65 := Lib.hid (blk_store hZ64.out hZ54.out (by decide) hg5)
                      have hX5 := Lib.hid (ownO_store hX4.out hZ54.out (by decide) (by decide) hg5)
                      have hY5 := Lib.hid (ownRec_store hY4.out hZ54.out (by decide) (by decide) (by decide) (by decide) hg5)
                      clear hg5
                      refine hK.out _ _ (cs'.out _ k5.out) (fun hHeld => ?_)
                      clear hK K
                      try simp only [Act.put]
                      refine wpAnyH_ready (rs := [7]) (by kernel_rfl) (by simp) ?_
                      refine AllReadyH.cons (o := { dst := none, op := Op.store 37 (Operand.tmp 6) (Operand.tmp 54), type := 0, pos := _, after := #[{ on := 5, ground := Ground.data }, { on := 3, ground := Ground.data }, { on := 6, ground := Ground.chain }, { on := 0, ground := Ground.phase }, { on := 1, ground := Ground.phase }, { on := 2, ground := Ground.phase }, { on := 3, ground := Ground.phase }, { on := 4, ground := Ground.phase }, { on := 5, ground := Ground.phase }, { on := 6, ground := Ground.phase }], guard := none }) rfl (fun K hK => ?_) ?_
                      · refine step_store (by rfl) 37 (.tmp 6) (.tmp 54) (by rfl) (cells := q6.cells.toArray) (by rfl) (by rfl) hZ65.out (by rfl) (by kernel_rfl) (cells_one q6) ?_
                        intro U6 hB6 hg6 _
                        replace hB6 := Lib.hid hB6
                        have k6 : Hid (Below w2.heap.size w2 U6) := Lib.hid (k5.out.grown hg6 k5.out.size (fun j hj => by have e2 := Option.some.inj hj; have := sZ6.out; omega))
                        have hB56 := Lib.hid (blk_store hB5.out hZ65.out (by decide) hg6)
                        have hX6 := Lib.hid (ownO_store hX5.out hZ65.out (by decide) (by decide) hg6)
                        have hY6 := Lib.hid (ownRec_store hY5.out hZ65.out (by decide) (by decide) (by decide) (by decide) hg6)
                        clear hg6
                        refine hK.out _ _ (cs'.out _ k6.out) (fun hHeld => ?_)
                        clear hK K
                        refine wpAnyH_done (by kernel_rfl) ?_ _
                        refine NoPanic.normal ?_
                        go_wp2_with fail
                        go_meet
                        exact ⟨_, _, _, _, _, rfl, rfl, hB56, hX6, hB6, hY6, hqe', k6⟩
                      exact AllReadyH.nil
                    exact AllReadyH.nil
                  exact AllReadyH.nil
                refine AllReadyH.cons (o := { dst := some 6, op := Op.alloc 37, type := 0, pos := _, after := #[], guard := none }) rfl (fun K hK => ?_) ?_
                · go_simp
                  obtain ⟨U7, e7⟩ : ∃ U, U2.alloc (.cells #[.slice none 0 0, .int .u16 0, .int .u16 0, .int .u32 0, .slice none 0 0, .slice none 0 0, .slice none 0 0, .slice none 0 0] 37) = U := ⟨_, rfl⟩
                  have m7 : Hid (Below U2.heap.size U2 U7) := Lib.hid (by rw [← e7]; exact alloc_bel _ _)
                  have k7 := Lib.hid (k2.out.trans (m7.out.mono k2.out.size))
                  have hX7 := Lib.hid (hX2.out.ext m7.out)
                  have hY7 := Lib.hid (hY2.out.ext m7.out)
                  have hZ67 : Hid (Blk U7 U2.heap.size 37 (0, 0) [.slice none 0 0, .int .u16 0, .int .u16 0, .int .u32 0, .slice none 0 0, .slice none 0 0, .slice none 0 0, .slice none 0 0]) := Lib.hid (by rw [← e7]; exact Blk.new U2 37 (0, 0) #[.slice none 0 0, .int .u16 0, .int .u16 0, .int .u32 0, .slice none 0 0, .slice none 0 0, .slice none 0 0, .slice none 0 0])
                  have sZ6 : Hid (w2.heap.size ≤ U2.heap.size) := Lib.hid k2.out.size
                  rw [e7]
                  clear e7
                  refine hK.out _ _ (cs'.out _ k7.out) (fun hHeld => ?_)
                  clear hK K
                  try simp only [Act.put, List.setIfInBounds_toArray, List.set_cons_zero, List.set_cons_succ]
                  refine wpAnyH_ready (rs := [4]) (by kernel_rfl) (by simp) ?_
                  refine AllReadyH.cons (o := { dst := some 5, op := Op.alloc 24, type := 0, pos := _, after := #[], guard := none }) rfl (fun K hK => ?_) ?_
                  · go_simp
                    obtain ⟨U8, e8⟩ : ∃ U, U7.alloc (.cells #[.int .i64 0, .int .i64 0, .int .i64 0, .bool false, .slice none 0 0] 24) = U := ⟨_, rfl⟩
                    have m8 : Hid (Below U7.heap.size U7 U8) := Lib.hid (by rw [← e8]; exact alloc_bel _ _)
                    have k8 := Lib.hid (k7.out.trans (m8.out.mono k7.out.size))
                    have hX8 := Lib.hid (hX7.out.ext m8.out)
                    have hY8 := Lib.hid (hY7.out.ext m8.out)
                    have hZ68 := Lib.hid (hZ67.out.below m8.out hZ67.out.lt)
                    have hZ58 : Hid (Blk U8 U7.heap.size 24 (0, 0) [.int .i64 0, .int .i64 0, .int .i64 0, .bool false, .slice none 0 0]) := Lib.hid (by rw [← e8]; exact Blk.new U7 24 (0, 0) #[.int .i64 0, .int .i64 0, .int .i64 0, .bool false, .slice none 0 0])
                    have sZ5 : Hid (w2.heap.size ≤ U7.heap.size) := Lib.hid k7.out.size
                    rw [e8]
                    clear e8
                    refine hK.out _ _ (cs'.out _ k8.out) (fun hHeld => ?_)
                    clear hK K
                    try simp only [Act.put, List.setIfInBounds_toArray, List.set_cons_zero, List.set_cons_succ]
                    refine wpAnyH_ready (rs := [6]) (by kernel_rfl) (by simp) ?_
                    refine AllReadyH.cons (o := { dst := none, op := Op.store 24 (Operand.tmp 5) (Operand.tmp 52), type := 0, pos := _, after := #[{ on := 4, ground := Ground.data }, { on := 1, ground := Ground.data }, { on := 3, ground := Ground.chain }, { on := 0, ground := Ground.phase }, { on := 1, ground := Ground.phase }, { on := 2, ground := Ground.textOnly Departure.lateStores }, { on := 3, ground := Ground.textOnly Departure.lateStoresUnsure }, { on := 4, ground := Ground.phase }, { on := 5, ground := Ground.phase }], guard := none }) rfl (fun K hK => ?_) ?_
                    · refine step_store (by rfl) 24 (.tmp 5) (.tmp 52) (by rfl) (cells := #[.int .i64 sz, .int .i64 hi, .int .i64 ver, .bool d, .slice a5 O.length c5]) (by rfl) (by rfl) hZ58.out (by rfl) (by kernel_rfl) (by first | kernel_rfl | rfl) ?_
                      intro U9 hB9 hg9 _
                      replace hB9 := Lib.hid hB9
                      have k9 : Hid (Below w2.heap.size w2 U9) := Lib.hid (k8.out.grown hg9 k8.out.size (fun j hj => by have e2 := Option.some.inj hj; have := sZ5.out; omega))
                      have hZ69 := Lib.hid (blk_store hZ68.out hZ58.out (by decide) hg9)
                      have hX9 := Lib.hid (ownO_store hX8.out hZ58.out (by decide) (by decide) hg9)
                      have hY9 := Lib.hid (ownRec_store hY8.out hZ58.out (by decide) (by decide) (by decide) (by decide) hg9)
                      clear hg9
                      refine hK.out _ _ (cs'.out _ k9.out) (fun hHeld => ?_)
                      clear hK K
                      try simp only [Act.put]
                      refine wpAnyH_ready (rs := [7]) (by kernel_rfl) (by simp) ?_
                      refine AllReadyH.cons (o := { dst := none, op := Op.store 37 (Operand.tmp 6) (Operand.tmp 54), type := 0, pos := _, after := #[{ on := 5, ground := Ground.data }, { on := 3, ground := Ground.data }, { on := 6, ground := Ground.chain }, { on := 0, ground := Ground.phase }, { on := 1, ground := Ground.phase }, { on := 2, ground := Ground.phase }, { on := 3, ground := Ground.phase }, { on := 4, ground := Ground.phase }, { on := 5, ground := Ground.phase }, { on := 6, ground := Ground.phase }], guard := none }) rfl (fun K hK => ?_) ?_
                      · refine step_store (by rfl) 37 (.tmp 6) (.tmp 54) (by rfl) (cells := q6.cells.toArray) (by rfl) (by rfl) hZ69.out (by rfl) (by kernel_rfl) (cells_one q6) ?_
                        intro U10 hB10 hg10 _
                        replace hB10 := Lib.hid hB10
                        have k10 : Hid (Below w2.heap.size w2 U10) := Lib.hid (k9.out.grown hg10 k9.out.size (fun j hj => by have e2 := Option.some.inj hj; have := sZ6.out; omega))
                        have hB510 := Lib.hid (blk_store hB9.out hZ69.out (by decide) hg10)
                        have hX10 := Lib.hid (ownO_store hX9.out hZ69.out (by decide) (by decide) hg10)
                        have hY10 := Lib.hid (ownRec_store hY9.out hZ69.out (by decide) (by decide) (by decide) (by decide) hg10)
                        clear hg10
                        refine hK.out _ _ (cs'.out _ k10.out) (fun hHeld => ?_)
                        clear hK K
                        refine wpAnyH_done (by kernel_rfl) ?_ _
                        refine NoPanic.normal ?_
                        go_wp2_with fail
                        go_meet
                        exact ⟨_, _, _, _, _, rfl, rfl, hB510, hX10, hB10, hY10, hqe', k10⟩
                      exact AllReadyH.nil
                    exact AllReadyH.nil
                  exact AllReadyH.nil
                exact AllReadyH.nil
              refine AllReadyH.cons (o := { dst := some 5, op := Op.alloc 24, type := 0, pos := _, after := #[], guard := none }) rfl (fun K hK => ?_) ?_
              · go_simp
                obtain ⟨U11, e11⟩ : ∃ U, U1.alloc (.cells #[.int .i64 0, .int .i64 0, .int .i64 0, .bool false, .slice none 0 0] 24) = U := ⟨_, rfl⟩
                have m11 : Hid (Below U1.heap.size U1 U11) := Lib.hid (by rw [← e11]; exact alloc_bel _ _)
                have k11 := Lib.hid (k1.out.trans (m11.out.mono k1.out.size))
                have hX11 := Lib.hid (hX1.out.ext m11.out)
                have hZ511 : Hid (Blk U11 U1.heap.size 24 (0, 0) [.int .i64 0, .int .i64 0, .int .i64 0, .bool false, .slice none 0 0]) := Lib.hid (by rw [← e11]; exact Blk.new U1 24 (0, 0) #[.int .i64 0, .int .i64 0, .int .i64 0, .bool false, .slice none 0 0])
                have sZ5 : Hid (w2.heap.size ≤ U1.heap.size) := Lib.hid k1.out.size
                rw [e11]
                clear e11
                refine hK.out _ _ (cs'.out _ k11.out) (fun hHeld => ?_)
                clear hK K
                try simp only [Act.put, List.setIfInBounds_toArray, List.set_cons_zero, List.set_cons_succ]
                refine wpAnyH_ready (rs := [3, 5]) (by kernel_rfl) (by simp) ?_
                refine AllReadyH.cons (o := { dst := some 54, op := Op.call { callee := Callee.value (Operand.func 10), args := #[Operand.tmp 53], argTypes := #[37] }, type := 37, pos := _, after := #[{ on := 2, ground := Ground.data }, { on := 1, ground := Ground.chain }], guard := none }) rfl (fun K hK => ?_) ?_
                · refine step_call (by rfl) (.tmp 53) 37 (by rfl) (by rfl) enter10 ?_
                  refine (copy_rec (hq2.out.ext k11.out)).mono ?_
                  rintro e U12 ⟨⟨q6, rfl, hO, hqe⟩, m12⟩
                  have hY12 := Lib.hid (hO.mono k11.out.size)
                  have hqe' := Lib.hid hqe
                  clear hqe
                  replace m12 := Lib.hid m12
                  clear hO
                  have k12 := Lib.hid (k11.out.trans (m12.out.mono k11.out.size))
                  have hX12 := Lib.hid (hX11.out.ext m12.out)
                  have hZ512 := Lib.hid (hZ511.out.below m12.out hZ511.out.lt)
                  refine ⟨_, rfl, ?_⟩
                  refine hK.out _ _ (cs'.out _ k12.out) (fun hHeld => ?_)
                  clear hK K
                  try simp only [Act.put, List.setIfInBounds_toArray, List.set_cons_zero, List.set_cons_succ]
                  refine wpAnyH_ready (rs := [5]) (by kernel_rfl) (by simp) ?_
                  refine AllReadyH.cons (o := { dst := some 6, op := Op.alloc 37, type := 0, pos := _, after := #[], guard := none }) rfl (fun K hK => ?_) ?_
                  · go_simp
                    obtain ⟨U13, e13⟩ : ∃ U, U12.alloc (.cells #[.slice none 0 0, .int .u16 0, .int .u16 0, .int .u32 0, .slice none 0 0, .slice none 0 0, .slice none 0 0, .slice none 0 0] 37) = U := ⟨_, rfl⟩
                    have m13 : Hid (Below U12.heap.size U12 U13) := Lib.hid (by rw [← e13]; exact alloc_bel _ _)
                    have k13 := Lib.hid (k12.out.trans (m13.out.mono k12.out.size))
                    have hX13 := Lib.hid (hX12.out.ext m13.out)
                    have hZ513 := Lib.hid (hZ512.out.below m13.out hZ512.out.lt)
                    have hY13 := Lib.hid (hY12.out.ext m13.out)
                    have hZ613 : Hid (Blk U13 U12.heap.size 37 (0, 0) [.slice none 0 0, .int .u16 0, .int .u16 0, .int .u32 0, .slice none 0 0, .slice none 0 0, .slice none 0 0, .slice none 0 0]) := Lib.hid (by rw [← e13]; exact Blk.new U12 37 (0, 0) #[.slice none 0 0, .int .u16 0, .int .u16 0, .int .u32 0, .slice none 0 0, .slice none 0 0, .slice none 0 0, .slice none 0 0])
                    have sZ6 : Hid (w2.heap.size ≤ U12.heap.size) := Lib.hid k12.out.size
                    rw [e13]
                    clear e13
                    refine hK.out _ _ (cs'.out _ k13.out) (fun hHeld => ?_)
                    clear hK K
                    try simp only [Act.put, List.setIfInBounds_toArray, List.set_cons_zero, List.set_cons_succ]
                    refine wpAnyH_ready (rs := [6]) (by kernel_rfl) (by simp) ?_
                    refine AllReadyH.cons (o := { dst := none, op := Op.store 24 (Operand.tmp 5) (Operand.tmp 52), type := 0, pos := _, after := #[{ on := 4, ground := Ground.data }, { on := 1, ground := Ground.data }, { on := 3, ground := Ground.chain }, { on := 0, ground := Ground.phase }, { on := 1, ground := Ground.phase }, { on := 2, ground := Ground.textOnly Departure.lateStores }, { on := 3, ground := Ground.textOnly Departure.lateStoresUnsure }, { on := 4, ground := Ground.phase }, { on := 5, ground := Ground.phase }], guard := none }) rfl (fun K hK => ?_) ?_
                    · refine step_store (by rfl) 24 (.tmp 5) (.tmp 52) (by rfl) (cells := #[.int .i64 sz, .int .i64 hi, .int .i64 ver, .bool d, .slice a5 O.length c5]) (by rfl) (by rfl) hZ513.out (by rfl) (by kernel_rfl) (by first | kernel_rfl | rfl) ?_
                      intro U14 hB14 hg14 _
                      replace hB14 := Lib.hid hB14
                      have k14 : Hid (Below w2.heap.size w2 U14) := Lib.hid (k13.out.grown hg14 k13.out.size (fun j hj => by have e2 := Option.some.inj hj; have := sZ5.out; omega))
                      have hZ614 := Lib.hid (blk_store hZ613.out hZ513.out (by decide) hg14)
                      have hX14 := Lib.hid (ownO_store hX13.out hZ513.out (by decide) (by decide) hg14)
                      have hY14 := Lib.hid (ownRec_store hY13.out hZ513.out (by decide) (by decide) (by decide) (by decide) hg14)
                      clear hg14
                      refine hK.out _ _ (cs'.out _ k14.out) (fun hHeld => ?_)
                      clear hK K
                      try simp only [Act.put]
                      refine wpAnyH_ready (rs := [7]) (by kernel_rfl) (by simp) ?_
                      refine AllReadyH.cons (o := { dst := none, op := Op.store 37 (Operand.tmp 6) (Operand.tmp 54), type := 0, pos := _, after := #[{ on := 5, ground := Ground.data }, { on := 3, ground := Ground.data }, { on := 6, ground := Ground.chain }, { on := 0, ground := Ground.phase }, { on := 1, ground := Ground.phase }, { on := 2, ground := Ground.phase }, { on := 3, ground := Ground.phase }, { on := 4, ground := Ground.phase }, { on := 5, ground := Ground.phase }, { on := 6, ground := Ground.phase }], guard := none }) rfl (fun K hK => ?_) ?_
                      · refine step_store (by rfl) 37 (.tmp 6) (.tmp 54) (by rfl) (cells := q6.cells.toArray) (by rfl) (by rfl) hZ614.out (by rfl) (by kernel_rfl) (cells_one q6) ?_
                        intro U15 hB15 hg15 _
                        replace hB15 := Lib.hid hB15
                        have k15 : Hid (Below w2.heap.size w2 U15) := Lib.hid (k14.out.grown hg15 k14.out.size (fun j hj => by have e2 := Option.some.inj hj; have := sZ6.out; omega))
                        have hB515 := Lib.hid (blk_store hB14.out hZ614.out (by decide) hg15)
                        have hX15 := Lib.hid (ownO_store hX14.out hZ614.out (by decide) (by decide) hg15)
                        have hY15 := Lib.hid (ownRec_store hY14.out hZ614.out (by decide) (by decide) (by decide) (by decide) hg15)
                        clear hg15
                        refine hK.out _ _ (cs'.out _ k15.out) (fun hHeld => ?_)
                        clear hK K
                        refine wpAnyH_done (by kernel_rfl) ?_ _
                        refine NoPanic.normal ?_
                        go_wp2_with fail
                        go_meet
                        exact ⟨_, _, _, _, _, rfl, rfl, hB515, hX15, hB15, hY15, hqe', k15⟩
                      exact AllReadyH.nil
                    exact AllReadyH.nil
                  exact AllReadyH.nil
                refine AllReadyH.cons (o := { dst := some 6, op := Op.alloc 37, type := 0, pos := _, after := #[], guard := none }) rfl (fun K hK => ?_) ?_
                · go_simp
                  obtain ⟨U16, e16⟩ : ∃ U, U11.alloc (.cells #[.slice none 0 0, .int .u16 0, .int .u16 0, .int .u32 0, .slice none 0 0, .slice none 0 0, .slice none 0 0, .slice none 0 0] 37) = U := ⟨_, rfl⟩
                  have m16 : Hid (Below U11.heap.size U11 U16) := Lib.hid (by rw [← e16]; exact alloc_bel _ _)
                  have k16 := Lib.hid (k11.out.trans (m16.out.mono k11.out.size))
                  have hX16 := Lib.hid (hX11.out.ext m16.out)
                  have hZ516 := Lib.hid (hZ511.out.below m16.out hZ511.out.lt)
                  have hZ616 : Hid (Blk U16 U11.heap.size 37 (0, 0) [.slice none 0 0, .int .u16 0, .int .u16 0, .int .u32 0, .slice none 0 0, .slice none 0 0, .slice none 0 0, .slice none 0 0]) := Lib.hid (by rw [← e16]; exact Blk.new U11 37 (0, 0) #[.slice none 0 0, .int .u16 0, .int .u16 0, .int .u32 0, .slice none 0 0, .slice none 0 0, .slice none 0 0, .slice none 0 0])
                  have sZ6 : Hid (w2.heap.size ≤ U11.heap.size) := Lib.hid k11.out.size
                  rw [e16]
                  clear e16
                  refine hK.out _ _ (cs'.out _ k16.out) (fun hHeld => ?_)
                  clear hK K
                  try simp only [Act.put, List.setIfInBounds_toArray, List.set_cons_zero, List.set_cons_succ]
                  refine wpAnyH_ready (rs := [3]) (by kernel_rfl) (by simp) ?_
                  refine AllReadyH.cons (o := { dst := some 54, op := Op.call { callee := Callee.value (Operand.func 10), args := #[Operand.tmp 53], argTypes := #[37] }, type := 37, pos := _, after := #[{ on := 2, ground := Ground.data }, { on := 1, ground := Ground.chain }], guard := none }) rfl (fun K hK => ?_) ?_
                  · refine step_call (by rfl) (.tmp 53) 37 (by rfl) (by rfl) enter10 ?_
                    refine (copy_rec (hq2.out.ext k16.out)).mono ?_
                    rintro e U17 ⟨⟨q6, rfl, hO, hqe⟩, m17⟩
                    have hY17 := Lib.hid (hO.mono k16.out.size)
                    have hqe' := Lib.hid hqe
                    clear hqe
                    replace m17 := Lib.hid m17
                    clear hO
                    have k17 := Lib.hid (k16.out.trans (m17.out.mono k16.out.size))
                    have hX17 := Lib.hid (hX16.out.ext m17.out)
                    have hZ517 := Lib.hid (hZ516.out.below m17.out hZ516.out.lt)
                    have hZ617 := Lib.hid (hZ616.out.below m17.out hZ616.out.lt)
                    refine ⟨_, rfl, ?_⟩
                    refine hK.out _ _ (cs'.out _ k17.out) (fun hHeld => ?_)
                    clear hK K
                    try simp only [Act.put, List.setIfInBounds_toArray, List.set_cons_zero, List.set_cons_succ]
                    refine wpAnyH_ready (rs := [6]) (by kernel_rfl) (by simp) ?_
                    refine AllReadyH.cons (o := { dst := none, op := Op.store 24 (Operand.tmp 5) (Operand.tmp 52), type := 0, pos := _, after := #[{ on := 4, ground := Ground.data }, { on := 1, ground := Ground.data }, { on := 3, ground := Ground.chain }, { on := 0, ground := Ground.phase }, { on := 1, ground := Ground.phase }, { on := 2, ground := Ground.textOnly Departure.lateStores }, { on := 3, ground := Ground.textOnly Departure.lateStoresUnsure }, { on := 4, ground := Ground.phase }, { on := 5, ground := Ground.phase }], guard := none }) rfl (fun K hK => ?_) ?_
                    · refine step_store (by rfl) 24 (.tmp 5) (.tmp 52) (by rfl) (cells := #[.int .i64 sz, .int .i64 hi, .int .i64 ver, .bool d, .slice a5 O.length c5]) (by rfl) (by rfl) hZ517.out (by rfl) (by kernel_rfl) (by first | kernel_rfl | rfl) ?_
                      intro U18 hB18 hg18 _
                      replace hB18 := Lib.hid hB18
                      have k18 : Hid (Below w2.heap.size w2 U18) := Lib.hid (k17.out.grown hg18 k17.out.size (fun j hj => by have e2 := Option.some.inj hj; have := sZ5.out; omega))
                      have hZ618 := Lib.hid (blk_store hZ617.out hZ517.out (by decide) hg18)
                      have hX18 := Lib.hid (ownO_store hX17.out hZ517.out (by decide) (by decide) hg18)
                      have hY18 := Lib.hid (ownRec_store hY17.out hZ517.out (by decide) (by decide) (by decide) (by decide) hg18)
                      clear hg18
                      refine hK.out _ _ (cs'.out _ k18.out) (fun hHeld => ?_)
                      clear hK K
                      try simp only [Act.put]
                      refine wpAnyH_ready (rs := [7]) (by kernel_rfl) (by simp) ?_
                      refine AllReadyH.cons (o := { dst := none, op := Op.store 37 (Operand.tmp 6) (Operand.tmp 54), type := 0, pos := _, after := #[{ on := 5, ground := Ground.data }, { on := 3, ground := Ground.data }, { on := 6, ground := Ground.chain }, { on := 0, ground := Ground.phase }, { on := 1, ground := Ground.phase }, { on := 2, ground := Ground.phase }, { on := 3, ground := Ground.phase }, { on := 4, ground := Ground.phase }, { on := 5, ground := Ground.phase }, { on := 6, ground := Ground.phase }], guard := none }) rfl (fun K hK => ?_) ?_
                      · refine step_store (by rfl) 37 (.tmp 6) (.tmp 54) (by rfl) (cells := q6.cells.toArray) (by rfl) (by rfl) hZ618.out (by rfl) (by kernel_rfl) (cells_one q6) ?_
                        intro U19 hB19 hg19 _
                        replace hB19 := Lib.hid hB19
                        have k19 : Hid (Below w2.heap.size w2 U19) := Lib.hid (k18.out.grown hg19 k18.out.size (fun j hj => by have e2 := Option.some.inj hj; have := sZ6.out; omega))
                        have hB519 := Lib.hid (blk_store hB18.out hZ618.out (by decide) hg19)
                        have hX19 := Lib.hid (ownO_store hX18.out hZ618.out (by decide) (by decide) hg19)
                        have hY19 := Lib.hid (ownRec_store hY18.out hZ618.out (by decide) (by decide) (by decide) (by decide) hg19)
                        clear hg19
                        refine hK.out _ _ (cs'.out _ k19.out) (fun hHeld => ?_)
                        clear hK K
                        refine wpAnyH_done (by kernel_rfl) ?_ _
                        refine NoPanic.normal ?_
                        go_wp2_with fail
                        go_meet
                        exact ⟨_, _, _, _, _, rfl, rfl, hB519, hX19, hB19, hY19, hqe', k19⟩
                      exact AllReadyH.nil
                    exact AllReadyH.nil
                  exact AllReadyH.nil
                exact AllReadyH.nil
              refine AllReadyH.cons (o := { dst := some 6, op := Op.alloc 37, type := 0, pos := _, after := #[], guard := none }) rfl (fun K hK => ?_) ?_
              · go_simp
                obtain ⟨U20, e20⟩ : ∃ U, U1.alloc (.cells #[.slice none 0 0, .int .u16 0, .int .u16 0, .int .u32 0, .slice none 0 0, .slice none 0 0, .slice none 0 0, .slice none 0 0] 37) = U := ⟨_, rfl⟩
                have m20 : Hid (Below U1.heap.size U1 U20) := Lib.hid (by rw [← e20]; exact alloc_bel _ _)
                have k20 := Lib.hid (k1.out.trans (m20.out.mono k1.out.size))
                have hX20 := Lib.hid (hX1.out.ext m20.out)
                have hZ620 : Hid (Blk U20 U1.heap.size 37 (0, 0) [.slice none 0 0, .int .u16 0, .int .u16 0, .int .u32 0, .slice none 0 0, .slice none 0 0, .slice none 0 0, .slice none 0 0]) := Lib.hid (by rw [← e20]; exact Blk.new U1 37 (0, 0) #[.slice none 0 0, .int .u16 0, .int .u16 0, .int .u32 0, .slice none 0 0, .slice none 0 0, .slice none 0 0, .slice none 0 0])
                have sZ6 : Hid (w2.heap.size ≤ U1.heap.size) := Lib.hid k1.out.size
                rw [e20]
                clear e20
                refine hK.out _ _ (cs'.out _ k20.out) (fun hHeld => ?_)
                clear hK K
                try simp only [Act.put, List.setIfInBounds_toArray, List.set_cons_zero, List.set_cons_succ]
                refine wpAnyH_ready (rs := [3, 4]) (by kernel_rfl) (by simp) ?_
                refine AllReadyH.cons (o := { dst := some 54, op := Op.call { callee := Callee.value (Operand.func 10), args := #[Operand.tmp 53], argTypes := #[37] }, type := 37, pos := _, after := #[{ on := 2, ground := Ground.data }, { on := 1, ground := Ground.chain }], guard := none }) rfl (fun K hK => ?_) ?_
                · refine step_call (by rfl) (.tmp 53) 37 (by rfl) (by rfl) enter10 ?_
                  refine (copy_rec (hq2.out.ext k20.out)).mono ?_
                  rintro e U21 ⟨⟨q6, rfl, hO, hqe⟩, m21⟩
                  have hY21 := Lib.hid (hO.mono k20.out.size)
                  have hqe' := Lib.hid hqe
                  clear hqe
                  replace m21 := Lib.hid m21
                  clear hO
                  have k21 := Lib.hid (k20.out.trans (m21.out.mono k20.out.size))
                  have hX21 := Lib.hid (hX20.out.ext m21.out)
                  have hZ621 := Lib.hid (hZ620.out.below m21.out hZ620.out.lt)
                  refine ⟨_, rfl, ?_⟩
                  refine hK.out _ _ (cs'.out _ k21.out) (fun hHeld => ?_)
                  clear hK K
                  try simp only [Act.put, List.setIfInBounds_toArray, List.set_cons_zero, List.set_cons_succ]
                  refine wpAnyH_ready (rs := [4]) (by kernel_rfl) (by simp) ?_
                  refine AllReadyH.cons (o := { dst := some 5, op := Op.alloc 24, type := 0, pos := _, after := #[], guard := none }) rfl (fun K hK => ?_) ?_
                  · go_simp
                    obtain ⟨U22, e22⟩ : ∃ U, U21.alloc (.cells #[.int .i64 0, .int .i64 0, .int .i64 0, .bool false, .slice none 0 0] 24) = U := ⟨_, rfl⟩
                    have m22 : Hid (Below U21.heap.size U21 U22) := Lib.hid (by rw [← e22]; exact alloc_bel _ _)
                    have k22 := Lib.hid (k21.out.trans (m22.out.mono k21.out.size))
                    have hX22 := Lib.hid (hX21.out.ext m22.out)
                    have hZ622 := Lib.hid (hZ621.out.below m22.out hZ621.out.lt)
                    have hY22 := Lib.hid (hY21.out.ext m22.out)
                    have hZ522 : Hid (Blk U22 U21.heap.size 24 (0, 0) [.int .i64 0, .int .i64 0, .int .i64 0, .bool false, .slice none 0 0]) := Lib.hid (by rw [← e22]; exact Blk.new U21 24 (0, 0) #[.int .i64 0, .int .i64 0, .int .i64 0, .bool false, .slice none 0 0])
                    have sZ5 : Hid (w2.heap.size ≤ U21.heap.size) := Lib.hid k21.out.size
                    rw [e22]
                    clear e22
                    refine hK.out _ _ (cs'.out _ k22.out) (fun hHeld => ?_)
                    clear hK K
                    try simp only [Act.put, List.setIfInBounds_toArray, List.set_cons_zero, List.set_cons_succ]
                    refine wpAnyH_ready (rs := [6]) (by kernel_rfl) (by simp) ?_
                    refine AllReadyH.cons (o := { dst := none, op := Op.store 24 (Operand.tmp 5) (Operand.tmp 52), type := 0, pos := _, after := #[{ on := 4, ground := Ground.data }, { on := 1, ground := Ground.data }, { on := 3, ground := Ground.chain }, { on := 0, ground := Ground.phase }, { on := 1, ground := Ground.phase }, { on := 2, ground := Ground.textOnly Departure.lateStores }, { on := 3, ground := Ground.textOnly Departure.lateStoresUnsure }, { on := 4, ground := Ground.phase }, { on := 5, ground := Ground.phase }], guard := none }) rfl (fun K hK => ?_) ?_
                    · refine step_store (by rfl) 24 (.tmp 5) (.tmp 52) (by rfl) (cells := #[.int .i64 sz, .int .i64 hi, .int .i64 ver, .bool d, .slice a5 O.length c5]) (by rfl) (by rfl) hZ522.out (by rfl) (by kernel_rfl) (by first | kernel_rfl | rfl) ?_
                      intro U23 hB23 hg23 _
                      replace hB23 := Lib.hid hB23
                      have k23 : Hid (Below w2.heap.size w2 U23) := Lib.hid (k22.out.grown hg23 k22.out.size (fun j hj => by have e2 := Option.some.inj hj; have := sZ5.out; omega))
                      have hZ623 := Lib.hid (blk_store hZ622.out hZ522.out (by decide) hg23)
                      have hX23 := Lib.hid (ownO_store hX22.out hZ522.out (by decide) (by decide) hg23)
                      have hY23 := Lib.hid (ownRec_store hY22.out hZ522.out (by decide) (by decide) (by decide) (by decide) hg23)
                      clear hg23
                      refine hK.out _ _ (cs'.out _ k23.out) (fun hHeld => ?_)
                      clear hK K
                      try simp only [Act.put]
                      refine wpAnyH_ready (rs := [7]) (by kernel_rfl) (by simp) ?_
                      refine AllReadyH.cons (o := { dst := none, op := Op.store 37 (Operand.tmp 6) (Operand.tmp 54), type := 0, pos := _, after := #[{ on := 5, ground := Ground.data }, { on := 3, ground := Ground.data }, { on := 6, ground := Ground.chain }, { on := 0, ground := Ground.phase }, { on := 1, ground := Ground.phase }, { on := 2, ground := Ground.phase }, { on := 3, ground := Ground.phase }, { on := 4, ground := Ground.phase }, { on := 5, ground := Ground.phase }, { on := 6, ground := Ground.phase }], guard := none }) rfl (fun K hK => ?_) ?_
                      · refine step_store (by rfl) 37 (.tmp 6) (.tmp 54) (by rfl) (cells := q6.cells.toArray) (by rfl) (by rfl) hZ623.out (by rfl) (by kernel_rfl) (cells_one q6) ?_
                        intro U24 hB24 hg24 _
                        replace hB24 := Lib.hid hB24
                        have k24 : Hid (Below w2.heap.size w2 U24) := Lib.hid (k23.out.grown hg24 k23.out.size (fun j hj => by have e2 := Option.some.inj hj; have := sZ6.out; omega))
                        have hB524 := Lib.hid (blk_store hB23.out hZ623.out (by decide) hg24)
                        have hX24 := Lib.hid (ownO_store hX23.out hZ623.out (by decide) (by decide) hg24)
                        have hY24 := Lib.hid (ownRec_store hY23.out hZ623.out (by decide) (by decide) (by decide) (by decide) hg24)
                        clear hg24
                        refine hK.out _ _ (cs'.out _ k24.out) (fun hHeld => ?_)
                        clear hK K
                        refine wpAnyH_done (by kernel_rfl) ?_ _
                        refine NoPanic.normal ?_
                        go_wp2_with fail
                        go_meet
                        exact ⟨_, _, _, _, _, rfl, rfl, hB524, hX24, hB24, hY24, hqe', k24⟩
                      exact AllReadyH.nil
                    exact AllReadyH.nil
                  exact AllReadyH.nil
                refine AllReadyH.cons (o := { dst := some 5, op := Op.alloc 24, type := 0, pos := _, after := #[], guard := none }) rfl (fun K hK => ?_) ?_
                · go_simp
                  obtain ⟨U25, e25⟩ : ∃ U, U20.alloc (.cells #[.int .i64 0, .int .i64 0, .int .i64 0, .bool false, .slice none 0 0] 24) = U := ⟨_, rfl⟩
                  have m25 : Hid (Below U20.heap.size U20 U25) := Lib.hid (by rw [← e25]; exact alloc_bel _ _)
                  have k25 := Lib.hid (k20.out.trans (m25.out.mono k20.out.size))
                  have hX25 := Lib.hid (hX20.out.ext m25.out)
                  have hZ625 := Lib.hid (hZ620.out.below m25.out hZ620.out.lt)
                  have hZ525 : Hid (Blk U25 U20.heap.size 24 (0, 0) [.int .i64 0, .int .i64 0, .int .i64 0, .bool false, .slice none 0 0]) := Lib.hid (by rw [← e25]; exact Blk.new U20 24 (0, 0) #[.int .i64 0, .int .i64 0, .int .i64 0, .bool false, .slice none 0 0])
                  have sZ5 : Hid (w2.heap.size ≤ U20.heap.size) := Lib.hid k20.out.size
                  rw [e25]
                  clear e25
                  refine hK.out _ _ (cs'.out _ k25.out) (fun hHeld => ?_)
                  clear hK K
                  try simp only [Act.put, List.setIfInBounds_toArray, List.set_cons_zero, List.set_cons_succ]
                  refine wpAnyH_ready (rs := [3]) (by kernel_rfl) (by simp) ?_
                  refine AllReadyH.cons (o := { dst := some 54, op := Op.call { callee := Callee.value (Operand.func 10), args := #[Operand.tmp 53], argTypes := #[37] }, type := 37, pos := _, after := #[{ on := 2, ground := Ground.data }, { on := 1, ground := Ground.chain }], guard := none }) rfl (fun K hK => ?_) ?_
                  · refine step_call (by rfl) (.tmp 53) 37 (by rfl) (by rfl) enter10 ?_
                    refine (copy_rec (hq2.out.ext k25.out)).mono ?_
                    rintro e U26 ⟨⟨q6, rfl, hO, hqe⟩, m26⟩
                    have hY26 := Lib.hid (hO.mono k25.out.size)
                    have hqe' := Lib.hid hqe
                    clear hqe
                    replace m26 := Lib.hid m26
                    clear hO
                    have k26 := Lib.hid (k25.out.trans (m26.out.mono k25.out.size))
                    have hX26 := Lib.hid (hX25.out.ext m26.out)
                    have hZ626 := Lib.hid (hZ625.out.below m26.out hZ625.out.lt)
                    have hZ526 := Lib.hid (hZ525.out.below m26.out hZ525.out.lt)
                    refine ⟨_, rfl, ?_⟩
                    refine hK.out _ _ (cs'.out _ k26.out) (fun hHeld => ?_)
                    clear hK K
                    try simp only [Act.put, List.setIfInBounds_toArray, List.set_cons_zero, List.set_cons_succ]
                    refine wpAnyH_ready (rs := [6]) (by kernel_rfl) (by simp) ?_
                    refine AllReadyH.cons (o := { dst := none, op := Op.store 24 (Operand.tmp 5) (Operand.tmp 52), type := 0, pos := _, after := #[{ on := 4, ground := Ground.data }, { on := 1, ground := Ground.data }, { on := 3, ground := Ground.chain }, { on := 0, ground := Ground.phase }, { on := 1, ground := Ground.phase }, { on := 2, ground := Ground.textOnly Departure.lateStores }, { on := 3, ground := Ground.textOnly Departure.lateStoresUnsure }, { on := 4, ground := Ground.phase }, { on := 5, ground := Ground.phase }], guard := none }) rfl (fun K hK => ?_) ?_
                    · refine step_store (by rfl) 24 (.tmp 5) (.tmp 52) (by rfl) (cells := #[.int .i64 sz, .int .i64 hi, .int .i64 ver, .bool d, .slice a5 O.length c5]) (by rfl) (by rfl) hZ526.out (by rfl) (by kernel_rfl) (by first | kernel_rfl | rfl) ?_
                      intro U27 hB27 hg27 _
                      replace hB27 := Lib.hid hB27
                      have k27 : Hid (Below w2.heap.size w2 U27) := Lib.hid (k26.out.grown hg27 k26.out.size (fun j hj => by have e2 := Option.some.inj hj; have := sZ5.out; omega))
                      have hZ627 := Lib.hid (blk_store hZ626.out hZ526.out (by decide) hg27)
                      have hX27 := Lib.hid (ownO_store hX26.out hZ526.out (by decide) (by decide) hg27)
                      have hY27 := Lib.hid (ownRec_store hY26.out hZ526.out (by decide) (by decide) (by decide) (by decide) hg27)
                      clear hg27
                      refine hK.out _ _ (cs'.out _ k27.out) (fun hHeld => ?_)
                      clear hK K
                      try simp only [Act.put]
                      refine wpAnyH_ready (rs := [7]) (by kernel_rfl) (by simp) ?_
                      refine AllReadyH.cons (o := { dst := none, op := Op.store 37 (Operand.tmp 6) (Operand.tmp 54), type := 0, pos := _, after := #[{ on := 5, ground := Ground.data }, { on := 3, ground := Ground.data }, { on := 6, ground := Ground.chain }, { on := 0, ground := Ground.phase }, { on := 1, ground := Ground.phase }, { on := 2, ground := Ground.phase }, { on := 3, ground := Ground.phase }, { on := 4, ground := Ground.phase }, { on := 5, ground := Ground.phase }, { on := 6, ground := Ground.phase }], guard := none }) rfl (fun K hK => ?_) ?_
                      · refine step_store (by rfl) 37 (.tmp 6) (.tmp 54) (by rfl) (cells := q6.cells.toArray) (by rfl) (by rfl) hZ627.out (by rfl) (by kernel_rfl) (cells_one q6) ?_
                        intro U28 hB28 hg28 _
                        replace hB28 := Lib.hid hB28
                        have k28 : Hid (Below w2.heap.size w2 U28) := Lib.hid (k27.out.grown hg28 k27.out.size (fun j hj => by have e2 := Option.some.inj hj; have := sZ6.out; omega))
                        have hB528 := Lib.hid (blk_store hB27.out hZ627.out (by decide) hg28)
                        have hX28 := Lib.hid (ownO_store hX27.out hZ627.out (by decide) (by decide) hg28)
                        have hY28 := Lib.hid (ownRec_store hY27.out hZ627.out (by decide) (by decide) (by decide) (by decide) hg28)
                        clear hg28
                        refine hK.out _ _ (cs'.out _ k28.out) (fun hHeld => ?_)
                        clear hK K
                        refine wpAnyH_done (by kernel_rfl) ?_ _
                        refine NoPanic.normal ?_
                        go_wp2_with fail
                        go_meet
                        exact ⟨_, _, _, _, _, rfl, rfl, hB528, hX28, hB28, hY28, hqe', k28⟩
                      exact AllReadyH.nil
                    exact AllReadyH.nil
                  exact AllReadyH.nil
                exact AllReadyH.nil
              exact AllReadyH.nil
            refine AllReadyH.cons (o := { dst := some 5, op := Op.alloc 24, type := 0, pos := _, after := #[], guard := none }) rfl (fun K hK => ?_) ?_
            · go_simp
              obtain ⟨U29, e29⟩ : ∃ U, U0.alloc (.cells #[.int .i64 0, .int .i64 0, .int .i64 0, .bool false, .slice none 0 0] 24) = U := ⟨_, rfl⟩
              have m29 : Hid (Below U0.heap.size U0 U29) := Lib.hid (by rw [← e29]; exact alloc_bel _ _)
              have k29 := Lib.hid (k0.out.trans (m29.out.mono k0.out.size))
              have hZ529 : Hid (Blk U29 U0.heap.size 24 (0, 0) [.int .i64 0, .int .i64 0, .int .i64 0, .bool false, .slice none 0 0]) := Lib.hid (by rw [← e29]; exact Blk.new U0 24 (0, 0) #[.int .i64 0, .int .i64 0, .int .i64 0, .bool false, .slice none 0 0])
              have sZ5 : Hid (w2.heap.size ≤ U0.heap.size) := Lib.hid k0.out.size
              rw [e29]
              clear e29
              refine hK.out _ _ (cs'.out _ k29.out) (fun hHeld => ?_)
              clear hK K
              try simp only [Act.put, List.setIfInBounds_toArray, List.set_cons_zero, List.set_cons_succ]
              refine wpAnyH_ready (rs := [1, 5]) (by kernel_rfl) (by simp) ?_
              refine AllReadyH.cons (o := { dst := some 52, op := Op.call { callee := Callee.value (Operand.func 9), args := #[Operand.tmp 51], argTypes := #[24] }, type := 24, pos := _, after := #[{ on := 0, ground := Ground.data }], guard := none }) rfl (fun K hK => ?_) ?_
              · refine step_call (by rfl) (.tmp 51) 24 (by rfl) (by rfl) enter9 ?_
                refine (copy_edns (hO2.out.ext k29.out) hn32.out hd40.out sz hi ver d).mono ?_
                rintro e U30 ⟨⟨v5, rfl, hO⟩, m30⟩
                obtain ⟨a5, c5, rfl⟩ := hO.shape
                have hX30 := Lib.hid (hO.mono k29.out.size)
                replace m30 := Lib.hid m30
                clear hO
                have k30 := Lib.hid (k29.out.trans (m30.out.mono k29.out.size))
                have hZ530 := Lib.hid (hZ529.out.below m30.out hZ529.out.lt)
                refine ⟨_, rfl, ?_⟩
                refine hK.out _ _ (cs'.out _ k30.out) (fun hHeld => ?_)
                clear hK K
                try simp only [Act.put, List.setIfInBounds_toArray, List.set_cons_zero, List.set_cons_succ]
                refine wpAnyH_ready (rs := [3, 5]) (by kernel_rfl) (by simp) ?_
                refine AllReadyH.cons (o := { dst := some 54, op := Op.call { callee := Callee.value (Operand.func 10), args := #[Operand.tmp 53], argTypes := #[37] }, type := 37, pos := _, after := #[{ on := 2, ground := Ground.data }, { on := 1, ground := Ground.chain }], guard := none }) rfl (fun K hK => ?_) ?_
                · refine step_call (by rfl) (.tmp 53) 37 (by rfl) (by rfl) enter10 ?_
                  refine (copy_rec (hq2.out.ext k30.out)).mono ?_
                  rintro e U31 ⟨⟨q6, rfl, hO, hqe⟩, m31⟩
                  have hY31 := Lib.hid (hO.mono k30.out.size)
                  have hqe' := Lib.hid hqe
                  clear hqe
                  replace m31 := Lib.hid m31
                  clear hO
                  have k31 := Lib.hid (k30.out.trans (m31.out.mono k30.out.size))
                  have hZ531 := Lib.hid (hZ530.out.below m31.out hZ530.out.lt)
                  have hX31 := Lib.hid (hX30.out.ext m31.out)
                  refine ⟨_, rfl, ?_⟩
                  refine hK.out _ _ (cs'.out _ k31.out) (fun hHeld => ?_)
                  clear hK K
                  try simp only [Act.put, List.setIfInBounds_toArray, List.set_cons_zero, List.set_cons_succ]
                  refine wpAnyH_ready (rs := [5]) (by kernel_rfl) (by simp) ?_
                  refine AllReadyH.cons (o := { dst := some 6, op := Op.alloc 37, type := 0, pos := _, after := #[], guard := none }) rfl (fun K hK => ?_) ?_
                  · go_simp
                    obtain ⟨U32, e32⟩ : ∃ U, U31.alloc (.cells #[.slice none 0 0, .int .u16 0, .int .u16 0, .int .u32 0, .slice none 0 0, .slice none 0 0, .slice none 0 0, .slice none 0 0] 37) = U := ⟨_, rfl⟩
                    have m32 : Hid (Below U31.heap.size U31 U32) := Lib.hid (by rw [← e32]; exact alloc_bel _ _)
                    have k32 := Lib.hid (k31.out.trans (m32.out.mono k31.out.size))
                    have hZ532 := Lib.hid (hZ531.out.below m32.out hZ531.out.lt)
                    have hX32 := Lib.hid (hX31.out.ext m32.out)
                    have hY32 := Lib.hid (hY31.out.ext m32.out)
                    have hZ632 : Hid (Blk U32 U31.heap.size 37 (0, 0) [.slice none 0 0, .int .u16 0, .int .u16 0, .int .u32 0, .slice none 0 0, .slice none 0 0, .slice none 0 0, .slice none 0 0]) := Lib.hid (by rw [← e32]; exact Blk.new U31 37 (0, 0) #[.slice none 0 0, .int .u16 0, .int .u16 0, .int .u32 0, .slice none 0 0, .slice none 0 0, .slice none 0 0, .slice none 0 0])
                    have sZ6 : Hid (w2.heap.size ≤ U31.heap.size) := Lib.hid k31.out.size
                    rw [e32]
                    clear e32
                    refine hK.out _ _ (cs'.out _ k32.out) (fun hHeld => ?_)
                    clear hK K
                    try simp only [Act.put, List.setIfInBounds_toArray, List.set_cons_zero, List.set_cons_succ]
                    refine wpAnyH_ready (rs := [6]) (by kernel_rfl) (by simp) ?_
                    refine AllReadyH.cons (o := { dst := none, op := Op.store 24 (Operand.tmp 5) (Operand.tmp 52), type := 0, pos := _, after := #[{ on := 4, ground := Ground.data }, { on := 1, ground := Ground.data }, { on := 3, ground := Ground.chain }, { on := 0, ground := Ground.phase }, { on := 1, ground := Ground.phase }, { on := 2, ground := Ground.textOnly Departure.lateStores }, { on := 3, ground := Ground.textOnly Departure.lateStoresUnsure }, { on := 4, ground := Ground.phase }, { on := 5, ground := Ground.phase }], guard := none }) rfl (fun K hK => ?_) ?_
                    · refine step_store (by rfl) 24 (.tmp 5) (.tmp 52) (by rfl) (cells := #[.int .i64 sz, .int .i64 hi, .int .i64 ver, .bool d, .slice a5 O.length c5]) (by rfl) (by rfl) hZ532.out (by rfl) (by kernel_rfl) (by first | kernel_rfl | rfl) ?_
                      intro U33 hB33 hg33 _
                      replace hB33 := Lib.hid hB33
                      have k33 : Hid (Below w2.heap.size w2 U33) := Lib.hid (k32.out.grown hg33 k32.out.size (fun j hj => by have e2 := Option.some.inj hj; have := sZ5.out; omega))
                      have hZ633 := Lib.hid (blk_store hZ632.out hZ532.out (by decide) hg33)
                      have hX33 := Lib.hid (ownO_store hX32.out hZ532.out (by decide) (by decide) hg33)
                      have hY33 := Lib.hid (ownRec_store hY32.out hZ532.out (by decide) (by decide) (by decide) (by decide) hg33)
                      clear hg33
                      refine hK.out _ _ (cs'.out _ k33.out) (fun hHeld => ?_)
                      clear hK K
                      try simp only [Act.put]
                      refine wpAnyH_ready (rs := [7]) (by kernel_rfl) (by simp) ?_
                      refine AllReadyH.cons (o := { dst := none, op := Op.store 37 (Operand.tmp 6) (Operand.tmp 54), type := 0, pos := _, after := #[{ on := 5, ground := Ground.data }, { on := 3, ground := Ground.data }, { on := 6, ground := Ground.chain }, { on := 0, ground := Ground.phase }, { on := 1, ground := Ground.phase }, { on := 2, ground := Ground.phase }, { on := 3, ground := Ground.phase }, { on := 4, ground := Ground.phase }, { on := 5, ground := Ground.phase }, { on := 6, ground := Ground.phase }], guard := none }) rfl (fun K hK => ?_) ?_
                      · refine step_store (by rfl) 37 (.tmp 6) (.tmp 54) (by rfl) (cells := q6.cells.toArray) (by rfl) (by rfl) hZ633.out (by rfl) (by kernel_rfl) (cells_one q6) ?_
                        intro U34 hB34 hg34 _
                        replace hB34 := Lib.hid hB34
                        have k34 : Hid (Below w2.heap.size w2 U34) := Lib.hid (k33.out.grown hg34 k33.out.size (fun j hj => by have e2 := Option.some.inj hj; have := sZ6.out; omega))
                        have hB534 := Lib.hid (blk_store hB33.out hZ633.out (by decide) hg34)
                        have hX34 := Lib.hid (ownO_store hX33.out hZ633.out (by decide) (by decide) hg34)
                        have hY34 := Lib.hid (ownRec_store hY33.out hZ633.out (by decide) (by decide) (by decide) (by decide) hg34)
                        clear hg34
                        refine hK.out _ _ (cs'.out _ k34.out) (fun hHeld => ?_)
                        clear hK K
                        refine wpAnyH_done (by kernel_rfl) ?_ _
                        refine NoPanic.normal ?_
                        go_wp2_with fail
                        go_meet
                        exact ⟨_, _, _, _, _, rfl, rfl, hB534, hX34, hB34, hY34, hqe', k34⟩
                      exact AllReadyH.nil
                    exact AllReadyH.nil
                  exact AllReadyH.nil
                refine AllReadyH.cons (o := { dst := some 6, op := Op.alloc 37, type := 0, pos := _, after := #[], guard := none }) rfl (fun K hK => ?_) ?_
                · go_simp
                  obtain ⟨U35, e35⟩ : ∃ U, U30.alloc (.cells #[.slice none 0 0, .int .u16 0, .int .u16 0, .int .u32 0, .slice none 0 0, .slice none 0 0, .slice none 0 0, .slice none 0 0] 37) = U := ⟨_, rfl⟩
                  have m35 : Hid (Below U30.heap.size U30 U35) := Lib.hid (by rw [← e35]; exact alloc_bel _ _)
                  have k35 := Lib.hid (k30.out.trans (m35.out.mono k30.out.size))
                  have hZ535 := Lib.hid (hZ530.out.below m35.out hZ530.out.lt)
                  have hX35 := Lib.hid (hX30.out.ext m35.out)
                  have hZ635 : Hid (Blk U35 U30.heap.size 37 (0, 0) [.slice none 0 0, .int .u16 0, .int .u16 0, .int .u32 0, .slice none 0 0, .slice none 0 0, .slice none 0 0, .slice none 0 0]) := Lib.hid (by rw [← e35]; exact Blk.new U30 37 (0, 0) #[.slice none 0 0, .int .u16 0, .int .u16 0, .int .u32 0, .slice none 0 0, .slice none 0 0, .slice none 0 0, .slice none 0 0])
                  have sZ6 : Hid (w2.heap.size ≤ U30.heap.size) := Lib.hid k30.out.size
                  rw [e35]
                  clear e35
                  refine hK.out _ _ (cs'.out _ k35.out) (fun hHeld => ?_)
                  clear hK K
                  try simp only [Act.put, List.setIfInBounds_toArray, List.set_cons_zero, List.set_cons_succ]
                  refine wpAnyH_ready (rs := [3]) (by kernel_rfl) (by simp) ?_
                  refine AllReadyH.cons (o := { dst := some 54, op := Op.call { callee := Callee.value (Operand.func 10), args := #[Operand.tmp 53], argTypes := #[37] }, type := 37, pos := _, after := #[{ on := 2, ground := Ground.data }, { on := 1, ground := Ground.chain }], guard := none }) rfl (fun K hK => ?_) ?_
                  · refine step_call (by rfl) (.tmp 53) 37 (by rfl) (by rfl) enter10 ?_
                    refine (copy_rec (hq2.out.ext k35.out)).mono ?_
                    rintro e U36 ⟨⟨q6, rfl, hO, hqe⟩, m36⟩
                    have hY36 := Lib.hid (hO.mono k35.out.size)
                    have hqe' := Lib.hid hqe
                    clear hqe
                    replace m36 := Lib.hid m36
                    clear hO
                    have k36 := Lib.hid (k35.out.trans (m36.out.mono k35.out.size))
                    have hZ536 := Lib.hid (hZ535.out.below m36.out hZ535.out.lt)
                    have hX36 := Lib.hid (hX35.out.ext m36.out)
                    have hZ636 := Lib.hid (hZ635.out.below m36.out hZ635.out.lt)
                    refine ⟨_, rfl, ?_⟩
                    refine hK.out _ _ (cs'.out _ k36.out) (fun hHeld => ?_)
                    clear hK K
                    try simp only [Act.put, List.setIfInBounds_toArray, List.set_cons_zero, List.set_cons_succ]
                    refine wpAnyH_ready (rs := [6]) (by kernel_rfl) (by simp) ?_
                    refine AllReadyH.cons (o := { dst := none, op := Op.store 24 (Operand.tmp 5) (Operand.tmp 52), type := 0, pos := _, after := #[{ on := 4, ground := Ground.data }, { on := 1, ground := Ground.data }, { on := 3, ground := Ground.chain }, { on := 0, ground := Ground.phase }, { on := 1, ground := Ground.phase }, { on := 2, ground := Ground.textOnly Departure.lateStores }, { on := 3, ground := Ground.textOnly Departure.lateStoresUnsure }, { on := 4, ground := Ground.phase }, { on := 5, ground := Ground.phase }], guard := none }) rfl (fun K hK => ?_) ?_
                    · refine step_store (by rfl) 24 (.tmp 5) (.tmp 52) (by rfl) (cells := #[.int .i64 sz, .int .i64 hi, .int .i64 ver, .bool d, .slice a5 O.length c5]) (by rfl) (by rfl) hZ536.out (by rfl) (by kernel_rfl) (by first | kernel_rfl | rfl) ?_
                      intro U37 hB37 hg37 _
                      replace hB37 := Lib.hid hB37
                      have k37 : Hid (Below w2.heap.size w2 U37) := Lib.hid (k36.out.grown hg37 k36.out.size (fun j hj => by have e2 := Option.some.inj hj; have := sZ5.out; omega))
                      have hZ637 := Lib.hid (blk_store hZ636.out hZ536.out (by decide) hg37)
                      have hX37 := Lib.hid (ownO_store hX36.out hZ536.out (by decide) (by decide) hg37)
                      have hY37 := Lib.hid (ownRec_store hY36.out hZ536.out (by decide) (by decide) (by decide) (by decide) hg37)
                      clear hg37
                      refine hK.out _ _ (cs'.out _ k37.out) (fun hHeld => ?_)
                      clear hK K
                      try simp only [Act.put]
                      refine wpAnyH_ready (rs := [7]) (by kernel_rfl) (by simp) ?_
                      refine AllReadyH.cons (o := { dst := none, op := Op.store 37 (Operand.tmp 6) (Operand.tmp 54), type := 0, pos := _, after := #[{ on := 5, ground := Ground.data }, { on := 3, ground := Ground.data }, { on := 6, ground := Ground.chain }, { on := 0, ground := Ground.phase }, { on := 1, ground := Ground.phase }, { on := 2, ground := Ground.phase }, { on := 3, ground := Ground.phase }, { on := 4, ground := Ground.phase }, { on := 5, ground := Ground.phase }, { on := 6, ground := Ground.phase }], guard := none }) rfl (fun K hK => ?_) ?_
                      · refine step_store (by rfl) 37 (.tmp 6) (.tmp 54) (by rfl) (cells := q6.cells.toArray) (by rfl) (by rfl) hZ637.out (by rfl) (by kernel_rfl) (cells_one q6) ?_
                        intro U38 hB38 hg38 _
                        replace hB38 := Lib.hid hB38
                        have k38 : Hid (Below w2.heap.size w2 U38) := Lib.hid (k37.out.grown hg38 k37.out.size (fun j hj => by have e2 := Option.some.inj hj; have := sZ6.out; omega))
                        have hB538 := Lib.hid (blk_store hB37.out hZ637.out (by decide) hg38)
                        have hX38 := Lib.hid (ownO_store hX37.out hZ637.out (by decide) (by decide) hg38)
                        have hY38 := Lib.hid (ownRec_store hY37.out hZ637.out (by decide) (by decide) (by decide) (by decide) hg38)
                        clear hg38
                        refine hK.out _ _ (cs'.out _ k38.out) (fun hHeld => ?_)
                        clear hK K
                        refine wpAnyH_done (by kernel_rfl) ?_ _
                        refine NoPanic.normal ?_
                        go_wp2_with fail
                        go_meet
                        exact ⟨_, _, _, _, _, rfl, rfl, hB538, hX38, hB38, hY38, hqe', k38⟩
                      exact AllReadyH.nil
                    exact AllReadyH.nil
                  exact AllReadyH.nil
                exact AllReadyH.nil
              refine AllReadyH.cons (o := { dst := some 6, op := Op.alloc 37, type := 0, pos := _, after := #[], guard := none }) rfl (fun K hK => ?_) ?_
              · go_simp
                obtain ⟨U39, e39⟩ : ∃ U, U29.alloc (.cells #[.slice none 0 0, .int .u16 0, .int .u16 0, .int .u32 0, .slice none 0 0, .slice none 0 0, .slice none 0 0, .slice none 0 0] 37) = U := ⟨_, rfl⟩
                have m39 : Hid (Below U29.heap.size U29 U39) := Lib.hid (by rw [← e39]; exact alloc_bel _ _)
                have k39 := Lib.hid (k29.out.trans (m39.out.mono k29.out.size))
                have hZ539 := Lib.hid (hZ529.out.below m39.out hZ529.out.lt)
                have hZ639 : Hid (Blk U39 U29.heap.size 37 (0, 0) [.slice none 0 0, .int .u16 0, .int .u16 0, .int .u32 0, .slice none 0 0, .slice none 0 0, .slice none 0 0, .slice none 0 0]) := Lib.hid (by rw [← e39]; exact Blk.new U29 37 (0, 0) #[.slice none 0 0, .int .u16 0, .int .u16 0, .int .u32 0, .slice none 0 0, .slice none 0 0, .slice none 0 0, .slice none 0 0])
                have sZ6 : Hid (w2.heap.size ≤ U29.heap.size) := Lib.hid k29.out.size
                rw [e39]
                clear e39
                refine hK.out _ _ (cs'.out _ k39.out) (fun hHeld => ?_)
                clear hK K
                try simp only [Act.put, List.setIfInBounds_toArray, List.set_cons_zero, List.set_cons_succ]
                refine wpAnyH_ready (rs := [1]) (by kernel_rfl) (by simp) ?_
                refine AllReadyH.cons (o := { dst := some 52, op := Op.call { callee := Callee.value (Operand.func 9), args := #[Operand.tmp 51], argTypes := #[24] }, type := 24, pos := _, after := #[{ on := 0, ground := Ground.data }], guard := none }) rfl (fun K hK => ?_) ?_
                · refine step_call (by rfl) (.tmp 51) 24 (by rfl) (by rfl) enter9 ?_
                  refine (copy_edns (hO2.out.ext k39.out) hn32.out hd40.out sz hi ver d).mono ?_
                  rintro e U40 ⟨⟨v5, rfl, hO⟩, m40⟩
                  obtain ⟨a5, c5, rfl⟩ := hO.shape
                  have hX40 := Lib.hid (hO.mono k39.out.size)
                  replace m40 := Lib.hid m40
                  clear hO
                  have k40 := Lib.hid (k39.out.trans (m40.out.mono k39.out.size))
                  have hZ540 := Lib.hid (hZ539.out.below m40.out hZ539.out.lt)
                  have hZ640 := Lib.hid (hZ639.out.below m40.out hZ639.out.lt)
                  refine ⟨_, rfl, ?_⟩
                  refine hK.out _ _ (cs'.out _ k40.out) (fun hHeld => ?_)
                  clear hK K
                  try simp only [Act.put, List.setIfInBounds_toArray, List.set_cons_zero, List.set_cons_succ]
                  refine wpAnyH_ready (rs := [3]) (by kernel_rfl) (by simp) ?_
                  refine AllReadyH.cons (o := { dst := some 54, op := Op.call { callee := Callee.value (Operand.func 10), args := #[Operand.tmp 53], argTypes := #[37] }, type := 37, pos := _, after := #[{ on := 2, ground := Ground.data }, { on := 1, ground := Ground.chain }], guard := none }) rfl (fun K hK => ?_) ?_
                  · refine step_call (by rfl) (.tmp 53) 37 (by rfl) (by rfl) enter10 ?_
                    refine (copy_rec (hq2.out.ext k40.out)).mono ?_
                    rintro e U41 ⟨⟨q6, rfl, hO, hqe⟩, m41⟩
                    have hY41 := Lib.hid (hO.mono k40.out.size)
                    have hqe' := Lib.hid hqe
                    clear hqe
                    replace m41 := Lib.hid m41
                    clear hO
                    have k41 := Lib.hid (k40.out.trans (m41.out.mono k40.out.size))
                    have hZ541 := Lib.hid (hZ540.out.below m41.out hZ540.out.lt)
                    have hZ641 := Lib.hid (hZ640.out.below m41.out hZ640.out.lt)
                    have hX41 := Lib.hid (hX40.out.ext m41.out)
                    refine ⟨_, rfl, ?_⟩
                    refine hK.out _ _ (cs'.out _ k41.out) (fun hHeld => ?_)
                    clear hK K
                    try simp only [Act.put, List.setIfInBounds_toArray, List.set_cons_zero, List.set_cons_succ]
                    refine wpAnyH_ready (rs := [6]) (by kernel_rfl) (by simp) ?_
                    refine AllReadyH.cons (o := { dst := none, op := Op.store 24 (Operand.tmp 5) (Operand.tmp 52), type := 0, pos := _, after := #[{ on := 4, ground := Ground.data }, { on := 1, ground := Ground.data }, { on := 3, ground := Ground.chain }, { on := 0, ground := Ground.phase }, { on := 1, ground := Ground.phase }, { on := 2, ground := Ground.textOnly Departure.lateStores }, { on := 3, ground := Ground.textOnly Departure.lateStoresUnsure }, { on := 4, ground := Ground.phase }, { on := 5, ground := Ground.phase }], guard := none }) rfl (fun K hK => ?_) ?_
                    · refine step_store (by rfl) 24 (.tmp 5) (.tmp 52) (by rfl) (cells := #[.int .i64 sz, .int .i64 hi, .int .i64 ver, .bool d, .slice a5 O.length c5]) (by rfl) (by rfl) hZ541.out (by rfl) (by kernel_rfl) (by first | kernel_rfl | rfl) ?_
                      intro U42 hB42 hg42 _
                      replace hB42 := Lib.hid hB42
                      have k42 : Hid (Below w2.heap.size w2 U42) := Lib.hid (k41.out.grown hg42 k41.out.size (fun j hj => by have e2 := Option.some.inj hj; have := sZ5.out; omega))
                      have hZ642 := Lib.hid (blk_store hZ641.out hZ541.out (by decide) hg42)
                      have hX42 := Lib.hid (ownO_store hX41.out hZ541.out (by decide) (by decide) hg42)
                      have hY42 := Lib.hid (ownRec_store hY41.out hZ541.out (by decide) (by decide) (by decide) (by decide) hg42)
                      clear hg42
                      refine hK.out _ _ (cs'.out _ k42.out) (fun hHeld => ?_)
                      clear hK K
                      try simp only [Act.put]
                      refine wpAnyH_ready (rs := [7]) (by kernel_rfl) (by simp) ?_
                      refine AllReadyH.cons (o := { dst := none, op := Op.store 37 (Operand.tmp 6) (Operand.tmp 54), type := 0, pos := _, after := #[{ on := 5, ground := Ground.data }, { on := 3, ground := Ground.data }, { on := 6, ground := Ground.chain }, { on := 0, ground := Ground.phase }, { on := 1, ground := Ground.phase }, { on := 2, ground := Ground.phase }, { on := 3, ground := Ground.phase }, { on := 4, ground := Ground.phase }, { on := 5, ground := Ground.phase }, { on := 6, ground := Ground.phase }], guard := none }) rfl (fun K hK => ?_) ?_
                      · refine step_store (by rfl) 37 (.tmp 6) (.tmp 54) (by rfl) (cells := q6.cells.toArray) (by rfl) (by rfl) hZ642.out (by rfl) (by kernel_rfl) (cells_one q6) ?_
                        intro U43 hB43 hg43 _
                        replace hB43 := Lib.hid hB43
                        have k43 : Hid (Below w2.heap.size w2 U43) := Lib.hid (k42.out.grown hg43 k42.out.size (fun j hj => by have e2 := Option.some.inj hj; have := sZ6.out; omega))
                        have hB543 := Lib.hid (blk_store hB42.out hZ642.out (by decide) hg43)
                        have hX43 := Lib.hid (ownO_store hX42.out hZ642.out (by decide) (by decide) hg43)
                        have hY43 := Lib.hid (ownRec_store hY42.out hZ642.out (by decide) (by decide) (by decide) (by decide) hg43)
                        clear hg43
                        refine hK.out _ _ (cs'.out _ k43.out) (fun hHeld => ?_)
                        clear hK K
                        refine wpAnyH_done (by kernel_rfl) ?_ _
                        refine NoPanic.normal ?_
                        go_wp2_with fail
                        go_meet
                        exact ⟨_, _, _, _, _, rfl, rfl, hB543, hX43, hB43, hY43, hqe', k43⟩
                      exact AllReadyH.nil
                    exact AllReadyH.nil
                  exact AllReadyH.nil
                exact AllReadyH.nil
              exact AllReadyH.nil
            refine AllReadyH.cons (o := { dst := some 6, op := Op.alloc 37, type := 0, pos := _, after := #[], guard := none }) rfl (fun K hK => ?_) ?_
            · go_simp
              obtain ⟨U44, e44⟩ : ∃ U, U0.alloc (.cells #[.slice none 0 0, .int .u16 0, .int .u16 0, .int .u32 0, .slice none 0 0, .slice none 0 0, .slice none 0 0, .slice none 0 0] 37) = U := ⟨_, rfl⟩
              have m44 : Hid (Below U0.heap.size U0 U44) := Lib.hid (by rw [← e44]; exact alloc_bel _ _)
              have k44 := Lib.hid (k0.out.trans (m44.out.mono k0.out.size))
              have hZ644 : Hid (Blk U44 U0.heap.size 37 (0, 0) [.slice none 0 0, .int .u16 0, .int .u16 0, .int .u32 0, .slice none 0 0, .slice none 0 0, .slice none 0 0, .slice none 0 0]) := Lib.hid (by rw [← e44]; exact Blk.new U0 37 (0, 0) #[.slice none 0 0, .int .u16 0, .int .u16 0, .int .u32 0, .slice none 0 0, .slice none 0 0, .slice none 0 0, .slice none 0 0])
              have sZ6 : Hid (w2.heap.size ≤ U0.heap.size) := Lib.hid k0.out.size
              rw [e44]
              clear e44
              refine hK.out _ _ (cs'.out _ k44.out) (fun hHeld => ?_)
              clear hK K
              try simp only [Act.put, List.setIfInBounds_toArray, List.set_cons_zero, List.set_cons_succ]
              refine wpAnyH_ready (rs := [1, 4]) (by kernel_rfl) (by simp) ?_
              refine AllReadyH.cons (o := { dst := some 52, op := Op.call { callee := Callee.value (Operand.func 9), args := #[Operand.tmp 51], argTypes := #[24] }, type := 24, pos := _, after := #[{ on := 0, ground := Ground.data }], guard := none }) rfl (fun K hK => ?_) ?_
              · refine step_call (by rfl) (.tmp 51) 24 (by rfl) (by rfl) enter9 ?_
                refine (copy_edns (hO2.out.ext k44.out) hn32.out hd40.out sz hi ver d).mono ?_
                rintro e U45 ⟨⟨v5, rfl, hO⟩, m45⟩
                obtain ⟨a5, c5, rfl⟩ := hO.shape
                have hX45 := Lib.hid (hO.mono k44.out.size)
                replace m45 := Lib.hid m45
                clear hO
                have k45 := Lib.hid (k44.out.trans (m45.out.mono k44.out.size))
                have hZ645 := Lib.hid (hZ644.out.below m45.out hZ644.out.lt)
                refine ⟨_, rfl, ?_⟩
                refine hK.out _ _ (cs'.out _ k45.out) (fun hHeld => ?_)
                clear hK K
                try simp only [Act.put, List.setIfInBounds_toArray, List.set_cons_zero, List.set_cons_succ]
                refine wpAnyH_ready (rs := [3, 4]) (by kernel_rfl) (by simp) ?_
                refine AllReadyH.cons (o := { dst := some 54, op := Op.call { callee := Callee.value (Operand.func 10), args := #[Operand.tmp 53], argTypes := #[37] }, type := 37, pos := _, after := #[{ on := 2, ground := Ground.data }, { on := 1, ground := Ground.chain }], guard := none }) rfl (fun K hK => ?_) ?_
                · refine step_call (by rfl) (.tmp 53) 37 (by rfl) (by rfl) enter10 ?_
                  refine (copy_rec (hq2.out.ext k45.out)).mono ?_
                  rintro e U46 ⟨⟨q6, rfl, hO, hqe⟩, m46⟩
                  have hY46 := Lib.hid (hO.mono k45.out.size)
                  have hqe' := Lib.hid hqe
                  clear hqe
                  replace m46 := Lib.hid m46
                  clear hO
                  have k46 := Lib.hid (k45.out.trans (m46.out.mono k45.out.size))
                  have hZ646 := Lib.hid (hZ645.out.below m46.out hZ645.out.lt)
                  have hX46 := Lib.hid (hX45.out.ext m46.out)
                  refine ⟨_, rfl, ?_⟩
                  refine hK.out _ _ (cs'.out _ k46.out) (fun hHeld => ?_)
                  clear hK K
                  try simp only [Act.put, List.setIfInBounds_toArray, List.set_cons_zero, List.set_cons_succ]
                  refine wpAnyH_ready (rs := [4]) (by kernel_rfl) (by simp) ?_
                  refine AllReadyH.cons (o := { dst := some 5, op := Op.alloc 24, type := 0, pos := _, after := #[], guard := none }) rfl (fun K hK => ?_) ?_
                  · go_simp
                    obtain ⟨U47, e47⟩ : ∃ U, U46.alloc (.cells #[.int .i64 0, .int .i64 0, .int .i64 0, .bool false, .slice none 0 0] 24) = U := ⟨_, rfl⟩
                    have m47 : Hid (Below U46.heap.size U46 U47) := Lib.hid (by rw [← e47]; exact alloc_bel _ _)
                    have k47 := Lib.hid (k46.out.trans (m47.out.mono k46.out.size))
                    have hZ647 := Lib.hid (hZ646.out.below m47.out hZ646.out.lt)
                    have hX47 := Lib.hid (hX46.out.ext m47.out)
                    have hY47 := Lib.hid (hY46.out.ext m47.out)
                    have hZ547 : Hid (Blk U47 U46.heap.size 24 (0, 0) [.int .i64 0, .int .i64 0, .int .i64 0, .bool false, .slice none 0 0]) := Lib.hid (by rw [← e47]; exact Blk.new U46 24 (0, 0) #[.int .i64 0, .int .i64 0, .int .i64 0, .bool false, .slice none 0 0])
                    have sZ5 : Hid (w2.heap.size ≤ U46.heap.size) := Lib.hid k46.out.size
                    rw [e47]
                    clear e47
                    refine hK.out _ _ (cs'.out _ k47.out) (fun hHeld => ?_)
                    clear hK K
                    try simp only [Act.put, List.setIfInBounds_toArray, List.set_cons_zero, List.set_cons_succ]
                    refine wpAnyH_ready (rs := [6]) (by kernel_rfl) (by simp) ?_
                    refine AllReadyH.cons (o := { dst := none, op := Op.store 24 (Operand.tmp 5) (Operand.tmp 52), type := 0, pos := _, after := #[{ on := 4, ground := Ground.data }, { on := 1, ground := Ground.data }, { on := 3, ground := Ground.chain }, { on := 0, ground := Ground.phase }, { on := 1, ground := Ground.phase }, { on := 2, ground := Ground.textOnly Departure.lateStores }, { on := 3, ground := Ground.textOnly Departure.lateStoresUnsure }, { on := 4, ground := Ground.phase }, { on := 5, ground := Ground.phase }], guard := none }) rfl (fun K hK => ?_) ?_
                    · refine step_store (by rfl) 24 (.tmp 5) (.tmp 52) (by rfl) (cells := #[.int .i64 sz, .int .i64 hi, .int .i64 ver, .bool d, .slice a5 O.length c5]) (by rfl) (by rfl) hZ547.out (by rfl) (by kernel_rfl) (by first | kernel_rfl | rfl) ?_
                      intro U48 hB48 hg48 _
                      replace hB48 := Lib.hid hB48
                      have k48 : Hid (Below w2.heap.size w2 U48) := Lib.hid (k47.out.grown hg48 k47.out.size (fun j hj => by have e2 := Option.some.inj hj; have := sZ5.out; omega))
                      have hZ648 := Lib.hid (blk_store hZ647.out hZ547.out (by decide) hg48)
                      have hX48 := Lib.hid (ownO_store hX47.out hZ547.out (by decide) (by decide) hg48)
                      have hY48 := Lib.hid (ownRec_store hY47.out hZ547.out (by decide) (by decide) (by decide) (by decide) hg48)
                      clear hg48
                      refine hK.out _ _ (cs'.out _ k48.out) (fun hHeld => ?_)
                      clear hK K
                      try simp only [Act.put]
                      refine wpAnyH_ready (rs := [7]) (by kernel_rfl) (by simp) ?_
                      refine AllReadyH.cons (o := { dst := none, op := Op.store 37 (Operand.tmp 6) (Operand.tmp 54), type := 0, pos := _, after := #[{ on := 5, ground := Ground.data }, { on := 3, ground := Ground.data }, { on := 6, ground := Ground.chain }, { on := 0, ground := Ground.phase }, { on := 1, ground := Ground.phase }, { on := 2, ground := Ground.phase }, { on := 3, ground := Ground.phase }, { on := 4, ground := Ground.phase }, { on := 5, ground := Ground.phase }, { on := 6, ground := Ground.phase }], guard := none }) rfl (fun K hK => ?_) ?_
                      · refine step_store (by rfl) 37 (.tmp 6) (.tmp 54) (by rfl) (cells := q6.cells.toArray) (by rfl) (by rfl) hZ648.out (by rfl) (by kernel_rfl) (cells_one q6) ?_
                        intro U49 hB49 hg49 _
                        replace hB49 := Lib.hid hB49
                        have k49 : Hid (Below w2.heap.size w2 U49) := Lib.hid (k48.out.grown hg49 k48.out.size (fun j hj => by have e2 := Option.some.inj hj; have := sZ6.out; omega))
                        have hB549 := Lib.hid (blk_store hB48.out hZ648.out (by decide) hg49)
                        have hX49 := Lib.hid (ownO_store hX48.out hZ648.out (by decide) (by decide) hg49)
                        have hY49 := Lib.hid (ownRec_store hY48.out hZ648.out (by decide) (by decide) (by decide) (by decide) hg49)
                        clear hg49
                        refine hK.out _ _ (cs'.out _ k49.out) (fun hHeld => ?_)
                        clear hK K
                        refine wpAnyH_done (by kernel_rfl) ?_ _
                        refine NoPanic.normal ?_
                        go_wp2_with fail
                        go_meet
                        exact ⟨_, _, _, _, _, rfl, rfl, hB549, hX49, hB49, hY49, hqe', k49⟩
                      exact AllReadyH.nil
                    exact AllReadyH.nil
                  exact AllReadyH.nil
                refine AllReadyH.cons (o := { dst := some 5, op := Op.alloc 24, type := 0, pos := _, after := #[], guard := none }) rfl (fun K hK => ?_) ?_
                · go_simp
                  obtain ⟨U50, e50⟩ : ∃ U, U45.alloc (.cells #[.int .i64 0, .int .i64 0, .int .i64 0, .bool false, .slice none 0 0] 24) = U := ⟨_, rfl⟩
                  have m50 : Hid (Below U45.heap.size U45 U50) := Lib.hid (by rw [← e50]; exact alloc_bel _ _)
                  have k50 := Lib.hid (k45.out.trans (m50.out.mono k45.out.size))
                  have hZ650 := Lib.hid (hZ645.out.below m50.out hZ645.out.lt)
                  have hX50 := Lib.hid (hX45.out.ext m50.out)
                  have hZ550 : Hid (Blk U50 U45.heap.size 24 (0, 0) [.int .i64 0, .int .i64 0, .int .i64 0, .bool false, .slice none 0 0]) := Lib.hid (by rw [← e50]; exact Blk.new U45 24 (0, 0) #[.int .i64 0, .int .i64 0, .int .i64 0, .bool false, .slice none 0 0])
                  have sZ5 : Hid (w2.heap.size ≤ U45.heap.size) := Lib.hid k45.out.size
                  rw [e50]
                  clear e50
                  refine hK.out _ _ (cs'.out _ k50.out) (fun hHeld => ?_)
                  clear hK K
                  try simp only [Act.put, List.setIfInBounds_toArray, List.set_cons_zero, List.set_cons_succ]
                  refine wpAnyH_ready (rs := [3]) (by kernel_rfl) (by simp) ?_
                  refine AllReadyH.cons (o := { dst := some 54, op := Op.call { callee := Callee.value (Operand.func 10), args := #[Operand.tmp 53], argTypes := #[37] }, type := 37, pos := _, after := #[{ on := 2, ground := Ground.data }, { on := 1, ground := Ground.chain }], guard := none }) rfl (fun K hK => ?_) ?_
                  · refine step_call (by rfl) (.tmp 53) 37 (by rfl) (by rfl) enter10 ?_
                    refine (copy_rec (hq2.out.ext k50.out)).mono ?_
                    rintro e U51 ⟨⟨q6, rfl, hO, hqe⟩, m51⟩
                    have hY51 := Lib.hid (hO.mono k50.out.size)
                    have hqe' := Lib.hid hqe
                    clear hqe
                    replace m51 := Lib.hid m51
                    clear hO
                    have k51 := Lib.hid (k50.out.trans (m51.out.mono k50.out.size))
                    have hZ651 := Lib.hid (hZ650.out.below m51.out hZ650.out.lt)
                    have hX51 := Lib.hid (hX50.out.ext m51.out)
                    have hZ551 := Lib.hid (hZ550.out.below m51.out hZ550.out.lt)
                    refine ⟨_, rfl, ?_⟩
                    refine hK.out _ _ (cs'.out _ k51.out) (fun hHeld => ?_)
                    clear hK K
                    try simp only [Act.put, List.setIfInBounds_toArray, List.set_cons_zero, List.set_cons_succ]
                    refine wpAnyH_ready (rs := [6]) (by kernel_rfl) (by simp) ?_
                    refine AllReadyH.cons (o := { dst := none, op := Op.store 24 (Operand.tmp 5) (Operand.tmp 52), type := 0, pos := _, after := #[{ on := 4, ground := Ground.data }, { on := 1, ground := Ground.data }, { on := 3, ground := Ground.chain }, { on := 0, ground := Ground.phase }, { on := 1, ground := Ground.phase }, { on := 2, ground := Ground.textOnly Departure.lateStores }, { on := 3, ground := Ground.textOnly Departure.lateStoresUnsure }, { on := 4, ground := Ground.phase }, { on := 5, ground := Ground.phase }], guard := none }) rfl (fun K hK => ?_) ?_
                    · refine step_store (by rfl) 24 (.tmp 5) (.tmp 52) (by rfl) (cells := #[.int .i64 sz, .int .i64 hi, .int .i64 ver, .bool d, .slice a5 O.length c5]) (by rfl) (by rfl) hZ551.out (by rfl) (by kernel_rfl) (by first | kernel_rfl | rfl) ?_
                      intro U52 hB52 hg52 _
                      replace hB52 := Lib.hid hB52
                      have k52 : Hid (Below w2.heap.size w2 U52) := Lib.hid (k51.out.grown hg52 k51.out.size (fun j hj => by have e2 := Option.some.inj hj; have := sZ5.out; omega))
                      have hZ652 := Lib.hid (blk_store hZ651.out hZ551.out (by decide) hg52)
                      have hX52 := Lib.hid (ownO_store hX51.out hZ551.out (by decide) (by decide) hg52)
                      have hY52 := Lib.hid (ownRec_store hY51.out hZ551.out (by decide) (by decide) (by decide) (by decide) hg52)
                      clear hg52
                      refine hK.out _ _ (cs'.out _ k52.out) (fun hHeld => ?_)
                      clear hK K
                      try simp only [Act.put]
                      refine wpAnyH_ready (rs := [7]) (by kernel_rfl) (by simp) ?_
                      refine AllReadyH.cons (o := { dst := none, op := Op.store 37 (Operand.tmp 6) (Operand.tmp 54), type := 0, pos := _, after := #[{ on := 5, ground := Ground.data }, { on := 3, ground := Ground.data }, { on := 6, ground := Ground.chain }, { on := 0, ground := Ground.phase }, { on := 1, ground := Ground.phase }, { on := 2, ground := Ground.phase }, { on := 3, ground := Ground.phase }, { on := 4, ground := Ground.phase }, { on := 5, ground := Ground.phase }, { on := 6, ground := Ground.phase }], guard := none }) rfl (fun K hK => ?_) ?_
                      · refine step_store (by rfl) 37 (.tmp 6) (.tmp 54) (by rfl) (cells := q6.cells.toArray) (by rfl) (by rfl) hZ652.out (by rfl) (by kernel_rfl) (cells_one q6) ?_
                        intro U53 hB53 hg53 _
                        replace hB53 := Lib.hid hB53
                        have k53 : Hid (Below w2.heap.size w2 U53) := Lib.hid (k52.out.grown hg53 k52.out.size (fun j hj => by have e2 := Option.some.inj hj; have := sZ6.out; omega))
                        have hB553 := Lib.hid (blk_store hB52.out hZ652.out (by decide) hg53)
                        have hX53 := Lib.hid (ownO_store hX52.out hZ652.out (by decide) (by decide) hg53)
                        have hY53 := Lib.hid (ownRec_store hY52.out hZ652.out (by decide) (by decide) (by decide) (by decide) hg53)
                        clear hg53
                        refine hK.out _ _ (cs'.out _ k53.out) (fun hHeld => ?_)
                        clear hK K
                        refine wpAnyH_done (by kernel_rfl) ?_ _
                        refine NoPanic.normal ?_
                        go_wp2_with fail
                        go_meet
                        exact ⟨_, _, _, _, _, rfl, rfl, hB553, hX53, hB53, hY53, hqe', k53⟩
                      exact AllReadyH.nil
                    exact AllReadyH.nil
                  exact AllReadyH.nil
                exact AllReadyH.nil
              refine AllReadyH.cons (o := { dst := some 5, op := Op.alloc 24, type := 0, pos := _, after := #[], guard := none }) rfl (fun K hK => ?_) ?_
              · go_simp
                obtain ⟨U54, e54⟩ : ∃ U, U44.alloc (.cells #[.int .i64 0, .int .i64 0, .int .i64 0, .bool false, .slice none 0 0] 24) = U := ⟨_, rfl⟩
                have m54 : Hid (Below U44.heap.size U44 U54) := Lib.hid (by rw [← e54]; exact alloc_bel _ _)
                have k54 := Lib.hid (k44.out.trans (m54.out.mono k44.out.size))
                have hZ654 := Lib.hid (hZ644.out.below m54.out hZ644.out.lt)
                have hZ554 : Hid (Blk U54 U44.heap.size 24 (0, 0) [.int .i64 0, .int .i64 0, .int .i64 0, .bool false, .slice none 0 0]) := Lib.hid (by rw [← e54]; exact Blk.new U44 24 (0, 0) #[.int .i64 0, .int .i64 0, .int .i64 0, .bool false, .slice none 0 0])
                have sZ5 : Hid (w2.heap.size ≤ U44.heap.size) := Lib.hid k44.out.size
                rw [e54]
                clear e54
                refine hK.out _ _ (cs'.out _ k54.out) (fun hHeld => ?_)
                clear hK K
                try simp only [Act.put, List.setIfInBounds_toArray, List.set_cons_zero, List.set_cons_succ]
                refine wpAnyH_ready (rs := [1]) (by kernel_rfl) (by simp) ?_
                refine AllReadyH.cons (o := { dst := some 52, op := Op.call { callee := Callee.value (Operand.func 9), args := #[Operand.tmp 51], argTypes := #[24] }, type := 24, pos := _, after := #[{ on := 0, ground := Ground.data }], guard := none }) rfl (fun K hK => ?_) ?_
                · refine step_call (by rfl) (.tmp 51) 24 (by rfl) (by rfl) enter9 ?_
                  refine (copy_edns (hO2.out.ext k54.out) hn32.out hd40.out sz hi ver d).mono ?_
                  rintro e U55 ⟨⟨v5, rfl, hO⟩, m55⟩
                  obtain ⟨a5, c5, rfl⟩ := hO.shape
                  have hX55 := Lib.hid (hO.mono k54.out.size)
                  replace m55 := Lib.hid m55
                  clear hO
                  have k55 := Lib.hid (k54.out.trans (m55.out.mono k54.out.size))
                  have hZ655 := Lib.hid (hZ654.out.below m55.out hZ654.out.lt)
                  have hZ555 := Lib.hid (hZ554.out.below m55.out hZ554.out.lt)
                  refine ⟨_, rfl, ?_⟩
                  refine hK.out _ _ (cs'.out _ k55.out) (fun hHeld => ?_)
                  clear hK K
                  try simp only [Act.put, List.setIfInBounds_toArray, List.set_cons_zero, List.set_cons_succ]
                  refine wpAnyH_ready (rs := [3]) (by kernel_rfl) (by simp) ?_
                  refine AllReadyH.cons (o := { dst := some 54, op := Op.call { callee := Callee.value (Operand.func 10), args := #[Operand.tmp 53], argTypes := #[37] }, type := 37, pos := _, after := #[{ on := 2, ground := Ground.data }, { on := 1, ground := Ground.chain }], guard := none }) rfl (fun K hK => ?_) ?_
                  · refine step_call (by rfl) (.tmp 53) 37 (by rfl) (by rfl) enter10 ?_
                    refine (copy_rec (hq2.out.ext k55.out)).mono ?_
                    rintro e U56 ⟨⟨q6, rfl, hO, hqe⟩, m56⟩
                    have hY56 := Lib.hid (hO.mono k55.out.size)
                    have hqe' := Lib.hid hqe
                    clear hqe
                    replace m56 := Lib.hid m56
                    clear hO
                    have k56 := Lib.hid (k55.out.trans (m56.out.mono k55.out.size))
                    have hZ656 := Lib.hid (hZ655.out.below m56.out hZ655.out.lt)
                    have hZ556 := Lib.hid (hZ555.out.below m56.out hZ555.out.lt)
                    have hX56 := Lib.hid (hX55.out.ext m56.out)
                    refine ⟨_, rfl, ?_⟩
                    refine hK.out _ _ (cs'.out _ k56.out) (fun hHeld => ?_)
                    clear hK K
                    try simp only [Act.put, List.setIfInBounds_toArray, List.set_cons_zero, List.set_cons_succ]
                    refine wpAnyH_ready (rs := [6]) (by kernel_rfl) (by simp) ?_
                    refine AllReadyH.cons (o := { dst := none, op := Op.store 24 (Operand.tmp 5) (Operand.tmp 52), type := 0, pos := _, after := #[{ on := 4, ground := Ground.data }, { on := 1, ground := Ground.data }, { on := 3, ground := Ground.chain }, { on := 0, ground := Ground.phase }, { on := 1, ground := Ground.phase }, { on := 2, ground := Ground.textOnly Departure.lateStores }, { on := 3, ground := Ground.textOnly Departure.lateStoresUnsure }, { on := 4, ground := Ground.phase }, { on := 5, ground := Ground.phase }], guard := none }) rfl (fun K hK => ?_) ?_
                    · refine step_store (by rfl) 24 (.tmp 5) (.tmp 52) (by rfl) (cells := #[.int .i64 sz, .int .i64 hi, .int .i64 ver, .bool d, .slice a5 O.length c5]) (by rfl) (by rfl) hZ556.out (by rfl) (by kernel_rfl) (by first | kernel_rfl | rfl) ?_
                      intro U57 hB57 hg57 _
                      replace hB57 := Lib.hid hB57
                      have k57 : Hid (Below w2.heap.size w2 U57) := Lib.hid (k56.out.grown hg57 k56.out.size (fun j hj => by have e2 := Option.some.inj hj; have := sZ5.out; omega))
                      have hZ657 := Lib.hid (blk_store hZ656.out hZ556.out (by decide) hg57)
                      have hX57 := Lib.hid (ownO_store hX56.out hZ556.out (by decide) (by decide) hg57)
                      have hY57 := Lib.hid (ownRec_store hY56.out hZ556.out (by decide) (by decide) (by decide) (by decide) hg57)
                      clear hg57
                      refine hK.out _ _ (cs'.out _ k57.out) (fun hHeld => ?_)
                      clear hK K
                      try simp only [Act.put]
                      refine wpAnyH_ready (rs := [7]) (by kernel_rfl) (by simp) ?_
                      refine AllReadyH.cons (o := { dst := none, op := Op.store 37 (Operand.tmp 6) (Operand.tmp 54), type := 0, pos := _, after := #[{ on := 5, ground := Ground.data }, { on := 3, ground := Ground.data }, { on := 6, ground := Ground.chain }, { on := 0, ground := Ground.phase }, { on := 1, ground := Ground.phase }, { on := 2, ground := Ground.phase }, { on := 3, ground := Ground.phase }, { on := 4, ground := Ground.phase }, { on := 5, ground := Ground.phase }, { on := 6, ground := Ground.phase }], guard := none }) rfl (fun K hK => ?_) ?_
                      · refine step_store (by rfl) 37 (.tmp 6) (.tmp 54) (by rfl) (cells := q6.cells.toArray) (by rfl) (by rfl) hZ657.out (by rfl) (by kernel_rfl) (cells_one q6) ?_
                        intro U58 hB58 hg58 _
                        replace hB58 := Lib.hid hB58
                        have k58 : Hid (Below w2.heap.size w2 U58) := Lib.hid (k57.out.grown hg58 k57.out.size (fun j hj => by have e2 := Option.some.inj hj; have := sZ6.out; omega))
                        have hB558 := Lib.hid (blk_store hB57.out hZ657.out (by decide) hg58)
                        have hX58 := Lib.hid (ownO_store hX57.out hZ657.out (by decide) (by decide) hg58)
                        have hY58 := Lib.hid (ownRec_store hY57.out hZ657.out (by decide) (by decide) (by decide) (by decide) hg58)
                        clear hg58
                        refine hK.out _ _ (cs'.out _ k58.out) (fun hHeld => ?_)
                        clear hK K
                        refine wpAnyH_done (by kernel_rfl) ?_ _
                        refine NoPanic.normal ?_
                        go_wp2_with fail
                        go_meet
                        exact ⟨_, _, _, _, _, rfl, rfl, hB558, hX58, hB58, hY58, hqe', k58⟩
                      exact AllReadyH.nil
                    exact AllReadyH.nil
                  exact AllReadyH.nil
                exact AllReadyH.nil
              exact AllReadyH.nil
            exact AllReadyH.nil
          case rest =>
            obtain ⟨b5, b6, a5, c5, q6, rfl, rfl, hB5, hX, hB6, hY, hqe, hk3⟩ := hcut
            have hOc := Lib.hid (hO2.out.ext hk3.out)
            have hqc := Lib.hid (hq2.out.ext hk3.out)
            have hT2 := Lib.hid (hS2.out.e.below hk3.out hS2.out.e.lt)
            have hT3 := Lib.hid (hS2.out.q.below hk3.out hS2.out.q.lt)
            have hbw : Hid (Below w.heap.size w wc) := Lib.hid (hS2.out.bel.trans (hk3.out.mono hS2.out.bel.size))
            obtain ⟨oa6, on6, oc6, ty6, cl6, ttl6, ma6, mn6, mc6, ua6, un6, uc6, xa6, xn6, xc6, ra6, rn6, rc6⟩ := q6
            obtain ⟨l1, l2, l3, l4, l5⟩ := hY.out.lens hqc.out
            obtain ⟨l6, l7, l8⟩ := hqe.out
            dsimp only at l1 l2 l3 l4 l5 l6 l7 l8
            replace l1 := l1.symm
            replace l2 := l2.symm
            replace l3 := l3.symm
            replace l4 := l4.symm
            replace l5 := l5.symm
            replace l6 := l6.symm
            replace l7 := l7.symm
            replace l8 := l8.symm
            subst l1 l2 l3 l4 l5 l6 l7 l8
            replace hB6 : Hid (Blk wc b6 37 (0, 0) [.slice oa6 on oc6, .int .u16 ty, .int .u16 cl, .int .u32 ttl, .slice ma6 mn mc6, .slice ua6 un uc6, .slice xa6 xn xc6, .slice ra6 rn rc6]) := hB6
            have hyr := Lib.hid (hY.out.recR hqc.out rfl rfl rfl)
            obtain ⟨tyA, clA, ttlA, rawA, EA, m1, m2, m3, m4, uA⟩ := recB_uni sz hi ver d O
            obtain ⟨sC, iC, vC, dC, AC, EC, mC, uC⟩ := readB_uni on ty cl ttl mn un xn L.raw
            have uA' := Lib.hid uA
            have uC' := Lib.hid uC
            have hmA := Lib.hid (And.intro m1 (And.intro m2 (And.intro m3 m4)))
            have hmC := Lib.hid mC
            generalize hnA : rawA.length = nA at *
            generalize hnC : AC.length = nC at *
            have hnA' := Lib.hid hnA
            have hnC' := Lib.hid hnC
            have hs5 : Hid (∀ o ∈ O, o.2.length ≤ 65540) := Lib.hid (fun o ho => hs'.out.2 o ho)
            have hs60 : Hid (∀ o ∈ O, o.2.length ≤ 1152921504606846976) := Lib.hid (fun o ho => by have := hs'.out.2 o ho; omega)
            have hn60 : Hid (n ≤ 1152921504606846976) := Lib.hid (by have := hn32.out; omega)
            clear uA uC m1 m2 m3 m4 mC hnA hnC hqe cs' hO2 hq2 hn32 hd40 hS2 hk3 p0 p1 p2 p3 p4 q0 q1 q2 q3 q4 q5 q6 q7
            have sv0T2 := hT2
            have sv0T3 := hT3
            have sv0T5 := hB5
            have sv0X := hX
            have sv0T6 := hB6
            have sv0YR := hyr
            have sv0RO := hOc
            have sv0RR := hqc
            have hK0 : Hid (Below wc.heap.size wc wc) := Lib.hid (Below.refl _ _)
            have x0 : wc.cell? ⟨b5, 0, none⟩ = some (.int .i64 sz) := (hB5.out.cell 0).trans rfl
            have x1 : wc.cell? ⟨b5, 1, none⟩ = some (.int .i64 hi) := (hB5.out.cell 1).trans rfl
            have x2 : wc.cell? ⟨b5, 2, none⟩ = some (.int .i64 ver) := (hB5.out.cell 2).trans rfl
            have x3 : wc.cell? ⟨b5, 3, none⟩ = some (.bool d) := (hB5.out.cell 3).trans rfl
            have x4 : wc.cell? ⟨b5, 4, none⟩ = some (.slice a5 O.length c5) := (hB5.out.cell 4).trans rfl
            go_upto_region 4 with (fail)
            have hcall4 : Hid (Calls Try.prog 11 #[.agg #[.int .i64 sz, .int .i64 hi, .int .i64 ver, .bool d, .slice a5 O.length c5]] wc fun e w' => (∃ v, e = .returned (.tuple #[rV nilV tyA clA ttlA nilV nilV nilV v, .int .i64 EA]) ∧ Own byteE w' wc.heap.size v rawA) ∧ Below wc.heap.size wc w') := Lib.hid ((rec_any (ownO_rd_at hX.out).1 hs5.out hC'.out sz hi ver d).mono (fun e w' h => ⟨uA'.out _ _ _ h.1, h.2⟩))
            go_wp2_with fail
            refine hcall4.out.mono ?_
            rintro e s4 ⟨⟨v, rfl, hv⟩, kb⟩
            obtain ⟨vA, cvA, rfl⟩ := hv.shape
            rw [hnA'.out] at hv ⊢
            have k4a := Lib.hid kb
            have hA := Lib.hid hv
            have hArg : Hid (∀ k, (Value.slice vA nA cvA).ownBlock = some k → wc.heap.size ≤ k ∧ k < s4.heap.size) := Lib.hid (fun k hk => hA.out.lt k hk)
            have bBA : Hid (wc.heap.size ≤ s4.heap.size) := Lib.hid kb.size
            clear hv kb hcall4 x0 x1 x2 x3 x4
            unfold rV nilV
            have T2_1 := Lib.hid (hT2.out.below k4a.out hT2.out.lt)
            have T3_1 := Lib.hid (hT3.out.below k4a.out hT3.out.lt)
            have T5_1 := Lib.hid (hB5.out.below k4a.out hB5.out.lt)
            have X_1 := Lib.hid (hX.out.ext k4a.out)
            have T6_1 := Lib.hid (hB6.out.below k4a.out hB6.out.lt)
            have YR_1 := Lib.hid (hyr.out.ext k4a.out)
            have RO_1 := Lib.hid (hOc.out.ext k4a.out)
            have RR_1 := Lib.hid (hqc.out.ext k4a.out)
            have K0_1 := Lib.hid (hK0.out.trans (k4a.out.mono hK0.out.size))
            clear hT2 hT3 hB5 hX hB6 hyr hOc hqc hK0
            have hbw4a := Lib.hid (hbw.out.trans (k4a.out.mono hbw.out.size))
            obtain ⟨S4, hS4⟩ : ∃ W, s4.alloc (.cells #[.slice none 0 0, .int .u16 0, .int .u16 0, .int .u32 0, .slice none 0 0, .slice none 0 0, .slice none 0 0, .slice none 0 0] 37) = W := ⟨_, rfl⟩
            have hZ : Hid (Blk S4 s4.heap.size 37 (0, 0) [.slice none 0 0, .int .u16 0, .int .u16 0, .int .u32 0, .slice none 0 0, .slice none 0 0, .slice none 0 0, .slice none 0 0]) := Lib.hid (by rw [← hS4]; exact Blk.new s4 37 (0, 0) #[.slice none 0 0, .int .u16 0, .int .u16 0, .int .u32 0, .slice none 0 0, .slice none 0 0, .slice none 0 0, .slice none 0 0])
            have hy : Hid (Below s4.heap.size s4 S4) := Lib.hid (by rw [← hS4]; exact alloc_bel _ _)
            go_upto_region 5 with (refine store_whole rfl 37 (.tmp 7) (.tmp 58) rfl rfl rfl hZ.out (by rfl) (by kernel_rfl) (by kernel_rfl) ?_; intro r4 hB6_ hg6 hz6; have hT7 := Lib.hid hB6_; have k4b := Lib.hid (fresh_store hy.out hg6); clear hB6_ hg6 hz6; have T2_2 := Lib.hid (T2_1.out.below k4b.out T2_1.out.lt); have T3_2 := Lib.hid (T3_1.out.below k4b.out T3_1.out.lt); have T5_2 := Lib.hid (T5_1.out.below k4b.out T5_1.out.lt); have X_2 := Lib.hid (X_1.out.ext k4b.out); have T6_2 := Lib.hid (T6_1.out.below k4b.out T6_1.out.lt); have YR_2 := Lib.hid (YR_1.out.ext k4b.out); have RO_2 := Lib.hid (RO_1.out.ext k4b.out); have RR_2 := Lib.hid (RR_1.out.ext k4b.out); have K0_2 := Lib.hid (K0_1.out.trans (k4b.out.mono K0_1.out.size)); have A_2 := Lib.hid (hA.out.ext k4b.out); clear T2_1 T3_1 T5_1 X_1 T6_1 YR_1 RO_1 RR_1 K0_1 hA; have le4 := Lib.hid k4b.out.size; have hbw4b := Lib.hid (hbw4a.out.trans (k4b.out.mono hbw4a.out.size)); have x0 : r4.cell? ⟨b5, 0, none⟩ = some (.int .i64 sz) := (T5_2.out.cell 0).trans rfl; have x1 : r4.cell? ⟨b5, 1, none⟩ = some (.int .i64 hi) := (T5_2.out.cell 1).trans rfl; have x2 : r4.cell? ⟨b5, 2, none⟩ = some (.int .i64 ver) := (T5_2.out.cell 2).trans rfl; have x3 : r4.cell? ⟨b5, 3, none⟩ = some (.bool d) := (T5_2.out.cell 3).trans rfl; have x4 : r4.cell? ⟨b5, 4, none⟩ = some (.slice a5 O.length c5) := (T5_2.out.cell 4).trans rfl)
            clear hS4 hZ hy k4a k4b
            have hcall5 : Hid (Calls Try.prog 11 #[.agg #[.int .i64 sz, .int .i64 hi, .int .i64 ver, .bool d, .slice a5 O.length c5]] r4 fun e w' => (∃ v, e = .returned (.tuple #[rV nilV tyA clA ttlA nilV nilV nilV v, .int .i64 EA]) ∧ Own byteE w' r4.heap.size v rawA) ∧ Below r4.heap.size r4 w') := Lib.hid ((rec_any (ownO_rd_at X_2.out).1 hs5.out hC'.out sz hi ver d).mono (fun e w' h => ⟨uA'.out _ _ _ h.1, h.2⟩))
            go_wp2_with fail
            refine hcall5.out.mono ?_
            rintro e s5 ⟨⟨v, rfl, hv⟩, kb⟩
            obtain ⟨vB, cvB, rfl⟩ := hv.shape
            rw [hnA'.out] at hv ⊢
            have k5a := Lib.hid kb
            have hBb := Lib.hid hv
            have bBBb : Hid (r4.heap.size ≤ s5.heap.size) := Lib.hid kb.size
            clear hv kb hcall5 x0 x1 x2 x3 x4
            unfold rV nilV
            have T2_3 := Lib.hid (T2_2.out.below k5a.out T2_2.out.lt)
            have T3_3 := Lib.hid (T3_2.out.below k5a.out T3_2.out.lt)
            have T5_3 := Lib.hid (T5_2.out.below k5a.out T5_2.out.lt)
            have X_3 := Lib.hid (X_2.out.ext k5a.out)
            have T6_3 := Lib.hid (T6_2.out.below k5a.out T6_2.out.lt)
            have YR_3 := Lib.hid (YR_2.out.ext k5a.out)
            have RO_3 := Lib.hid (RO_2.out.ext k5a.out)
            have RR_3 := Lib.hid (RR_2.out.ext k5a.out)
            have K0_3 := Lib.hid (K0_2.out.trans (k5a.out.mono K0_2.out.size))
            have A_3 := Lib.hid (A_2.out.ext k5a.out)
            have T7_3 := Lib.hid (hT7.out.below k5a.out hT7.out.lt)
            clear T2_2 T3_2 T5_2 X_2 T6_2 YR_2 RO_2 RR_2 K0_2 A_2 hT7
            have hbw5a := Lib.hid (hbw4b.out.trans (k5a.out.mono hbw4b.out.size))
            obtain ⟨S5, hS5⟩ : ∃ W, s5.alloc (.cells #[.slice none 0 0, .int .u16 0, .int .u16 0, .int .u32 0, .slice none 0 0, .slice none 0 0, .slice none 0 0, .slice none 0 0] 37) = W := ⟨_, rfl⟩
            have hZ : Hid (Blk S5 s5.heap.size 37 (0, 0) [.slice none 0 0, .int .u16 0, .int .u16 0, .int .u32 0, .slice none 0 0, .slice none 0 0, .slice none 0 0, .slice none 0 0]) := Lib.hid (by rw [← hS5]; exact Blk.new s5 37 (0, 0) #[.slice none 0 0, .int .u16 0, .int .u16 0, .int .u32 0, .slice none 0 0, .slice none 0 0, .slice none 0 0, .slice none 0 0])
            have hy : Hid (Below s5.heap.size s5 S5) := Lib.hid (by rw [← hS5]; exact alloc_bel _ _)
            go_upto_region 6 with (refine store_whole rfl 37 (.tmp 9) (.tmp 63) rfl rfl rfl hZ.out (by rfl) (by kernel_rfl) (by kernel_rfl) ?_; intro r5 hB6_ hg6 hz6; have hT9 := Lib.hid hB6_; have k5b := Lib.hid (fresh_store hy.out hg6); clear hB6_ hg6 hz6; have T2_4 := Lib.hid (T2_3.out.below k5b.out T2_3.out.lt); have T3_4 := Lib.hid (T3_3.out.below k5b.out T3_3.out.lt); have T5_4 := Lib.hid (T5_3.out.below k5b.out T5_3.out.lt); have X_4 := Lib.hid (X_3.out.ext k5b.out); have T6_4 := Lib.hid (T6_3.out.below k5b.out T6_3.out.lt); have YR_4 := Lib.hid (YR_3.out.ext k5b.out); have RO_4 := Lib.hid (RO_3.out.ext k5b.out); have RR_4 := Lib.hid (RR_3.out.ext k5b.out); have K0_4 := Lib.hid (K0_3.out.trans (k5b.out.mono K0_3.out.size)); have A_4 := Lib.hid (A_3.out.ext k5b.out); have T7_4 := Lib.hid (T7_3.out.below k5b.out T7_3.out.lt); have Bb_4 := Lib.hid (hBb.out.ext k5b.out); clear T2_3 T3_3 T5_3 X_3 T6_3 YR_3 RO_3 RR_3 K0_3 A_3 T7_3 hBb; have le5 := Lib.hid k5b.out.size; have hbw5b := Lib.hid (hbw5a.out.trans (k5b.out.mono hbw5a.out.size)); have x0 : r5.cell? ⟨w.heap.size, 0, none⟩ = some (.int .i64 sz) := (T2_4.out.cell 0).trans rfl; have x1 : r5.cell? ⟨w.heap.size, 1, none⟩ = some (.int .i64 hi) := (T2_4.out.cell 1).trans rfl; have x2 : r5.cell? ⟨w.heap.size, 2, none⟩ = some (.int .i64 ver) := (T2_4.out.cell 2).trans rfl; have x3 : r5.cell? ⟨w.heap.size, 3, none⟩ = some (.bool d) := (T2_4.out.cell 3).trans rfl; have x4 : r5.cell? ⟨w.heap.size, 4, none⟩ = some (.slice a n c) := (T2_4.out.cell 4).trans rfl)
            clear hS5 hZ hy k5a k5b
            have hcall6 : Hid (Calls Try.prog 12 #[.agg #[.int .i64 sz, .int .i64 hi, .int .i64 ver, .bool d, .slice a n c]] r5 fun e w' => (∃ v, e = .returned (.tuple #[rV nilV tyA clA ttlA nilV nilV nilV v, .int .i64 EA]) ∧ Own byteE w' r5.heap.size v rawA) ∧ Below r5.heap.size r5 w') := Lib.hid ((ref_rec RO_4.out hn60.out hs60.out hC'.out sz hi ver d).mono (fun e w' h => ⟨uA'.out _ _ _ h.1, h.2⟩))
            go_wp2_with fail
            refine hcall6.out.mono ?_
            rintro e s6 ⟨⟨v, rfl, hv⟩, kb⟩
            obtain ⟨vW, cvW, rfl⟩ := hv.shape
            rw [hnA'.out] at hv ⊢
            have k6a := Lib.hid kb
            have hWw := Lib.hid hv
            have bBWw : Hid (r5.heap.size ≤ s6.heap.size) := Lib.hid kb.size
            clear hv kb hcall6 x0 x1 x2 x3 x4
            unfold rV nilV
            have T2_5 := Lib.hid (T2_4.out.below k6a.out T2_4.out.lt)
            have T3_5 := Lib.hid (T3_4.out.below k6a.out T3_4.out.lt)
            have T5_5 := Lib.hid (T5_4.out.below k6a.out T5_4.out.lt)
            have X_5 := Lib.hid (X_4.out.ext k6a.out)
            have T6_5 := Lib.hid (T6_4.out.below k6a.out T6_4.out.lt)
            have YR_5 := Lib.hid (YR_4.out.ext k6a.out)
            have RO_5 := Lib.hid (RO_4.out.ext k6a.out)
            have RR_5 := Lib.hid (RR_4.out.ext k6a.out)
            have K0_5 := Lib.hid (K0_4.out.trans (k6a.out.mono K0_4.out.size))
            have A_5 := Lib.hid (A_4.out.ext k6a.out)
            have T7_5 := Lib.hid (T7_4.out.below k6a.out T7_4.out.lt)
            have Bb_5 := Lib.hid (Bb_4.out.ext k6a.out)
            have T9_5 := Lib.hid (hT9.out.below k6a.out hT9.out.lt)
            clear T2_4 T3_4 T5_4 X_4 T6_4 YR_4 RO_4 RR_4 K0_4 A_4 T7_4 Bb_4 hT9
            have hbw6a := Lib.hid (hbw5b.out.trans (k6a.out.mono hbw5b.out.size))
            obtain ⟨S6, hS6⟩ : ∃ W, s6.alloc (.cells #[.slice none 0 0, .int .u16 0, .int .u16 0, .int .u32 0, .slice none 0 0, .slice none 0 0, .slice none 0 0, .slice none 0 0] 37) = W := ⟨_, rfl⟩
            have hZ : Hid (Blk S6 s6.heap.size 37 (0, 0) [.slice none 0 0, .int .u16 0, .int .u16 0, .int .u32 0, .slice none 0 0, .slice none 0 0, .slice none 0 0, .slice none 0 0]) := Lib.hid (by rw [← hS6]; exact Blk.new s6 37 (0, 0) #[.slice none 0 0, .int .u16 0, .int .u16 0, .int .u32 0, .slice none 0 0, .slice none 0 0, .slice none 0 0, .slice none 0 0])
            have hy : Hid (Below s6.heap.size s6 S6) := Lib.hid (by rw [← hS6]; exact alloc_bel _ _)
            go_upto_region 7 with (refine store_whole rfl 37 (.tmp 11) (.tmp 68) rfl rfl rfl hZ.out (by rfl) (by kernel_rfl) (by kernel_rfl) ?_; intro r6 hB6_ hg6 hz6; have hT11 := Lib.hid hB6_; have k6b := Lib.hid (fresh_store hy.out hg6); clear hB6_ hg6 hz6; have T2_6 := Lib.hid (T2_5.out.below k6b.out T2_5.out.lt); have T3_6 := Lib.hid (T3_5.out.below k6b.out T3_5.out.lt); have T5_6 := Lib.hid (T5_5.out.below k6b.out T5_5.out.lt); have X_6 := Lib.hid (X_5.out.ext k6b.out); have T6_6 := Lib.hid (T6_5.out.below k6b.out T6_5.out.lt); have YR_6 := Lib.hid (YR_5.out.ext k6b.out); have RO_6 := Lib.hid (RO_5.out.ext k6b.out); have RR_6 := Lib.hid (RR_5.out.ext k6b.out); have K0_6 := Lib.hid (K0_5.out.trans (k6b.out.mono K0_5.out.size)); have A_6 := Lib.hid (A_5.out.ext k6b.out); have T7_6 := Lib.hid (T7_5.out.below k6b.out T7_5.out.lt); have Bb_6 := Lib.hid (Bb_5.out.ext k6b.out); have T9_6 := Lib.hid (T9_5.out.below k6b.out T9_5.out.lt); have Ww_6 := Lib.hid (hWw.out.ext k6b.out); clear T2_5 T3_5 T5_5 X_5 T6_5 YR_5 RO_5 RR_5 K0_5 A_5 T7_5 Bb_5 T9_5 hWw; have le6 := Lib.hid k6b.out.size; have hbw6b := Lib.hid (hbw6a.out.trans (k6b.out.mono hbw6a.out.size)); have x0 : r6.cell? ⟨b6, 0, none⟩ = some (.slice oa6 on oc6) := (T6_6.out.cell 0).trans rfl; have x1 : r6.cell? ⟨b6, 1, none⟩ = some (.int .u16 ty) := (T6_6.out.cell 1).trans rfl; have x2 : r6.cell? ⟨b6, 2, none⟩ = some (.int .u16 cl) := (T6_6.out.cell 2).trans rfl; have x3 : r6.cell? ⟨b6, 3, none⟩ = some (.int .u32 ttl) := (T6_6.out.cell 3).trans rfl; have x4 : r6.cell? ⟨b6, 4, none⟩ = some (.slice ma6 mn mc6) := (T6_6.out.cell 4).trans rfl; have x5 : r6.cell? ⟨b6, 5, none⟩ = some (.slice ua6 un uc6) := (T6_6.out.cell 5).trans rfl; have x6 : r6.cell? ⟨b6, 6, none⟩ = some (.slice xa6 xn xc6) := (T6_6.out.cell 6).trans rfl; have x7 : r6.cell? ⟨b6, 7, none⟩ = some (.slice ra6 rn rc6) := (T6_6.out.cell 7).trans rfl)
            clear hS6 hZ hy k6a k6b
            have hw6 : Hid (wc.heap.size ≤ r6.heap.size) := Lib.hid K0_6.out.size
            have sv6T9 := T9_6
            have sv6Bb := Bb_6
            have sv6T11 := hT11
            have sv6Ww := Ww_6
            have sv6T7 := T7_6
            have sv6A := A_6
            have hK6 : Hid (Below r6.heap.size r6 r6) := Lib.hid (Below.refl _ _)
            have hcall7 : Hid (Calls Try.prog 13 #[.agg #[.slice oa6 on oc6, .int .u16 ty, .int .u16 cl, .int .u32 ttl, .slice ma6 mn mc6, .slice ua6 un uc6, .slice xa6 xn xc6, .slice ra6 rn rc6]] r6 fun e w' => (∃ v, e = .returned (.tuple #[eV sC iC vC dC v, .int .i64 EC]) ∧ OwnO w' r6.heap.size v AC) ∧ Below r6.heap.size r6 w') := Lib.hid ((read_any oa6 on oc6 ty cl ttl ma6 mn mc6 ua6 un uc6 xa6 xn xc6 YR_6.out.raw YR_6.out.ttl YR_6.out.ty YR_6.out.cl z0 z4 z5 z6 z7).mono (fun e w' h => ⟨uC'.out _ _ _ h.1, h.2⟩))
            go_wp2_with fail
            refine hcall7.out.mono ?_
            rintro e s7 ⟨⟨v, rfl, hv⟩, kb⟩
            obtain ⟨vC_, cvC_, rfl⟩ := hv.shape
            rw [hnC'.out] at hv ⊢
            have k7a := Lib.hid kb
            have hCc := Lib.hid hv
            have hOX : Hid (OX s7 r6.heap.size s7.heap.size (.slice vC_ nC cvC_) nC) := Lib.hid (by have h := hCc.out.ox; rw [hnC'.out] at h; exact h)
            have bBCc : Hid (r6.heap.size ≤ s7.heap.size) := Lib.hid kb.size
            clear hv kb hcall7 x0 x1 x2 x3 x4 x5 x6 x7
            unfold eV
            have T2_7 := Lib.hid (T2_6.out.below k7a.out T2_6.out.lt)
            have T3_7 := Lib.hid (T3_6.out.below k7a.out T3_6.out.lt)
            have T5_7 := Lib.hid (T5_6.out.below k7a.out T5_6.out.lt)
            have X_7 := Lib.hid (X_6.out.ext k7a.out)
            have T6_7 := Lib.hid (T6_6.out.below k7a.out T6_6.out.lt)
            have YR_7 := Lib.hid (YR_6.out.ext k7a.out)
            have RO_7 := Lib.hid (RO_6.out.ext k7a.out)
            have RR_7 := Lib.hid (RR_6.out.ext k7a.out)
            have K0_7 := Lib.hid (K0_6.out.trans (k7a.out.mono K0_6.out.size))
            have A_7 := Lib.hid (A_6.out.ext k7a.out)
            have T7_7 := Lib.hid (T7_6.out.below k7a.out T7_6.out.lt)
            have Bb_7 := Lib.hid (Bb_6.out.ext k7a.out)
            have T9_7 := Lib.hid (T9_6.out.below k7a.out T9_6.out.lt)
            have Ww_7 := Lib.hid (Ww_6.out.ext k7a.out)
            have T11_7 := Lib.hid (hT11.out.below k7a.out hT11.out.lt)
            have K6_7 := Lib.hid (hK6.out.trans (k7a.out.mono hK6.out.size))
            clear T2_6 T3_6 T5_6 X_6 T6_6 YR_6 RO_6 RR_6 K0_6 A_6 T7_6 Bb_6 T9_6 Ww_6 hT11 hK6
            have hbw7a := Lib.hid (hbw6b.out.trans (k7a.out.mono hbw6b.out.size))
            obtain ⟨S7, hS7⟩ : ∃ W, s7.alloc (.cells #[.int .i64 0, .int .i64 0, .int .i64 0, .bool false, .slice none 0 0] 24) = W := ⟨_, rfl⟩
            have hZ : Hid (Blk S7 s7.heap.size 24 (0, 0) [.int .i64 0, .int .i64 0, .int .i64 0, .bool false, .slice none 0 0]) := Lib.hid (by rw [← hS7]; exact Blk.new s7 24 (0, 0) #[.int .i64 0, .int .i64 0, .int .i64 0, .bool false, .slice none 0 0])
            have hy : Hid (Below s7.heap.size s7 S7) := Lib.hid (by rw [← hS7]; exact alloc_bel _ _)
            go_upto_region 8 with (refine store_whole rfl 24 (.tmp 13) (.tmp 73) rfl rfl rfl hZ.out (by rfl) (by kernel_rfl) (by kernel_rfl) ?_; intro r7 hB6_ hg6 hz6; have hT13 := Lib.hid hB6_; have k7b := Lib.hid (fresh_store hy.out hg6); clear hB6_ hg6 hz6; have T2_8 := Lib.hid (T2_7.out.below k7b.out T2_7.out.lt); have T3_8 := Lib.hid (T3_7.out.below k7b.out T3_7.out.lt); have T5_8 := Lib.hid (T5_7.out.below k7b.out T5_7.out.lt); have X_8 := Lib.hid (X_7.out.ext k7b.out); have T6_8 := Lib.hid (T6_7.out.below k7b.out T6_7.out.lt); have YR_8 := Lib.hid (YR_7.out.ext k7b.out); have RO_8 := Lib.hid (RO_7.out.ext k7b.out); have RR_8 := Lib.hid (RR_7.out.ext k7b.out); have K0_8 := Lib.hid (K0_7.out.trans (k7b.out.mono K0_7.out.size)); have A_8 := Lib.hid (A_7.out.ext k7b.out); have T7_8 := Lib.hid (T7_7.out.below k7b.out T7_7.out.lt); have Bb_8 := Lib.hid (Bb_7.out.ext k7b.out); have T9_8 := Lib.hid (T9_7.out.below k7b.out T9_7.out.lt); have Ww_8 := Lib.hid (Ww_7.out.ext k7b.out); have T11_8 := Lib.hid (T11_7.out.below k7b.out T11_7.out.lt); have K6_8 := Lib.hid (K6_7.out.trans (k7b.out.mono K6_7.out.size)); have Cc_8 := Lib.hid (hCc.out.ext k7b.out); have OX_8 := Lib.hid (hOX.out.ext k7b.out); clear T2_7 T3_7 T5_7 X_7 T6_7 YR_7 RO_7 RR_7 K0_7 A_7 T7_7 Bb_7 T9_7 Ww_7 T11_7 K6_7 hCc hOX; have le7 := Lib.hid k7b.out.size; have hbw7b := Lib.hid (hbw7a.out.trans (k7b.out.mono hbw7a.out.size)); have x0 : r7.cell? ⟨b6, 0, none⟩ = some (.slice oa6 on oc6) := (T6_8.out.cell 0).trans rfl; have x1 : r7.cell? ⟨b6, 1, none⟩ = some (.int .u16 ty) := (T6_8.out.cell 1).trans rfl; have x2 : r7.cell? ⟨b6, 2, none⟩ = some (.int .u16 cl) := (T6_8.out.cell 2).trans rfl; have x3 : r7.cell? ⟨b6, 3, none⟩ = some (.int .u32 ttl) := (T6_8.out.cell 3).trans rfl; have x4 : r7.cell? ⟨b6, 4, none⟩ = some (.slice ma6 mn mc6) := (T6_8.out.cell 4).trans rfl; have x5 : r7.cell? ⟨b6, 5, none⟩ = some (.slice ua6 un uc6) := (T6_8.out.cell 5).trans rfl; have x6 : r7.cell? ⟨b6, 6, none⟩ = some (.slice xa6 xn xc6) := (T6_8.out.cell 6).trans rfl; have x7 : r7.cell? ⟨b6, 7, none⟩ = some (.slice ra6 rn rc6) := (T6_8.out.cell 7).trans rfl)
            clear hS7 hZ hy k7a k7b
            have hK7 : Hid (Below r7.heap.size r7 r7) := Lib.hid (Below.refl _ _)
            have hcall8 : Hid (Calls Try.prog 13 #[.agg #[.slice oa6 on oc6, .int .u16 ty, .int .u16 cl, .int .u32 ttl, .slice ma6 mn mc6, .slice ua6 un uc6, .slice xa6 xn xc6, .slice ra6 rn rc6]] r7 fun e w' => (∃ v, e = .returned (.tuple #[eV sC iC vC dC v, .int .i64 EC]) ∧ OwnO w' r7.heap.size v AC) ∧ Below r7.heap.size r7 w') := Lib.hid ((read_any oa6 on oc6 ty cl ttl ma6 mn mc6 ua6 un uc6 xa6 xn xc6 YR_8.out.raw YR_8.out.ttl YR_8.out.ty YR_8.out.cl z0 z4 z5 z6 z7).mono (fun e w' h => ⟨uC'.out _ _ _ h.1, h.2⟩))
            go_wp2_with fail
            refine hcall8.out.mono ?_
            rintro e s8 ⟨⟨v, rfl, hv⟩, kb⟩
            obtain ⟨vD, cvD, rfl⟩ := hv.shape
            rw [hnC'.out] at hv ⊢
            have k8a := Lib.hid kb
            have hDd := Lib.hid hv
            have bBDd : Hid (r7.heap.size ≤ s8.heap.size) := Lib.hid kb.size
            clear hv kb hcall8 x0 x1 x2 x3 x4 x5 x6 x7
            unfold eV
            have T2_9 := Lib.hid (T2_8.out.below k8a.out T2_8.out.lt)
            have T3_9 := Lib.hid (T3_8.out.below k8a.out T3_8.out.lt)
            have T5_9 := Lib.hid (T5_8.out.below k8a.out T5_8.out.lt)
            have X_9 := Lib.hid (X_8.out.ext k8a.out)
            have T6_9 := Lib.hid (T6_8.out.below k8a.out T6_8.out.lt)
            have YR_9 := Lib.hid (YR_8.out.ext k8a.out)
            have RO_9 := Lib.hid (RO_8.out.ext k8a.out)
            have RR_9 := Lib.hid (RR_8.out.ext k8a.out)
            have K0_9 := Lib.hid (K0_8.out.trans (k8a.out.mono K0_8.out.size))
            have A_9 := Lib.hid (A_8.out.ext k8a.out)
            have T7_9 := Lib.hid (T7_8.out.below k8a.out T7_8.out.lt)
            have Bb_9 := Lib.hid (Bb_8.out.ext k8a.out)
            have T9_9 := Lib.hid (T9_8.out.below k8a.out T9_8.out.lt)
            have Ww_9 := Lib.hid (Ww_8.out.ext k8a.out)
            have T11_9 := Lib.hid (T11_8.out.below k8a.out T11_8.out.lt)
            have K6_9 := Lib.hid (K6_8.out.trans (k8a.out.mono K6_8.out.size))
            have Cc_9 := Lib.hid (Cc_8.out.ext k8a.out)
            have OX_9 := Lib.hid (OX_8.out.ext k8a.out)
            have T13_9 := Lib.hid (hT13.out.below k8a.out hT13.out.lt)
            have K7_9 := Lib.hid (hK7.out.trans (k8a.out.mono hK7.out.size))
            clear T2_8 T3_8 T5_8 X_8 T6_8 YR_8 RO_8 RR_8 K0_8 A_8 T7_8 Bb_8 T9_8 Ww_8 T11_8 K6_8 Cc_8 OX_8 hT13 hK7
            have hbw8a := Lib.hid (hbw7b.out.trans (k8a.out.mono hbw7b.out.size))
            obtain ⟨S8, hS8⟩ : ∃ W, s8.alloc (.cells #[.int .i64 0, .int .i64 0, .int .i64 0, .bool false, .slice none 0 0] 24) = W := ⟨_, rfl⟩
            have hZ : Hid (Blk S8 s8.heap.size 24 (0, 0) [.int .i64 0, .int .i64 0, .int .i64 0, .bool false, .slice none 0 0]) := Lib.hid (by rw [← hS8]; exact Blk.new s8 24 (0, 0) #[.int .i64 0, .int .i64 0, .int .i64 0, .bool false, .slice none 0 0])
            have hy : Hid (Below s8.heap.size s8 S8) := Lib.hid (by rw [← hS8]; exact alloc_bel _ _)
            go_upto_region 9 with (refine store_whole rfl 24 (.tmp 15) (.tmp 78) rfl rfl rfl hZ.out (by rfl) (by kernel_rfl) (by kernel_rfl) ?_; intro r8 hB6_ hg6 hz6; have hT15 := Lib.hid hB6_; have k8b := Lib.hid (fresh_store hy.out hg6); clear hB6_ hg6 hz6; have T2_10 := Lib.hid (T2_9.out.below k8b.out T2_9.out.lt); have T3_10 := Lib.hid (T3_9.out.below k8b.out T3_9.out.lt); have T5_10 := Lib.hid (T5_9.out.below k8b.out T5_9.out.lt); have X_10 := Lib.hid (X_9.out.ext k8b.out); have T6_10 := Lib.hid (T6_9.out.below k8b.out T6_9.out.lt); have YR_10 := Lib.hid (YR_9.out.ext k8b.out); have RO_10 := Lib.hid (RO_9.out.ext k8b.out); have RR_10 := Lib.hid (RR_9.out.ext k8b.out); have K0_10 := Lib.hid (K0_9.out.trans (k8b.out.mono K0_9.out.size)); have A_10 := Lib.hid (A_9.out.ext k8b.out); have T7_10 := Lib.hid (T7_9.out.below k8b.out T7_9.out.lt); have Bb_10 := Lib.hid (Bb_9.out.ext k8b.out); have T9_10 := Lib.hid (T9_9.out.below k8b.out T9_9.out.lt); have Ww_10 := Lib.hid (Ww_9.out.ext k8b.out); have T11_10 := Lib.hid (T11_9.out.below k8b.out T11_9.out.lt); have K6_10 := Lib.hid (K6_9.out.trans (k8b.out.mono K6_9.out.size)); have Cc_10 := Lib.hid (Cc_9.out.ext k8b.out); have OX_10 := Lib.hid (OX_9.out.ext k8b.out); have T13_10 := Lib.hid (T13_9.out.below k8b.out T13_9.out.lt); have K7_10 := Lib.hid (K7_9.out.trans (k8b.out.mono K7_9.out.size)); have Dd_10 := Lib.hid (hDd.out.ext k8b.out); clear T2_9 T3_9 T5_9 X_9 T6_9 YR_9 RO_9 RR_9 K0_9 A_9 T7_9 Bb_9 T9_9 Ww_9 T11_9 K6_9 Cc_9 OX_9 T13_9 K7_9 hDd; have le8 := Lib.hid k8b.out.size; have hbw8b := Lib.hid (hbw8a.out.trans (k8b.out.mono hbw8a.out.size)); have x0 : r8.cell? ⟨W1.heap.size, 0, none⟩ = some (.slice oa on oc) := (T3_10.out.cell 0).trans rfl; have x1 : r8.cell? ⟨W1.heap.size, 1, none⟩ = some (.int .u16 ty) := (T3_10.out.cell 1).trans rfl; have x2 : r8.cell? ⟨W1.heap.size, 2, none⟩ = some (.int .u16 cl) := (T3_10.out.cell 2).trans rfl; have x3 : r8.cell? ⟨W1.heap.size, 3, none⟩ = some (.int .u32 ttl) := (T3_10.out.cell 3).trans rfl; have x4 : r8.cell? ⟨W1.heap.size, 4, none⟩ = some (.slice ma mn mc) := (T3_10.out.cell 4).trans rfl; have x5 : r8.cell? ⟨W1.heap.size, 5, none⟩ = some (.slice ua un uc) := (T3_10.out.cell 5).trans rfl; have x6 : r8.cell? ⟨W1.heap.size, 6, none⟩ = some (.slice xa xn xc) := (T3_10.out.cell 6).trans rfl; have x7 : r8.cell? ⟨W1.heap.size, 7, none⟩ = some (.slice ra rn rc) := (T3_10.out.cell 7).trans rfl)
            clear hS8 hZ hy k8a k8b
            have hcall9 : Hid (Calls Try.prog 14 #[.agg #[.slice oa on oc, .int .u16 ty, .int .u16 cl, .int .u32 ttl, .slice ma mn mc, .slice ua un uc, .slice xa xn xc, .slice ra rn rc]] r8 fun e w' => (∃ v, e = .returned (.tuple #[eV sC iC vC dC v, .int .i64 EC]) ∧ OwnO w' r8.heap.size v AC) ∧ Below r8.heap.size r8 w') := Lib.hid ((ref_read oa on oc ty cl ttl ma mn mc ua un uc xa xn xc RR_10.out.raw RR_10.out.ttl RR_10.out.ty RR_10.out.cl).mono (fun e w' h => ⟨uC'.out _ _ _ h.1, h.2⟩))
            go_wp2_with fail
            refine hcall9.out.mono ?_
            rintro e s9 ⟨⟨v, rfl, hv⟩, kb⟩
            obtain ⟨vS, cvS, rfl⟩ := hv.shape
            rw [hnC'.out] at hv ⊢
            have k9a := Lib.hid kb
            have hSs := Lib.hid hv
            have bBSs : Hid (r8.heap.size ≤ s9.heap.size) := Lib.hid kb.size
            clear hv kb hcall9 x0 x1 x2 x3 x4 x5 x6 x7
            unfold eV
            have T2_11 := Lib.hid (T2_10.out.below k9a.out T2_10.out.lt)
            have T3_11 := Lib.hid (T3_10.out.below k9a.out T3_10.out.lt)
            have T5_11 := Lib.hid (T5_10.out.below k9a.out T5_10.out.lt)
            have X_11 := Lib.hid (X_10.out.ext k9a.out)
            have T6_11 := Lib.hid (T6_10.out.below k9a.out T6_10.out.lt)
            have YR_11 := Lib.hid (YR_10.out.ext k9a.out)
            have RO_11 := Lib.hid (RO_10.out.ext k9a.out)
            have RR_11 := Lib.hid (RR_10.out.ext k9a.out)
            have K0_11 := Lib.hid (K0_10.out.trans (k9a.out.mono K0_10.out.size))
            have A_11 := Lib.hid (A_10.out.ext k9a.out)
            have T7_11 := Lib.hid (T7_10.out.below k9a.out T7_10.out.lt)
            have Bb_11 := Lib.hid (Bb_10.out.ext k9a.out)
            have T9_11 := Lib.hid (T9_10.out.below k9a.out T9_10.out.lt)
            have Ww_11 := Lib.hid (Ww_10.out.ext k9a.out)
            have T11_11 := Lib.hid (T11_10.out.below k9a.out T11_10.out.lt)
            have K6_11 := Lib.hid (K6_10.out.trans (k9a.out.mono K6_10.out.size))
            have Cc_11 := Lib.hid (Cc_10.out.ext k9a.out)
            have OX_11 := Lib.hid (OX_10.out.ext k9a.out)
            have T13_11 := Lib.hid (T13_10.out.below k9a.out T13_10.out.lt)
            have K7_11 := Lib.hid (K7_10.out.trans (k9a.out.mono K7_10.out.size))
            have Dd_11 := Lib.hid (Dd_10.out.ext k9a.out)
            have T15_11 := Lib.hid (hT15.out.below k9a.out hT15.out.lt)
            clear T2_10 T3_10 T5_10 X_10 T6_10 YR_10 RO_10 RR_10 K0_10 A_10 T7_10 Bb_10 T9_10 Ww_10 T11_10 K6_10 Cc_10 OX_10 T13_10 K7_10 Dd_10 hT15
            have hbw9a := Lib.hid (hbw8b.out.trans (k9a.out.mono hbw8b.out.size))
            obtain ⟨S9, hS9⟩ : ∃ W, s9.alloc (.cells #[.int .i64 0, .int .i64 0, .int .i64 0, .bool false, .slice none 0 0] 24) = W := ⟨_, rfl⟩
            have hZ : Hid (Blk S9 s9.heap.size 24 (0, 0) [.int .i64 0, .int .i64 0, .int .i64 0, .bool false, .slice none 0 0]) := Lib.hid (by rw [← hS9]; exact Blk.new s9 24 (0, 0) #[.int .i64 0, .int .i64 0, .int .i64 0, .bool false, .slice none 0 0])
            have hy : Hid (Below s9.heap.size s9 S9) := Lib.hid (by rw [← hS9]; exact alloc_bel _ _)
            go_upto_region 10 with (refine store_whole rfl 24 (.tmp 17) (.tmp 83) rfl rfl rfl hZ.out (by rfl) (by kernel_rfl) (by kernel_rfl) ?_; intro r9 hB6_ hg6 hz6; have hT17 := Lib.hid hB6_; have k9b := Lib.hid (fresh_store hy.out hg6); clear hB6_ hg6 hz6; have T2_12 := Lib.hid (T2_11.out.below k9b.out T2_11.out.lt); have T3_12 := Lib.hid (T3_11.out.below k9b.out T3_11.out.lt); have T5_12 := Lib.hid (T5_11.out.below k9b.out T5_11.out.lt); have X_12 := Lib.hid (X_11.out.ext k9b.out); have T6_12 := Lib.hid (T6_11.out.below k9b.out T6_11.out.lt); have YR_12 := Lib.hid (YR_11.out.ext k9b.out); have RO_12 := Lib.hid (RO_11.out.ext k9b.out); have RR_12 := Lib.hid (RR_11.out.ext k9b.out); have K0_12 := Lib.hid (K0_11.out.trans (k9b.out.mono K0_11.out.size)); have A_12 := Lib.hid (A_11.out.ext k9b.out); have T7_12 := Lib.hid (T7_11.out.below k9b.out T7_11.out.lt); have Bb_12 := Lib.hid (Bb_11.out.ext k9b.out); have T9_12 := Lib.hid (T9_11.out.below k9b.out T9_11.out.lt); have Ww_12 := Lib.hid (Ww_11.out.ext k9b.out); have T11_12 := Lib.hid (T11_11.out.below k9b.out T11_11.out.lt); have K6_12 := Lib.hid (K6_11.out.trans (k9b.out.mono K6_11.out.size)); have Cc_12 := Lib.hid (Cc_11.out.ext k9b.out); have OX_12 := Lib.hid (OX_11.out.ext k9b.out); have T13_12 := Lib.hid (T13_11.out.below k9b.out T13_11.out.lt); have K7_12 := Lib.hid (K7_11.out.trans (k9b.out.mono K7_11.out.size)); have Dd_12 := Lib.hid (Dd_11.out.ext k9b.out); have T15_12 := Lib.hid (T15_11.out.below k9b.out T15_11.out.lt); have Ss_12 := Lib.hid (hSs.out.ext k9b.out); clear T2_11 T3_11 T5_11 X_11 T6_11 YR_11 RO_11 RR_11 K0_11 A_11 T7_11 Bb_11 T9_11 Ww_11 T11_11 K6_11 Cc_11 OX_11 T13_11 K7_11 Dd_11 T15_11 hSs; have le9 := Lib.hid k9b.out.size; have hbw9b := Lib.hid (hbw9a.out.trans (k9b.out.mono hbw9a.out.size)); have x0 : r9.cell? ⟨s4.heap.size, 0, none⟩ = some (.slice none 0 0) := (T7_12.out.cell 0).trans rfl; have x1 : r9.cell? ⟨s4.heap.size, 1, none⟩ = some (.int .u16 tyA) := (T7_12.out.cell 1).trans rfl; have x2 : r9.cell? ⟨s4.heap.size, 2, none⟩ = some (.int .u16 clA) := (T7_12.out.cell 2).trans rfl; have x3 : r9.cell? ⟨s4.heap.size, 3, none⟩ = some (.int .u32 ttlA) := (T7_12.out.cell 3).trans rfl; have x4 : r9.cell? ⟨s4.heap.size, 4, none⟩ = some (.slice none 0 0) := (T7_12.out.cell 4).trans rfl; have x5 : r9.cell? ⟨s4.heap.size, 5, none⟩ = some (.slice none 0 0) := (T7_12.out.cell 5).trans rfl; have x6 : r9.cell? ⟨s4.heap.size, 6, none⟩ = some (.slice none 0 0) := (T7_12.out.cell 6).trans rfl; have x7 : r9.cell? ⟨s4.heap.size, 7, none⟩ = some (.slice vA nA cvA) := (T7_12.out.cell 7).trans rfl; have y0 : r9.cell? ⟨s6.heap.size, 0, none⟩ = some (.slice none 0 0) := (T11_12.out.cell 0).trans rfl; have y1 : r9.cell? ⟨s6.heap.size, 1, none⟩ = some (.int .u16 tyA) := (T11_12.out.cell 1).trans rfl; have y2 : r9.cell? ⟨s6.heap.size, 2, none⟩ = some (.int .u16 clA) := (T11_12.out.cell 2).trans rfl; have y3 : r9.cell? ⟨s6.heap.size, 3, none⟩ = some (.int .u32 ttlA) := (T11_12.out.cell 3).trans rfl; have y4 : r9.cell? ⟨s6.heap.size, 4, none⟩ = some (.slice none 0 0) := (T11_12.out.cell 4).trans rfl; have y5 : r9.cell? ⟨s6.heap.size, 5, none⟩ = some (.slice none 0 0) := (T11_12.out.cell 5).trans rfl; have y6 : r9.cell? ⟨s6.heap.size, 6, none⟩ = some (.slice none 0 0) := (T11_12.out.cell 6).trans rfl; have y7 : r9.cell? ⟨s6.heap.size, 7, none⟩ = some (.slice vW nA cvW) := (T11_12.out.cell 7).trans rfl)
            clear hS9 hZ hy k9a k9b
            have hch10 : Hid (Calls Try.prog 15 #[.agg #[.slice none 0 0, .int .u16 tyA, .int .u16 clA, .int .u32 ttlA, .slice none 0 0, .slice none 0 0, .slice none 0 0, .slice vA nA cvA], .agg #[.slice none 0 0, .int .u16 tyA, .int .u16 clA, .int .u32 ttlA, .slice none 0 0, .slice none 0 0, .slice none 0 0, .slice vW nA cvW]] r9 fun e w' => e = .returned (.bool true) ∧ Below r9.heap.size r9 w') := Lib.hid (by have h := same_rec (rec_bare A_12.out hmA.out.1 hmA.out.2.1 hmA.out.2.2.1 (by rw [hnA'.out]; exact hmA.out.2.2.2)) (rec_bare Ww_12.out hmA.out.1 hmA.out.2.1 hmA.out.2.2.1 (by rw [hnA'.out]; exact hmA.out.2.2.2)) rfl rfl rfl; unfold RD.val rV at h; dsimp only at h; exact h)
            go_wp2_with fail
            refine hch10.out.mono ?_
            rintro e c10 ⟨rfl, kb⟩
            have kc10 := Lib.hid kb
            clear kb hch10 x0 x1 x2 x3 x4 x5 x6 x7 y0 y1 y2 y3 y4 y5 y6 y7
            have T2_13 := Lib.hid (T2_12.out.below kc10.out T2_12.out.lt)
            have T3_13 := Lib.hid (T3_12.out.below kc10.out T3_12.out.lt)
            have T5_13 := Lib.hid (T5_12.out.below kc10.out T5_12.out.lt)
            have X_13 := Lib.hid (X_12.out.ext kc10.out)
            have T6_13 := Lib.hid (T6_12.out.below kc10.out T6_12.out.lt)
            have YR_13 := Lib.hid (YR_12.out.ext kc10.out)
            have RO_13 := Lib.hid (RO_12.out.ext kc10.out)
            have RR_13 := Lib.hid (RR_12.out.ext kc10.out)
            have K0_13 := Lib.hid (K0_12.out.trans (kc10.out.mono K0_12.out.size))
            have A_13 := Lib.hid (A_12.out.ext kc10.out)
            have T7_13 := Lib.hid (T7_12.out.below kc10.out T7_12.out.lt)
            have Bb_13 := Lib.hid (Bb_12.out.ext kc10.out)
            have T9_13 := Lib.hid (T9_12.out.below kc10.out T9_12.out.lt)
            have Ww_13 := Lib.hid (Ww_12.out.ext kc10.out)
            have T11_13 := Lib.hid (T11_12.out.below kc10.out T11_12.out.lt)
            have K6_13 := Lib.hid (K6_12.out.trans (kc10.out.mono K6_12.out.size))
            have Cc_13 := Lib.hid (Cc_12.out.ext kc10.out)
            have OX_13 := Lib.hid (OX_12.out.ext kc10.out)
            have T13_13 := Lib.hid (T13_12.out.below kc10.out T13_12.out.lt)
            have K7_13 := Lib.hid (K7_12.out.trans (kc10.out.mono K7_12.out.size))
            have Dd_13 := Lib.hid (Dd_12.out.ext kc10.out)
            have T15_13 := Lib.hid (T15_12.out.below kc10.out T15_12.out.lt)
            have Ss_13 := Lib.hid (Ss_12.out.ext kc10.out)
            have T17_13 := Lib.hid (hT17.out.below kc10.out hT17.out.lt)
            clear T2_12 T3_12 T5_12 X_12 T6_12 YR_12 RO_12 RR_12 K0_12 A_12 T7_12 Bb_12 T9_12 Ww_12 T11_12 K6_12 Cc_12 OX_12 T13_12 K7_12 Dd_12 T15_12 Ss_12 hT17
            have hbwc10 := Lib.hid (hbw9b.out.trans (kc10.out.mono hbw9b.out.size))
            clear kc10
            have x0 : c10.cell? ⟨s7.heap.size, 0, none⟩ = some (.int .i64 sC) := (T13_13.out.cell 0).trans rfl
            have x1 : c10.cell? ⟨s7.heap.size, 1, none⟩ = some (.int .i64 iC) := (T13_13.out.cell 1).trans rfl
            have x2 : c10.cell? ⟨s7.heap.size, 2, none⟩ = some (.int .i64 vC) := (T13_13.out.cell 2).trans rfl
            have x3 : c10.cell? ⟨s7.heap.size, 3, none⟩ = some (.bool dC) := (T13_13.out.cell 3).trans rfl
            have x4 : c10.cell? ⟨s7.heap.size, 4, none⟩ = some (.slice vC_ nC cvC_) := (T13_13.out.cell 4).trans rfl
            have y0 : c10.cell? ⟨s9.heap.size, 0, none⟩ = some (.int .i64 sC) := (T17_13.out.cell 0).trans rfl
            have y1 : c10.cell? ⟨s9.heap.size, 1, none⟩ = some (.int .i64 iC) := (T17_13.out.cell 1).trans rfl
            have y2 : c10.cell? ⟨s9.heap.size, 2, none⟩ = some (.int .i64 vC) := (T17_13.out.cell 2).trans rfl
            have y3 : c10.cell? ⟨s9.heap.size, 3, none⟩ = some (.bool dC) := (T17_13.out.cell 3).trans rfl
            have y4 : c10.cell? ⟨s9.heap.size, 4, none⟩ = some (.slice vS nC cvS) := (T17_13.out.cell 4).trans rfl
            have hch11 : Hid (Calls Try.prog 16 #[.agg #[.int .i64 sC, .int .i64 iC, .int .i64 vC, .bool dC, .slice vC_ nC cvC_], .agg #[.int .i64 sC, .int .i64 iC, .int .i64 vC, .bool dC, .slice vS nC cvS]] c10 fun e w' => e = .returned (.bool true) ∧ Below c10.heap.size c10 w') := Lib.hid (same_edns (ownO_rd_at Cc_13.out).1 (ownO_rd_at Ss_13.out).1 sC iC vC dC)
            go_wp2_with fail
            refine hch11.out.mono ?_
            rintro e c11 ⟨rfl, kb⟩
            have kc11 := Lib.hid kb
            clear kb hch11 x0 x1 x2 x3 x4 y0 y1 y2 y3 y4
            have T2_14 := Lib.hid (T2_13.out.below kc11.out T2_13.out.lt)
            have T3_14 := Lib.hid (T3_13.out.below kc11.out T3_13.out.lt)
            have T5_14 := Lib.hid (T5_13.out.below kc11.out T5_13.out.lt)
            have X_14 := Lib.hid (X_13.out.ext kc11.out)
            have T6_14 := Lib.hid (T6_13.out.below kc11.out T6_13.out.lt)
            have YR_14 := Lib.hid (YR_13.out.ext kc11.out)
            have RO_14 := Lib.hid (RO_13.out.ext kc11.out)
            have RR_14 := Lib.hid (RR_13.out.ext kc11.out)
            have K0_14 := Lib.hid (K0_13.out.trans (kc11.out.mono K0_13.out.size))
            have A_14 := Lib.hid (A_13.out.ext kc11.out)
            have T7_14 := Lib.hid (T7_13.out.below kc11.out T7_13.out.lt)
            have Bb_14 := Lib.hid (Bb_13.out.ext kc11.out)
            have T9_14 := Lib.hid (T9_13.out.below kc11.out T9_13.out.lt)
            have Ww_14 := Lib.hid (Ww_13.out.ext kc11.out)
            have T11_14 := Lib.hid (T11_13.out.below kc11.out T11_13.out.lt)
            have K6_14 := Lib.hid (K6_13.out.trans (kc11.out.mono K6_13.out.size))
            have Cc_14 := Lib.hid (Cc_13.out.ext kc11.out)
            have OX_14 := Lib.hid (OX_13.out.ext kc11.out)
            have T13_14 := Lib.hid (T13_13.out.below kc11.out T13_13.out.lt)
            have K7_14 := Lib.hid (K7_13.out.trans (kc11.out.mono K7_13.out.size))
            have Dd_14 := Lib.hid (Dd_13.out.ext kc11.out)
            have T15_14 := Lib.hid (T15_13.out.below kc11.out T15_13.out.lt)
            have Ss_14 := Lib.hid (Ss_13.out.ext kc11.out)
            have T17_14 := Lib.hid (T17_13.out.below kc11.out T17_13.out.lt)
            clear T2_13 T3_13 T5_13 X_13 T6_13 YR_13 RO_13 RR_13 K0_13 A_13 T7_13 Bb_13 T9_13 Ww_13 T11_13 K6_13 Cc_13 OX_13 T13_13 K7_13 Dd_13 T15_13 Ss_13 T17_13
            have hbwc11 := Lib.hid (hbwc10.out.trans (kc11.out.mono hbwc10.out.size))
            clear kc11
            have x0 : c11.cell? ⟨b5, 0, none⟩ = some (.int .i64 sz) := (T5_14.out.cell 0).trans rfl
            have x1 : c11.cell? ⟨b5, 1, none⟩ = some (.int .i64 hi) := (T5_14.out.cell 1).trans rfl
            have x2 : c11.cell? ⟨b5, 2, none⟩ = some (.int .i64 ver) := (T5_14.out.cell 2).trans rfl
            have x3 : c11.cell? ⟨b5, 3, none⟩ = some (.bool d) := (T5_14.out.cell 3).trans rfl
            have x4 : c11.cell? ⟨b5, 4, none⟩ = some (.slice a5 O.length c5) := (T5_14.out.cell 4).trans rfl
            have y0 : c11.cell? ⟨w.heap.size, 0, none⟩ = some (.int .i64 sz) := (T2_14.out.cell 0).trans rfl
            have y1 : c11.cell? ⟨w.heap.size, 1, none⟩ = some (.int .i64 hi) := (T2_14.out.cell 1).trans rfl
            have y2 : c11.cell? ⟨w.heap.size, 2, none⟩ = some (.int .i64 ver) := (T2_14.out.cell 2).trans rfl
            have y3 : c11.cell? ⟨w.heap.size, 3, none⟩ = some (.bool d) := (T2_14.out.cell 3).trans rfl
            have y4 : c11.cell? ⟨w.heap.size, 4, none⟩ = some (.slice a n c) := (T2_14.out.cell 4).trans rfl
            have hch12 : Hid (Calls Try.prog 16 #[.agg #[.int .i64 sz, .int .i64 hi, .int .i64 ver, .bool d, .slice a5 O.length c5], .agg #[.int .i64 sz, .int .i64 hi, .int .i64 ver, .bool d, .slice a n c]] c11 fun e w' => e = .returned (.bool true) ∧ Below c11.heap.size c11 w') := Lib.hid (same_edns (ownO_rd_at X_14.out).1 RO_14.out sz hi ver d)
            go_wp2_with fail
            refine hch12.out.mono ?_
            rintro e c12 ⟨rfl, kb⟩
            have kc12 := Lib.hid kb
            clear kb hch12 x0 x1 x2 x3 x4 y0 y1 y2 y3 y4
            have T2_15 := Lib.hid (T2_14.out.below kc12.out T2_14.out.lt)
            have T3_15 := Lib.hid (T3_14.out.below kc12.out T3_14.out.lt)
            have T5_15 := Lib.hid (T5_14.out.below kc12.out T5_14.out.lt)
            have X_15 := Lib.hid (X_14.out.ext kc12.out)
            have T6_15 := Lib.hid (T6_14.out.below kc12.out T6_14.out.lt)
            have YR_15 := Lib.hid (YR_14.out.ext kc12.out)
            have RO_15 := Lib.hid (RO_14.out.ext kc12.out)
            have RR_15 := Lib.hid (RR_14.out.ext kc12.out)
            have K0_15 := Lib.hid (K0_14.out.trans (kc12.out.mono K0_14.out.size))
            have A_15 := Lib.hid (A_14.out.ext kc12.out)
            have T7_15 := Lib.hid (T7_14.out.below kc12.out T7_14.out.lt)
            have Bb_15 := Lib.hid (Bb_14.out.ext kc12.out)
            have T9_15 := Lib.hid (T9_14.out.below kc12.out T9_14.out.lt)
            have Ww_15 := Lib.hid (Ww_14.out.ext kc12.out)
            have T11_15 := Lib.hid (T11_14.out.below kc12.out T11_14.out.lt)
            have K6_15 := Lib.hid (K6_14.out.trans (kc12.out.mono K6_14.out.size))
            have Cc_15 := Lib.hid (Cc_14.out.ext kc12.out)
            have OX_15 := Lib.hid (OX_14.out.ext kc12.out)
            have T13_15 := Lib.hid (T13_14.out.below kc12.out T13_14.out.lt)
            have K7_15 := Lib.hid (K7_14.out.trans (kc12.out.mono K7_14.out.size))
            have Dd_15 := Lib.hid (Dd_14.out.ext kc12.out)
            have T15_15 := Lib.hid (T15_14.out.below kc12.out T15_14.out.lt)
            have Ss_15 := Lib.hid (Ss_14.out.ext kc12.out)
            have T17_15 := Lib.hid (T17_14.out.below kc12.out T17_14.out.lt)
            clear T2_14 T3_14 T5_14 X_14 T6_14 YR_14 RO_14 RR_14 K0_14 A_14 T7_14 Bb_14 T9_14 Ww_14 T11_14 K6_14 Cc_14 OX_14 T13_14 K7_14 Dd_14 T15_14 Ss_14 T17_14
            have hbwc12 := Lib.hid (hbwc11.out.trans (kc12.out.mono hbwc11.out.size))
            clear kc12
            have x0 : c12.cell? ⟨b6, 0, none⟩ = some (.slice oa6 on oc6) := (T6_15.out.cell 0).trans rfl
            have x1 : c12.cell? ⟨b6, 1, none⟩ = some (.int .u16 ty) := (T6_15.out.cell 1).trans rfl
            have x2 : c12.cell? ⟨b6, 2, none⟩ = some (.int .u16 cl) := (T6_15.out.cell 2).trans rfl
            have x3 : c12.cell? ⟨b6, 3, none⟩ = some (.int .u32 ttl) := (T6_15.out.cell 3).trans rfl
            have x4 : c12.cell? ⟨b6, 4, none⟩ = some (.slice ma6 mn mc6) := (T6_15.out.cell 4).trans rfl
            have x5 : c12.cell? ⟨b6, 5, none⟩ = some (.slice ua6 un uc6) := (T6_15.out.cell 5).trans rfl
            have x6 : c12.cell? ⟨b6, 6, none⟩ = some (.slice xa6 xn xc6) := (T6_15.out.cell 6).trans rfl
            have x7 : c12.cell? ⟨b6, 7, none⟩ = some (.slice ra6 rn rc6) := (T6_15.out.cell 7).trans rfl
            have y0 : c12.cell? ⟨W1.heap.size, 0, none⟩ = some (.slice oa on oc) := (T3_15.out.cell 0).trans rfl
            have y1 : c12.cell? ⟨W1.heap.size, 1, none⟩ = some (.int .u16 ty) := (T3_15.out.cell 1).trans rfl
            have y2 : c12.cell? ⟨W1.heap.size, 2, none⟩ = some (.int .u16 cl) := (T3_15.out.cell 2).trans rfl
            have y3 : c12.cell? ⟨W1.heap.size, 3, none⟩ = some (.int .u32 ttl) := (T3_15.out.cell 3).trans rfl
            have y4 : c12.cell? ⟨W1.heap.size, 4, none⟩ = some (.slice ma mn mc) := (T3_15.out.cell 4).trans rfl
            have y5 : c12.cell? ⟨W1.heap.size, 5, none⟩ = some (.slice ua un uc) := (T3_15.out.cell 5).trans rfl
            have y6 : c12.cell? ⟨W1.heap.size, 6, none⟩ = some (.slice xa xn xc) := (T3_15.out.cell 6).trans rfl
            have y7 : c12.cell? ⟨W1.heap.size, 7, none⟩ = some (.slice ra rn rc) := (T3_15.out.cell 7).trans rfl
            have hch13 : Hid (Calls Try.prog 15 #[.agg #[.slice oa6 on oc6, .int .u16 ty, .int .u16 cl, .int .u32 ttl, .slice ma6 mn mc6, .slice ua6 un uc6, .slice xa6 xn xc6, .slice ra6 rn rc6], .agg #[.slice oa on oc, .int .u16 ty, .int .u16 cl, .int .u32 ttl, .slice ma mn mc, .slice ua un uc, .slice xa xn xc, .slice ra rn rc]] c12 fun e w' => e = .returned (.bool true) ∧ Below c12.heap.size c12 w') := Lib.hid (by have h := same_rec YR_15.out RR_15.out rfl rfl rfl; unfold RD.val rV at h; dsimp only at h; exact h)
            go_wp2_with fail
            refine hch13.out.mono ?_
            rintro e c13 ⟨rfl, kb⟩
            have kc13 := Lib.hid kb
            clear kb hch13 x0 x1 x2 x3 x4 x5 x6 x7 y0 y1 y2 y3 y4 y5 y6 y7
            have T2_16 := Lib.hid (T2_15.out.below kc13.out T2_15.out.lt)
            have T3_16 := Lib.hid (T3_15.out.below kc13.out T3_15.out.lt)
            have T5_16 := Lib.hid (T5_15.out.below kc13.out T5_15.out.lt)
            have X_16 := Lib.hid (X_15.out.ext kc13.out)
            have T6_16 := Lib.hid (T6_15.out.below kc13.out T6_15.out.lt)
            have YR_16 := Lib.hid (YR_15.out.ext kc13.out)
            have RO_16 := Lib.hid (RO_15.out.ext kc13.out)
            have RR_16 := Lib.hid (RR_15.out.ext kc13.out)
            have K0_16 := Lib.hid (K0_15.out.trans (kc13.out.mono K0_15.out.size))
            have A_16 := Lib.hid (A_15.out.ext kc13.out)
            have T7_16 := Lib.hid (T7_15.out.below kc13.out T7_15.out.lt)
            have Bb_16 := Lib.hid (Bb_15.out.ext kc13.out)
            have T9_16 := Lib.hid (T9_15.out.below kc13.out T9_15.out.lt)
            have Ww_16 := Lib.hid (Ww_15.out.ext kc13.out)
            have T11_16 := Lib.hid (T11_15.out.below kc13.out T11_15.out.lt)
            have K6_16 := Lib.hid (K6_15.out.trans (kc13.out.mono K6_15.out.size))
            have Cc_16 := Lib.hid (Cc_15.out.ext kc13.out)
            have OX_16 := Lib.hid (OX_15.out.ext kc13.out)
            have T13_16 := Lib.hid (T13_15.out.below kc13.out T13_15.out.lt)
            have K7_16 := Lib.hid (K7_15.out.trans (kc13.out.mono K7_15.out.size))
            have Dd_16 := Lib.hid (Dd_15.out.ext kc13.out)
            have T15_16 := Lib.hid (T15_15.out.below kc13.out T15_15.out.lt)
            have Ss_16 := Lib.hid (Ss_15.out.ext kc13.out)
            have T17_16 := Lib.hid (T17_15.out.below kc13.out T17_15.out.lt)
            clear T2_15 T3_15 T5_15 X_15 T6_15 YR_15 RO_15 RR_15 K0_15 A_15 T7_15 Bb_15 T9_15 Ww_15 T11_15 K6_15 Cc_15 OX_15 T13_15 K7_15 Dd_15 T15_15 Ss_15 T17_15
            have hbwc13 := Lib.hid (hbwc12.out.trans (kc13.out.mono hbwc12.out.size))
            clear kc13
            have x0 : c13.cell? ⟨s7.heap.size, 0, none⟩ = some (.int .i64 sC) := (T13_16.out.cell 0).trans rfl
            have x1 : c13.cell? ⟨s7.heap.size, 1, none⟩ = some (.int .i64 iC) := (T13_16.out.cell 1).trans rfl
            have x2 : c13.cell? ⟨s7.heap.size, 2, none⟩ = some (.int .i64 vC) := (T13_16.out.cell 2).trans rfl
            have x3 : c13.cell? ⟨s7.heap.size, 3, none⟩ = some (.bool dC) := (T13_16.out.cell 3).trans rfl
            have x4 : c13.cell? ⟨s7.heap.size, 4, none⟩ = some (.slice vC_ nC cvC_) := (T13_16.out.cell 4).trans rfl
            have hall := Lib.hid (And.intro le4.out (And.intro bBBb.out (And.intro le5.out (And.intro bBWw.out (And.intro le6.out (And.intro bBCc.out (And.intro le7.out (And.intro bBDd.out (And.intro le8.out bBSs.out)))))))))
            have hover : Hid (Calls Try.prog 17 #[.agg #[.int .i64 sC, .int .i64 iC, .int .i64 vC, .bool dC, .slice vC_ nC cvC_]] c13 fun e w' => e = .returned (.tuple #[]) ∧ Tch (Rg r6.heap.size s7.heap.size) c13 w') := Lib.hid (over_edns OX_16.out (Nat.le_trans le7.out K7_16.out.size) hmC.out sC iC vC dC)
            go_wp2_with fail
            refine hover.out.mono ?_
            rintro e o1 ⟨rfl, hT⟩
            have hT1 := Lib.hid hT
            clear hT hover x0 x1 x2 x3 x4
            have j6 := Lib.hid (K6_16.out.trans (hT1.out.below (B := r6.heap.size) K6_16.out.size (fun b _ h => h.1)))
            have j0 := Lib.hid (K0_16.out.trans (hT1.out.below (B := wc.heap.size) K0_16.out.size (fun b _ h => Nat.le_trans hw6.out h.1)))
            have jbw := Lib.hid (hbwc13.out.trans (hT1.out.below (B := w.heap.size) hbwc13.out.size (fun b _ h => Nat.le_trans (Nat.le_trans hbw.out.size hw6.out) h.1)))
            have o1T9 := Lib.hid (sv6T9.out.below j6.out sv6T9.out.lt)
            have o1Bb := Lib.hid (sv6Bb.out.ext j6.out)
            have o1T11 := Lib.hid (sv6T11.out.below j6.out sv6T11.out.lt)
            have o1Ww := Lib.hid (sv6Ww.out.ext j6.out)
            have o1T7 := Lib.hid (sv6T7.out.below j6.out sv6T7.out.lt)
            have o1A := Lib.hid (sv6A.out.ext j6.out)
            have o1T15 := Lib.hid (hT1.out.blk T15_16.out (fun h => by have h1 := h.2; have hz := hall.out; omega))
            have o1T17 := Lib.hid (hT1.out.blk T17_16.out (fun h => by have h1 := h.2; have hz := hall.out; omega))
            have o1Dd := Lib.hid (Dd_16.out.keep (fun b hb hlt => hT1.out.block b hlt (fun h => by have h1 := h.2; have hz := hall.out; omega)))
            have o1Ss := Lib.hid (Ss_16.out.keep (fun b hb hlt => hT1.out.block b hlt (fun h => by have h1 := h.2; have hz := hall.out; omega)))
            have x0 : o1.cell? ⟨s4.heap.size, 0, none⟩ = some (.slice none 0 0) := (o1T7.out.cell 0).trans rfl
            have x1 : o1.cell? ⟨s4.heap.size, 1, none⟩ = some (.int .u16 tyA) := (o1T7.out.cell 1).trans rfl
            have x2 : o1.cell? ⟨s4.heap.size, 2, none⟩ = some (.int .u16 clA) := (o1T7.out.cell 2).trans rfl
            have x3 : o1.cell? ⟨s4.heap.size, 3, none⟩ = some (.int .u32 ttlA) := (o1T7.out.cell 3).trans rfl
            have x4 : o1.cell? ⟨s4.heap.size, 4, none⟩ = some (.slice none 0 0) := (o1T7.out.cell 4).trans rfl
            have x5 : o1.cell? ⟨s4.heap.size, 5, none⟩ = some (.slice none 0 0) := (o1T7.out.cell 5).trans rfl
            have x6 : o1.cell? ⟨s4.heap.size, 6, none⟩ = some (.slice none 0 0) := (o1T7.out.cell 6).trans rfl
            have x7 : o1.cell? ⟨s4.heap.size, 7, none⟩ = some (.slice vA nA cvA) := (o1T7.out.cell 7).trans rfl
            have hod : Hid (Calls Try.prog 18 #[.agg #[.slice none 0 0, .slice none 0 0, .slice none 0 0, .slice vA nA cvA]] o1 fun e w' => e = .returned (.tuple #[]) ∧ o1.grownBy w' (Value.slice vA nA cvA).ownBlock) := Lib.hid (over_data_raw o1A.out)
            go_wp2_with fail
            refine hod.out.mono ?_
            rintro e o2 ⟨rfl, hg⟩
            have hg2 := Lib.hid hg
            clear hg hod x0 x1 x2 x3 x4 x5 x6 x7
            have j02 := Lib.hid (j0.out.grown hg2.out j0.out.size (fun k hk => (hArg.out k hk).1))
            have jbw2 := Lib.hid (jbw.out.grown hg2.out jbw.out.size (fun k hk => Nat.le_trans hbw.out.size (hArg.out k hk).1))
            have o2T2 := Lib.hid (sv0T2.out.below j02.out sv0T2.out.lt)
            have o2T3 := Lib.hid (sv0T3.out.below j02.out sv0T3.out.lt)
            have o2T5 := Lib.hid (sv0T5.out.below j02.out sv0T5.out.lt)
            have o2X := Lib.hid (sv0X.out.ext j02.out)
            have o2T6 := Lib.hid (sv0T6.out.below j02.out sv0T6.out.lt)
            have o2YR := Lib.hid (sv0YR.out.ext j02.out)
            have o2RO := Lib.hid (sv0RO.out.ext j02.out)
            have o2RR := Lib.hid (sv0RR.out.ext j02.out)
            have o2T9 := Lib.hid (o1T9.out.grownV2 hg2.out (fun e => by have h1 := hArg.out _ e.symm; have hz := hall.out; omega))
            have o2T11 := Lib.hid (o1T11.out.grownV2 hg2.out (fun e => by have h1 := hArg.out _ e.symm; have hz := hall.out; omega))
            have o2T15 := Lib.hid (o1T15.out.grownV2 hg2.out (fun e => by have h1 := hArg.out _ e.symm; have hz := hall.out; omega))
            have o2T17 := Lib.hid (o1T17.out.grownV2 hg2.out (fun e => by have h1 := hArg.out _ e.symm; have hz := hall.out; omega))
            have o2Bb := Lib.hid (o1Bb.out.keep (fun j hj => hg2.out.block j (o1Bb.out.lt j hj).2 (fun e => by have h0 := (o1Bb.out.lt j hj).1; have h1 := hArg.out _ e.symm; have hz := hall.out; omega)))
            have o2Ww := Lib.hid (o1Ww.out.keep (fun j hj => hg2.out.block j (o1Ww.out.lt j hj).2 (fun e => by have h0 := (o1Ww.out.lt j hj).1; have h1 := hArg.out _ e.symm; have hz := hall.out; omega)))
            have o2Dd := Lib.hid (o1Dd.out.keep (fun b hb hlt => hg2.out.block b hlt (fun e => by have h1 := hArg.out _ e.symm; have hz := hall.out; omega)))
            have o2Ss := Lib.hid (o1Ss.out.keep (fun b hb hlt => hg2.out.block b hlt (fun e => by have h1 := hArg.out _ e.symm; have hz := hall.out; omega)))
            have x0 : o2.cell? ⟨s5.heap.size, 0, none⟩ = some (.slice none 0 0) := (o2T9.out.cell 0).trans rfl
            have x1 : o2.cell? ⟨s5.heap.size, 1, none⟩ = some (.int .u16 tyA) := (o2T9.out.cell 1).trans rfl
            have x2 : o2.cell? ⟨s5.heap.size, 2, none⟩ = some (.int .u16 clA) := (o2T9.out.cell 2).trans rfl
            have x3 : o2.cell? ⟨s5.heap.size, 3, none⟩ = some (.int .u32 ttlA) := (o2T9.out.cell 3).trans rfl
            have x4 : o2.cell? ⟨s5.heap.size, 4, none⟩ = some (.slice none 0 0) := (o2T9.out.cell 4).trans rfl
            have x5 : o2.cell? ⟨s5.heap.size, 5, none⟩ = some (.slice none 0 0) := (o2T9.out.cell 5).trans rfl
            have x6 : o2.cell? ⟨s5.heap.size, 6, none⟩ = some (.slice none 0 0) := (o2T9.out.cell 6).trans rfl
            have x7 : o2.cell? ⟨s5.heap.size, 7, none⟩ = some (.slice vB nA cvB) := (o2T9.out.cell 7).trans rfl
            have y0 : o2.cell? ⟨s6.heap.size, 0, none⟩ = some (.slice none 0 0) := (o2T11.out.cell 0).trans rfl
            have y1 : o2.cell? ⟨s6.heap.size, 1, none⟩ = some (.int .u16 tyA) := (o2T11.out.cell 1).trans rfl
            have y2 : o2.cell? ⟨s6.heap.size, 2, none⟩ = some (.int .u16 clA) := (o2T11.out.cell 2).trans rfl
            have y3 : o2.cell? ⟨s6.heap.size, 3, none⟩ = some (.int .u32 ttlA) := (o2T11.out.cell 3).trans rfl
            have y4 : o2.cell? ⟨s6.heap.size, 4, none⟩ = some (.slice none 0 0) := (o2T11.out.cell 4).trans rfl
            have y5 : o2.cell? ⟨s6.heap.size, 5, none⟩ = some (.slice none 0 0) := (o2T11.out.cell 5).trans rfl
            have y6 : o2.cell? ⟨s6.heap.size, 6, none⟩ = some (.slice none 0 0) := (o2T11.out.cell 6).trans rfl
            have y7 : o2.cell? ⟨s6.heap.size, 7, none⟩ = some (.slice vW nA cvW) := (o2T11.out.cell 7).trans rfl
            have hch14 : Hid (Calls Try.prog 15 #[.agg #[.slice none 0 0, .int .u16 tyA, .int .u16 clA, .int .u32 ttlA, .slice none 0 0, .slice none 0 0, .slice none 0 0, .slice vB nA cvB], .agg #[.slice none 0 0, .int .u16 tyA, .int .u16 clA, .int .u32 ttlA, .slice none 0 0, .slice none 0 0, .slice none 0 0, .slice vW nA cvW]] o2 fun e w' => e = .returned (.bool true) ∧ Below o2.heap.size o2 w') := Lib.hid (by have h := same_rec (rec_bare o2Bb.out hmA.out.1 hmA.out.2.1 hmA.out.2.2.1 (by rw [hnA'.out]; exact hmA.out.2.2.2)) (rec_bare o2Ww.out hmA.out.1 hmA.out.2.1 hmA.out.2.2.1 (by rw [hnA'.out]; exact hmA.out.2.2.2)) rfl rfl rfl; unfold RD.val rV at h; dsimp only at h; exact h)
            go_wp2_with fail
            refine hch14.out.mono ?_
            rintro e c14 ⟨rfl, kb⟩
            have kc14 := Lib.hid kb
            clear kb hch14 x0 x1 x2 x3 x4 x5 x6 x7 y0 y1 y2 y3 y4 y5 y6 y7
            have T2_17 := Lib.hid (o2T2.out.below kc14.out o2T2.out.lt)
            have T3_17 := Lib.hid (o2T3.out.below kc14.out o2T3.out.lt)
            have T5_17 := Lib.hid (o2T5.out.below kc14.out o2T5.out.lt)
            have X_17 := Lib.hid (o2X.out.ext kc14.out)
            have T6_17 := Lib.hid (o2T6.out.below kc14.out o2T6.out.lt)
            have YR_17 := Lib.hid (o2YR.out.ext kc14.out)
            have RO_17 := Lib.hid (o2RO.out.ext kc14.out)
            have RR_17 := Lib.hid (o2RR.out.ext kc14.out)
            have T9_17 := Lib.hid (o2T9.out.below kc14.out o2T9.out.lt)
            have T11_17 := Lib.hid (o2T11.out.below kc14.out o2T11.out.lt)
            have T15_17 := Lib.hid (o2T15.out.below kc14.out o2T15.out.lt)
            have T17_17 := Lib.hid (o2T17.out.below kc14.out o2T17.out.lt)
            have Bb_17 := Lib.hid (o2Bb.out.ext kc14.out)
            have Ww_17 := Lib.hid (o2Ww.out.ext kc14.out)
            have Dd_17 := Lib.hid (o2Dd.out.ext kc14.out)
            have Ss_17 := Lib.hid (o2Ss.out.ext kc14.out)
            clear o2T2 o2T3 o2T5 o2X o2T6 o2YR o2RO o2RR o2T9 o2T11 o2T15 o2T17 o2Bb o2Ww o2Dd o2Ss
            have hbwc14 := Lib.hid (jbw2.out.trans (kc14.out.mono jbw2.out.size))
            clear kc14
            have x0 : c14.cell? ⟨s8.heap.size, 0, none⟩ = some (.int .i64 sC) := (T15_17.out.cell 0).trans rfl
            have x1 : c14.cell? ⟨s8.heap.size, 1, none⟩ = some (.int .i64 iC) := (T15_17.out.cell 1).trans rfl
            have x2 : c14.cell? ⟨s8.heap.size, 2, none⟩ = some (.int .i64 vC) := (T15_17.out.cell 2).trans rfl
            have x3 : c14.cell? ⟨s8.heap.size, 3, none⟩ = some (.bool dC) := (T15_17.out.cell 3).trans rfl
            have x4 : c14.cell? ⟨s8.heap.size, 4, none⟩ = some (.slice vD nC cvD) := (T15_17.out.cell 4).trans rfl
            have y0 : c14.cell? ⟨s9.heap.size, 0, none⟩ = some (.int .i64 sC) := (T17_17.out.cell 0).trans rfl
            have y1 : c14.cell? ⟨s9.heap.size, 1, none⟩ = some (.int .i64 iC) := (T17_17.out.cell 1).trans rfl
            have y2 : c14.cell? ⟨s9.heap.size, 2, none⟩ = some (.int .i64 vC) := (T17_17.out.cell 2).trans rfl
            have y3 : c14.cell? ⟨s9.heap.size, 3, none⟩ = some (.bool dC) := (T17_17.out.cell 3).trans rfl
            have y4 : c14.cell? ⟨s9.heap.size, 4, none⟩ = some (.slice vS nC cvS) := (T17_17.out.cell 4).trans rfl
            have hch15 : Hid (Calls Try.prog 16 #[.agg #[.int .i64 sC, .int .i64 iC, .int .i64 vC, .bool dC, .slice vD nC cvD], .agg #[.int .i64 sC, .int .i64 iC, .int .i64 vC, .bool dC, .slice vS nC cvS]] c14 fun e w' => e = .returned (.bool true) ∧ Below c14.heap.size c14 w') := Lib.hid (same_edns (ownO_rd_at Dd_17.out).1 (ownO_rd_at Ss_17.out).1 sC iC vC dC)
            go_wp2_with fail
            refine hch15.out.mono ?_
            rintro e c15 ⟨rfl, kb⟩
            have kc15 := Lib.hid kb
            clear kb hch15 x0 x1 x2 x3 x4 y0 y1 y2 y3 y4
            have T2_18 := Lib.hid (T2_17.out.below kc15.out T2_17.out.lt)
            have T3_18 := Lib.hid (T3_17.out.below kc15.out T3_17.out.lt)
            have T5_18 := Lib.hid (T5_17.out.below kc15.out T5_17.out.lt)
            have X_18 := Lib.hid (X_17.out.ext kc15.out)
            have T6_18 := Lib.hid (T6_17.out.below kc15.out T6_17.out.lt)
            have YR_18 := Lib.hid (YR_17.out.ext kc15.out)
            have RO_18 := Lib.hid (RO_17.out.ext kc15.out)
            have RR_18 := Lib.hid (RR_17.out.ext kc15.out)
            have T9_18 := Lib.hid (T9_17.out.below kc15.out T9_17.out.lt)
            have T11_18 := Lib.hid (T11_17.out.below kc15.out T11_17.out.lt)
            have T15_18 := Lib.hid (T15_17.out.below kc15.out T15_17.out.lt)
            have T17_18 := Lib.hid (T17_17.out.below kc15.out T17_17.out.lt)
            have Bb_18 := Lib.hid (Bb_17.out.ext kc15.out)
            have Ww_18 := Lib.hid (Ww_17.out.ext kc15.out)
            have Dd_18 := Lib.hid (Dd_17.out.ext kc15.out)
            have Ss_18 := Lib.hid (Ss_17.out.ext kc15.out)
            clear T2_17 T3_17 T5_17 X_17 T6_17 YR_17 RO_17 RR_17 T9_17 T11_17 T15_17 T17_17 Bb_17 Ww_17 Dd_17 Ss_17
            have hbwc15 := Lib.hid (hbwc14.out.trans (kc15.out.mono hbwc14.out.size))
            clear kc15
            have x0 : c15.cell? ⟨b5, 0, none⟩ = some (.int .i64 sz) := (T5_18.out.cell 0).trans rfl
            have x1 : c15.cell? ⟨b5, 1, none⟩ = some (.int .i64 hi) := (T5_18.out.cell 1).trans rfl
            have x2 : c15.cell? ⟨b5, 2, none⟩ = some (.int .i64 ver) := (T5_18.out.cell 2).trans rfl
            have x3 : c15.cell? ⟨b5, 3, none⟩ = some (.bool d) := (T5_18.out.cell 3).trans rfl
            have x4 : c15.cell? ⟨b5, 4, none⟩ = some (.slice a5 O.length c5) := (T5_18.out.cell 4).trans rfl
            have y0 : c15.cell? ⟨w.heap.size, 0, none⟩ = some (.int .i64 sz) := (T2_18.out.cell 0).trans rfl
            have y1 : c15.cell? ⟨w.heap.size, 1, none⟩ = some (.int .i64 hi) := (T2_18.out.cell 1).trans rfl
            have y2 : c15.cell? ⟨w.heap.size, 2, none⟩ = some (.int .i64 ver) := (T2_18.out.cell 2).trans rfl
            have y3 : c15.cell? ⟨w.heap.size, 3, none⟩ = some (.bool d) := (T2_18.out.cell 3).trans rfl
            have y4 : c15.cell? ⟨w.heap.size, 4, none⟩ = some (.slice a n c) := (T2_18.out.cell 4).trans rfl
            have hch16 : Hid (Calls Try.prog 16 #[.agg #[.int .i64 sz, .int .i64 hi, .int .i64 ver, .bool d, .slice a5 O.length c5], .agg #[.int .i64 sz, .int .i64 hi, .int .i64 ver, .bool d, .slice a n c]] c15 fun e w' => e = .returned (.bool true) ∧ Below c15.heap.size c15 w') := Lib.hid (same_edns (ownO_rd_at X_18.out).1 RO_18.out sz hi ver d)
            go_wp2_with fail
            refine hch16.out.mono ?_
            rintro e c16 ⟨rfl, kb⟩
            have kc16 := Lib.hid kb
            clear kb hch16 x0 x1 x2 x3 x4 y0 y1 y2 y3 y4
            have T2_19 := Lib.hid (T2_18.out.below kc16.out T2_18.out.lt)
            have T3_19 := Lib.hid (T3_18.out.below kc16.out T3_18.out.lt)
            have T5_19 := Lib.hid (T5_18.out.below kc16.out T5_18.out.lt)
            have X_19 := Lib.hid (X_18.out.ext kc16.out)
            have T6_19 := Lib.hid (T6_18.out.below kc16.out T6_18.out.lt)
            have YR_19 := Lib.hid (YR_18.out.ext kc16.out)
            have RO_19 := Lib.hid (RO_18.out.ext kc16.out)
            have RR_19 := Lib.hid (RR_18.out.ext kc16.out)
            have T9_19 := Lib.hid (T9_18.out.below kc16.out T9_18.out.lt)
            have T11_19 := Lib.hid (T11_18.out.below kc16.out T11_18.out.lt)
            have T15_19 := Lib.hid (T15_18.out.below kc16.out T15_18.out.lt)
            have T17_19 := Lib.hid (T17_18.out.below kc16.out T17_18.out.lt)
            have Bb_19 := Lib.hid (Bb_18.out.ext kc16.out)
            have Ww_19 := Lib.hid (Ww_18.out.ext kc16.out)
            have Dd_19 := Lib.hid (Dd_18.out.ext kc16.out)
            have Ss_19 := Lib.hid (Ss_18.out.ext kc16.out)
            clear T2_18 T3_18 T5_18 X_18 T6_18 YR_18 RO_18 RR_18 T9_18 T11_18 T15_18 T17_18 Bb_18 Ww_18 Dd_18 Ss_18
            have hbwc16 := Lib.hid (hbwc15.out.trans (kc16.out.mono hbwc15.out.size))
            clear kc16
            have x0 : c16.cell? ⟨b6, 0, none⟩ = some (.slice oa6 on oc6) := (T6_19.out.cell 0).trans rfl
            have x1 : c16.cell? ⟨b6, 1, none⟩ = some (.int .u16 ty) := (T6_19.out.cell 1).trans rfl
            have x2 : c16.cell? ⟨b6, 2, none⟩ = some (.int .u16 cl) := (T6_19.out.cell 2).trans rfl
            have x3 : c16.cell? ⟨b6, 3, none⟩ = some (.int .u32 ttl) := (T6_19.out.cell 3).trans rfl
            have x4 : c16.cell? ⟨b6, 4, none⟩ = some (.slice ma6 mn mc6) := (T6_19.out.cell 4).trans rfl
            have x5 : c16.cell? ⟨b6, 5, none⟩ = some (.slice ua6 un uc6) := (T6_19.out.cell 5).trans rfl
            have x6 : c16.cell? ⟨b6, 6, none⟩ = some (.slice xa6 xn xc6) := (T6_19.out.cell 6).trans rfl
            have x7 : c16.cell? ⟨b6, 7, none⟩ = some (.slice ra6 rn rc6) := (T6_19.out.cell 7).trans rfl
            have y0 : c16.cell? ⟨W1.heap.size, 0, none⟩ = some (.slice oa on oc) := (T3_19.out.cell 0).trans rfl
            have y1 : c16.cell? ⟨W1.heap.size, 1, none⟩ = some (.int .u16 ty) := (T3_19.out.cell 1).trans rfl
            have y2 : c16.cell? ⟨W1.heap.size, 2, none⟩ = some (.int .u16 cl) := (T3_19.out.cell 2).trans rfl
            have y3 : c16.cell? ⟨W1.heap.size, 3, none⟩ = some (.int .u32 ttl) := (T3_19.out.cell 3).trans rfl
            have y4 : c16.cell? ⟨W1.heap.size, 4, none⟩ = some (.slice ma mn mc) := (T3_19.out.cell 4).trans rfl
            have y5 : c16.cell? ⟨W1.heap.size, 5, none⟩ = some (.slice ua un uc) := (T3_19.out.cell 5).trans rfl
            have y6 : c16.cell? ⟨W1.heap.size, 6, none⟩ = some (.slice xa xn xc) := (T3_19.out.cell 6).trans rfl
            have y7 : c16.cell? ⟨W1.heap.size, 7, none⟩ = some (.slice ra rn rc) := (T3_19.out.cell 7).trans rfl
            have hch17 : Hid (Calls Try.prog 15 #[.agg #[.slice oa6 on oc6, .int .u16 ty, .int .u16 cl, .int .u32 ttl, .slice ma6 mn mc6, .slice ua6 un uc6, .slice xa6 xn xc6, .slice ra6 rn rc6], .agg #[.slice oa on oc, .int .u16 ty, .int .u16 cl, .int .u32 ttl, .slice ma mn mc, .slice ua un uc, .slice xa xn xc, .slice ra rn rc]] c16 fun e w' => e = .returned (.bool true) ∧ Below c16.heap.size c16 w') := Lib.hid (by have h := same_rec YR_19.out RR_19.out rfl rfl rfl; unfold RD.val rV at h; dsimp only at h; exact h)
            go_wp2_with fail
            refine hch17.out.mono ?_
            rintro e c17 ⟨rfl, kb⟩
            have kc17 := Lib.hid kb
            clear kb hch17 x0 x1 x2 x3 x4 x5 x6 x7 y0 y1 y2 y3 y4 y5 y6 y7
            have T2_20 := Lib.hid (T2_19.out.below kc17.out T2_19.out.lt)
            have T3_20 := Lib.hid (T3_19.out.below kc17.out T3_19.out.lt)
            have T5_20 := Lib.hid (T5_19.out.below kc17.out T5_19.out.lt)
            have X_20 := Lib.hid (X_19.out.ext kc17.out)
            have T6_20 := Lib.hid (T6_19.out.below kc17.out T6_19.out.lt)
            have YR_20 := Lib.hid (YR_19.out.ext kc17.out)
            have RO_20 := Lib.hid (RO_19.out.ext kc17.out)
            have RR_20 := Lib.hid (RR_19.out.ext kc17.out)
            have T9_20 := Lib.hid (T9_19.out.below kc17.out T9_19.out.lt)
            have T11_20 := Lib.hid (T11_19.out.below kc17.out T11_19.out.lt)
            have T15_20 := Lib.hid (T15_19.out.below kc17.out T15_19.out.lt)
            have T17_20 := Lib.hid (T17_19.out.below kc17.out T17_19.out.lt)
            have Bb_20 := Lib.hid (Bb_19.out.ext kc17.out)
            have Ww_20 := Lib.hid (Ww_19.out.ext kc17.out)
            have Dd_20 := Lib.hid (Dd_19.out.ext kc17.out)
            have Ss_20 := Lib.hid (Ss_19.out.ext kc17.out)
            clear T2_19 T3_19 T5_19 X_19 T6_19 YR_19 RO_19 RR_19 T9_19 T11_19 T15_19 T17_19 Bb_19 Ww_19 Dd_19 Ss_19
            have hbwc17 := Lib.hid (hbwc16.out.trans (kc17.out.mono hbwc16.out.size))
            clear kc17
            go_wp2_with fail
            go_ret
            exact ⟨rfl, hbwc17.out⟩
section
open Go.ChangeShapes Go.WideShapes
variable {H : Type} {enc : TypeId × Value → H}
set_option maxRecDepth 100000 in
theorem ednsTells_law {W : World} {r : Reach} {b0 : Nat} {ts : List TypeId} {ds : List (DataW H)} (v0 : Value) (d0 : DataW H) (p0 : List MemPlace) (h0 : DataW.Trod enc Try.prog W 0 (fun _ => true) true 24 v0 d0 p0) (hv0 : Value.okWide Try.prog W r b0 24 v0)
    (_ : (DataW.weightsEach Try.prog ts ds).all (· ≤ reachBytes) = true) (z0 : Sz Try.prog 24 d0) (v1 : Value) (d1 : DataW H) (p1 : List MemPlace) (h1 : DataW.Trod enc Try.prog W 0 (fun _ => true) true 37 v1 d1 p1) (hv1 : Value.okWide Try.prog W r b0 37 v1)
    (_ : (DataW.weightsEach Try.prog ts ds).all (· ≤ reachBytes) = true) (z1 : Sz Try.prog 37 d1) (_ : World) : Calls Try.prog 3 #[v0, v1] W fun e w' => e = .returned (.bool true) ∧ Below W.heap.size W w' := by
  obtain ⟨sz, hi, ver, b, a, n, c, O, rfl, hO, hC⟩ := open_edns hv0 h0 z0
  obtain ⟨q, rfl, L, hq⟩ := open_rec hv1 h1 z1
  exact tells_any hO hC sz hi ver b hq
end
end Go.Proofs.Ythgnlbdolilklaa
