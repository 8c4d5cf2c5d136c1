/- Is a message more than is gone through: Large 53 of data, All 52, Large 24 of messages; printed by gen_lgm.py. -/
import Derived.Test.YthgnlbdolilklaaSmM
namespace Go.Proofs.Ythgnlbdolilklaa
open Go Go.RowKit
def OkB (e : Ending) : Prop := ∃ b, e = .returned (.bool b)
set_option maxHeartbeats 8000000 in
set_option maxRecDepth 100000 in
theorem large_data {w : World} {ma : Option Addr} {mn mc : Nat} {ua : Option Addr} {un uc : Nat} {xa : Option Addr} {xn xc : Nat} {ra : Option Addr} {rn rc : Nat} {nm : List Nm} {tx : Nm} (h1 : RdN w ma mn mc nm) (h3 : RdT w xa xn xc tx)
    (z1 : mn ≤ 1152921504606846976) (_z2 : un ≤ 1152921504606846976) (z3 : xn ≤ 1152921504606846976) (z4 : rn ≤ 1152921504606846976) :
    Calls Try.prog 53 #[.agg #[.slice ma mn mc, .slice ua un uc, .slice xa xn xc, .slice ra rn rc]] w fun e w' => OkB e ∧ Below w.heap.size w w' := by
  obtain ⟨W1, hW1⟩ : ∃ W, w.alloc (.cells #[.slice ma mn mc, .slice ua un uc, .slice xa xn xc, .slice ra rn rc] 35) = W := ⟨_, rfl⟩
  have B1 : Hid (Blk W1 w.heap.size 35 (0, 0) [.slice ma mn mc, .slice ua un uc, .slice xa xn xc, .slice ra rn rc]) := Lib.hid (by rw [← hW1]; exact Blk.new w 35 (0, 0) #[.slice ma mn mc, .slice ua un uc, .slice xa xn xc, .slice ra rn rc])
  have k1 : Hid (Below w.heap.size w W1) := Lib.hid (by rw [← hW1]; exact alloc_bel _ _)
  have p0 : W1.cell? ⟨w.heap.size, 0, none⟩ = some (.slice ma mn mc) := (B1.out.cell 0).trans rfl
  have p1 : W1.cell? ⟨w.heap.size, 1, none⟩ = some (.slice ua un uc) := (B1.out.cell 1).trans rfl
  have p2 : W1.cell? ⟨w.heap.size, 2, none⟩ = some (.slice xa xn xc) := (B1.out.cell 2).trans rfl
  have p3 : W1.cell? ⟨w.heap.size, 3, none⟩ = some (.slice ra rn rc) := (B1.out.cell 3).trans rfl
  have g1 := Lib.hid (h1.ext k1.out)
  have g3 := Lib.hid (h3.ext k1.out)
  have l1 := h1.len
  have l3 := h3.1.len
  clear h1 h3
  go_enter Try.func53, Try.ntmps53
  by_cases a1 : (6 : Int) < mn
  · go_wp2_with fail
    try rw [hW1]
    go_ret
    exact ⟨⟨_, rfl⟩, k1.out⟩
  by_cases a2 : (12 : Int) < un
  · go_wp2_with fail
    try rw [hW1]
    go_ret
    exact ⟨⟨_, rfl⟩, k1.out⟩
  by_cases a3 : (300 : Int) < xn
  · go_wp2_with fail
    try rw [hW1]
    go_ret
    exact ⟨⟨_, rfl⟩, k1.out⟩
  by_cases a4 : (2000 : Int) < rn ∧ (rn : Int) ≤ 65535
  · obtain ⟨a5, a6⟩ := a4
    go_wp2_with fail
    try rw [hW1]
    go_ret
    exact ⟨⟨_, rfl⟩, k1.out⟩
  by_cases a7 : (65540 : Int) < rn
  · have a5 : (2000 : Int) < rn := by omega
    have a6 : ¬ (rn : Int) ≤ 65535 := by omega
    clear a4
    go_wp2_with fail
    try rw [hW1]
    go_ret
    exact ⟨⟨_, rfl⟩, k1.out⟩
  have a8 : ((2000 : Int) < rn ∧ ¬ (rn : Int) ≤ 65535) ∨ ¬ (2000 : Int) < rn := by omega
  clear a4
  rcases a8 with ⟨a5, a6⟩ | a5
  all_goals
    go_wp2_with fail
    try rw [hW1]
    clear hW1
    go_loopw [3] (fun i wr => ∃ k : Nat, k ≤ mn ∧ i = .int .i64 k ∧ wr = W1) (fun i _ => mn - (intOf i).toNat)
    case atStart => exact ⟨0, Nat.zero_le _, rfl, by trivial⟩
    case round =>
      obtain ⟨k, hk, rfl, rfl⟩ := hrel
      by_cases hlt : k < mn
      · obtain ⟨b, o, rfl, _, hcs⟩ := g1.out.at_ (by omega)
        obtain ⟨ax, nx, cx, r1, r2⟩ := hcs k (by omega)
        have hkI : (k : Int) < mn := by omega
        have hk0 : 0 ≤ (k : Int) := by omega
        have hnx : nx ≤ 1152921504606846976 := by have := r2.2.2; unfold reachBytes at this; omega
        clear r2 hcs
        by_cases hx : (130 : Int) < nx
        · go_wp2_with fail
          go_ret
          exact ⟨⟨_, rfl⟩, k1.out⟩
        · go_wp2_with fail
          go_roundw
          case rel => exact ⟨k + 1, by omega, by go_num, by trivial⟩
          case measure => simp [intOf]; omega
      · have hk' : k = mn := by omega
        subst hk'
        go_wp2_with fail
        go_loopw [4] (fun i wx => ∃ k : Nat, k ≤ xn ∧ i = .int .i64 k ∧ wx = wr) (fun i _ => xn - (intOf i).toNat)
        case atStart => exact ⟨0, Nat.zero_le _, rfl, by trivial⟩
        case round =>
          obtain ⟨k, hk, rfl, rfl⟩ := hrel
          by_cases hlt : k < xn
          · obtain ⟨b, o, rfl, hcs⟩ := rd_str g3.out.1 (by omega)
            have r1 := hcs k (by omega)
            have hkI : (k : Int) < xn := by omega
            have hk0 : 0 ≤ (k : Int) := by omega
            have hxs : (tx[k]'(by omega)).length ≤ 1152921504606846976 := by have := g3.out.2.1 _ (List.getElem_mem (by omega : k < tx.length)); unfold reachBytes at this; omega
            generalize (tx[k]'(by omega)) = X at *
            clear hcs
            by_cases hx : (300 : Int) < X.length
            · go_wp2_with fail
              go_ret
              exact ⟨⟨_, rfl⟩, k1.out⟩
            · go_wp2_with fail
              go_roundw
              case rel => exact ⟨k + 1, by omega, by go_num, by trivial⟩
              case measure => simp [intOf]; omega
          · have hk' : k = xn := by omega
            subst hk'
            go_wp2_with fail
            go_ret
            exact ⟨⟨_, rfl⟩, k1.out⟩
set_option maxHeartbeats 8000000 in
set_option maxRecDepth 100000 in
theorem all_any {w : World} {an : Option Addr} {nn1 nc1 : Nat} {Q1 : List RD} (h1 : Rd recE w an nn1 nc1 Q1) {au : Option Addr} {nn2 nc2 : Nat} {Q2 : List RD} (h2 : Rd recE w au nn2 nc2 Q2) {ad : Option Addr} {nn3 nc3 : Nat} {Q3 : List RD} (h3 : Rd recE w ad nn3 nc3 Q3)
    (z : nn1 + nn2 + nn3 ≤ 1000000000) (m0 m1 m2 m3 m4 m5 m6 m7 m8 m9 q : Value) :
    Calls Try.prog 52 #[.agg #[m0, m1, m2, m3, m4, m5, m6, m7, m8, m9, q, .slice an nn1 nc1, .slice au nn2 nc2, .slice ad nn3 nc3]] w fun e w' => (∃ v, e = .returned v ∧ Own recE w' w.heap.size v (Q1 ++ Q2 ++ Q3)) ∧ Below w.heap.size w w' := by
  have l1 := h1.len
  have l2 := h2.len
  have l3 := h3.len
  obtain ⟨i0, hi, hz0, hz1, hz2⟩ := info_parts Try.info37
  obtain ⟨W1, hW1⟩ : ∃ W, w.alloc (.cells #[m0, m1, m2, m3, m4, m5, m6, m7, m8, m9, q, .slice an nn1 nc1, .slice au nn2 nc2, .slice ad nn3 nc3] 60) = W := ⟨_, rfl⟩
  have B1 : Hid (Blk W1 w.heap.size 60 (0, 0) [m0, m1, m2, m3, m4, m5, m6, m7, m8, m9, q, .slice an nn1 nc1, .slice au nn2 nc2, .slice ad nn3 nc3]) := Lib.hid (by rw [← hW1]; exact Blk.new w 60 (0, 0) #[m0, m1, m2, m3, m4, m5, m6, m7, m8, m9, q, .slice an nn1 nc1, .slice au nn2 nc2, .slice ad nn3 nc3])
  have k1 : Hid (Below w.heap.size w W1) := Lib.hid (by rw [← hW1]; exact alloc_bel _ _)
  have p11 : W1.cell? ⟨w.heap.size, 11, none⟩ = some (.slice an nn1 nc1) := (B1.out.cell 11).trans rfl
  have p12 : W1.cell? ⟨w.heap.size, 12, none⟩ = some (.slice au nn2 nc2) := (B1.out.cell 12).trans rfl
  have p13 : W1.cell? ⟨w.heap.size, 13, none⟩ = some (.slice ad nn3 nc3) := (B1.out.cell 13).trans rfl
  have H1 := Lib.hid h1
  have H2 := Lib.hid h2
  have H3 := Lib.hid h3
  clear h1 h2 h3
  go_enter Try.func52, Try.ntmps52
  go_upto_region 2 with (fail)
  try rw [hW1]
  clear hW1
  refine wp_region_noPanic ?_
  refine wp_region_held_drew (S := fun w' => w'.cell? ⟨w.heap.size, 11, none⟩ = some (.slice an nn1 nc1) ∧ w'.cell? ⟨w.heap.size, 12, none⟩ = some (.slice au nn2 nc2)) (by kernel_rfl) ⟨p11, p12⟩ (fun hHeld => ?_)
  have hw1 : Hid (w.heap.size < W1.heap.size) := Lib.hid B1.out.lt
  have kd : Hid (Below W1.heap.size W1 W1.drew) := Lib.hid (Below.refl _ _).drew
  generalize W1.drew = U0 at *
  refine wpAnyH_take (i := 0) (oi := { dst := some 4, op := Op.move (Operand.tmp 3), type := 55, pos := _, after := #[], guard := none }) (v := ?_) rfl (by kernel_rfl) (by kernel_rfl) (by kernel_rfl) (fun _ _ _ h => h) (Or.inl ⟨by rfl, ?_⟩) (by assumption) ?_
  rotate_left
  · intro w hSw
    go_simp
    first | done | with_reducible rfl
  try simp only [Act.put, List.setIfInBounds_toArray, List.set_cons_zero, List.set_cons_succ]
  refine wpAnyH_take (i := 1) (oi := { dst := some 5, op := Op.fieldAddr 60 (Operand.tmp 1) 11, type := 0, pos := _, after := #[], guard := none }) (v := ?_) rfl (by kernel_rfl) (by kernel_rfl) (by kernel_rfl) (fun _ _ _ h => h) (Or.inl ⟨by rfl, ?_⟩) (by assumption) ?_
  rotate_left
  · intro w hSw
    go_simp
    first | done | with_reducible rfl
  try simp only [Act.put, List.setIfInBounds_toArray, List.set_cons_zero, List.set_cons_succ]
  refine wpAnyH_take (i := 2) (oi := { dst := some 6, op := Op.load 55 (Operand.tmp 5), type := 55, pos := _, after := #[{ on := 1, ground := Ground.data }], guard := none }) (v := ?_) rfl (by kernel_rfl) (by kernel_rfl) (by kernel_rfl) (fun _ _ _ h => h) (Or.inl ⟨by rfl, ?_⟩) (by assumption) ?_
  rotate_left
  · intro w hSw
    go_simp
    first | done | with_reducible rfl
  try simp only [Act.put, List.setIfInBounds_toArray, List.set_cons_zero, List.set_cons_succ]
  refine wpAnyH_take (i := 4) (oi := { dst := some 8, op := Op.fieldAddr 60 (Operand.tmp 1) 12, type := 0, pos := _, after := #[], guard := none }) (v := ?_) rfl (by kernel_rfl) (by kernel_rfl) (by kernel_rfl) (fun _ _ _ h => h) (Or.inl ⟨by rfl, ?_⟩) (by assumption) ?_
  rotate_left
  · intro w hSw
    go_simp
    first | done | with_reducible rfl
  try simp only [Act.put, List.setIfInBounds_toArray, List.set_cons_zero, List.set_cons_succ]
  refine wpAnyH_take (i := 5) (oi := { dst := some 9, op := Op.load 55 (Operand.tmp 8), type := 55, pos := _, after := #[{ on := 4, ground := Ground.data }], guard := none }) (v := ?_) rfl (by kernel_rfl) (by kernel_rfl) (by kernel_rfl) (fun _ _ _ h => h) (Or.inl ⟨by rfl, ?_⟩) (by assumption) ?_
  rotate_left
  · intro w hSw
    go_simp
    first | done | with_reducible rfl
  try simp only [Act.put, List.setIfInBounds_toArray, List.set_cons_zero, List.set_cons_succ]
  refine wpAnyH_ready (rs := [3]) (by kernel_rfl) (by simp) ?_
  refine AllReadyH.cons (o := { dst := some 7, op := Op.call { callee := Callee.builtin Builtin.append, args := #[Operand.tmp 4, Operand.tmp 6], argTypes := #[55, 55] }, type := 55, pos := _, after := #[{ on := 0, ground := Ground.data }, { on := 2, ground := Ground.data }], guard := none }) rfl (fun K hK => ?_) ?_
  · refine step_own (E := recE) (base := W1.heap.size) (by rfl) (.tmp 4) (.tmp 6) 55 55 (by rfl) Try.underlying55 hi hz0 hz1 hz2 rfl (by rfl) (Own.nil recE U0 W1.heap.size) (by rfl) ((H1.out.ext (k1.out.trans (kd.out.mono k1.out.size))).src (P := Try.prog) (tx := 55) Try.underlying55) (by simp [maxLen]; omega) (by simp; omega) kd.out.size ?_
    intro v3 w3 ho3 hg3 _
    have k3 := Lib.hid (own_below kd.out hg3 (Own.nil recE U0 W1.heap.size) kd.out.size (Nat.le_refl _))
    obtain ⟨a3, c3, rfl⟩ := ho3.shape
    have o3 := Lib.hid ho3
    clear ho3 hg3
    refine hK.out _ _ ⟨cell_old p11 (k3.out), cell_old p12 k3.out⟩ (fun hHeld => ?_)
    clear hK K
    try simp only [Act.put, List.setIfInBounds_toArray, List.set_cons_zero, List.set_cons_succ]
    refine wpAnyH_ready (rs := [6]) (by kernel_rfl) (by simp) ?_
    refine AllReadyH.cons (o := { dst := some 10, op := Op.call { callee := Callee.builtin Builtin.append, args := #[Operand.tmp 7, Operand.tmp 9], argTypes := #[55, 55] }, type := 55, pos := _, after := #[{ on := 3, ground := Ground.data }, { on := 5, ground := Ground.data }, { on := 3, ground := Ground.chain }], guard := none }) rfl (fun K hK => ?_) ?_
    · refine step_own (E := recE) (base := W1.heap.size) (by rfl) (.tmp 7) (.tmp 9) 55 55 (by rfl) Try.underlying55 hi hz0 hz1 hz2 rfl (by rfl) o3.out (by rfl) ((H2.out.ext (k1.out.trans (k3.out.mono k1.out.size))).src (P := Try.prog) (tx := 55) Try.underlying55) (by simp [maxLen]; omega) (by simp; omega) k3.out.size ?_
      intro v6 w6 ho6 hg6 _
      have k6 := Lib.hid (own_below k3.out hg6 o3.out k3.out.size (Nat.le_refl _))
      obtain ⟨a6, c6, rfl⟩ := ho6.shape
      have o6 : Hid (Own recE w6 W1.heap.size (.slice a6 (nn1 + nn2) c6) (Q1 ++ Q2)) := Lib.hid (by simpa [l1, l2] using ho6)
      clear ho6 hg6
      refine hK.out _ _ ⟨cell_old p11 (k6.out), cell_old p12 k6.out⟩ (fun hHeld => ?_)
      clear hK K
      try simp only [Act.put, List.setIfInBounds_toArray, List.set_cons_zero, List.set_cons_succ]
      refine wpAnyH_take (i := 7) (oi := { dst := some 3, op := Op.assign (Operand.tmp 10), type := 55, pos := _, after := #[{ on := 6, ground := Ground.data }, { on := 6, ground := Ground.chain }, { on := 0, ground := Ground.phase }, { on := 1, ground := Ground.phase }, { on := 2, ground := Ground.phase }, { on := 3, ground := Ground.phase }, { on := 4, ground := Ground.phase }, { on := 5, ground := Ground.phase }, { on := 6, ground := Ground.phase }], guard := none }) (v := ?_) rfl (by kernel_rfl) (by kernel_rfl) (by kernel_rfl) (fun _ _ _ h => h) (Or.inl ⟨by rfl, ?_⟩) (by assumption) ?_
      rotate_left
      · intro w hSw
        go_simp
        first | done | with_reducible rfl
      try simp only [Act.put, List.setIfInBounds_toArray, List.set_cons_zero, List.set_cons_succ]
      refine wpAnyH_done (by kernel_rfl) ?_ _
      refine NoPanic.normal ?_
      have q13 : w6.cell? ⟨w.heap.size, 13, none⟩ = some (.slice ad nn3 nc3) := cell_old p13 k6.out
      have hsrc := (H3.out.ext (k1.out.trans (k6.out.mono k1.out.size))).src (P := Try.prog) (tx := 55) Try.underlying55
      clear hHeld
      go_wp2_with (at_builtin; refine app_own (E := recE) (base := W1.heap.size) rfl (.tmp 11) (.tmp 13) 55 55 rfl Try.underlying55 hi hz0 hz1 hz2 rfl rfl o6.out rfl hsrc (by simp [maxLen]; omega) (by simp; omega) k6.out.size ?_)
      intro v9 w9 ho9 hg9 _
      have k9 := Lib.hid (own_below k6.out hg9 o6.out k6.out.size (Nat.le_refl _))
      have o9 := Lib.hid ho9
      clear ho9 hg9 hsrc
      go_wp2
      go_ret
      refine ⟨⟨_, rfl, ?_⟩, k1.out.trans (k9.out.mono k1.out.size)⟩
      have := o9.out.mono (Nat.le_of_lt hw1.out)
      simpa using this
    exact AllReadyH.nil
  exact AllReadyH.nil
theorem RdRs.mem {w : World} {a : Option Addr} {n c : Nat} {QS : List RD} {LS : List RL} (h : RdRs w a n c QS LS) : ∀ q ∈ QS, ∃ L, RecR w q L := fun q hq => by
  obtain ⟨j, hj, rfl⟩ := List.getElem_of_mem hq
  have hj' : j < LS.length := by rw [← h.2.1]; exact hj
  exact ⟨LS[j], h.2.2.2 j QS[j] LS[j] (List.getElem?_eq_getElem hj) (List.getElem?_eq_getElem hj')⟩
end Go.Proofs.Ythgnlbdolilklaa
