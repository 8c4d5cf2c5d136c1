/- NetPieces. Printed by gen_np.py. -/
import Derived.Test.YthdnbipfdahnlaaNtN
namespace Go.Proofs.Ythdnbipfdahnlaa
open Go Go.RowKit
theorem k8_ (k : Nat) (h : k ≤ 40) : (k : Int) = ((UInt8.ofNat k).toNat : Int) := by
  have : ∀ x : Fin 41, (x.val : Int) = ((UInt8.ofNat x.val).toNat : Int) := by decide +kernel
  exact this ⟨k, by omega⟩
theorem rd_int_cell {w : World} {b o n c : Nat} {M : List Int} (h : Rd intE w (some ⟨b, o, none⟩) n c M) {k : Nat} (hk : k < M.length) : w.cell? ⟨b, o + k, none⟩ = some (.int .i64 M[k]) := by
  obtain ⟨b', o', e, hc⟩ := h.at_ k hk 0 (by decide)
  cases e
  simpa [intE] using hc
theorem enter11 (args : Array Value) (w : World) : (callFunc 11 args).run Try.prog w = .ok (.enter 11 args) w := Go.MuLone.run_callFunc_enter Try.func11 (by kernel_rfl) (by rfl) args w
set_option maxHeartbeats 8000000 in
set_option maxRecDepth 100000 in
theorem pieces_any {w : World} {a : Option Addr} {n c : Nat} {M : List Int} (h : Rd intE w a n c M) (half all : Int) : Calls Try.prog 3 #[.slice a n c, .int .i64 half, .int .i64 all] w fun e w' => e = .returned (.bool true) ∧ Below w.heap.size w w' := by
  have hl := h.len
  have hH := Lib.hid h
  clear h
  have ha := Lib.hid (awake_any w)
  by_cases hbad : 40 < n ∨ half < 0 ∨ all < half ∨ 1000 < all
  · have hI : (40 : Int) < n ∨ half < 0 ∨ all < half ∨ 1000 < all := by omega
    clear hbad
    by_cases q1 : (40 : Int) < n
    · go_enter Try.func3, Try.ntmps3
      go_wp2_with fail
      refine ha.out.mono ?_
      rintro e w1 ⟨rfl, hb⟩
      go_wp2_with fail
      go_ret
      exact ⟨rfl, hb⟩
    by_cases q2 : half < 0
    · go_enter Try.func3, Try.ntmps3
      go_wp2_with fail
      refine ha.out.mono ?_
      rintro e w1 ⟨rfl, hb⟩
      go_wp2_with fail
      go_ret
      exact ⟨rfl, hb⟩
    by_cases q3 : all < half
    · go_enter Try.func3, Try.ntmps3
      go_wp2_with fail
      refine ha.out.mono ?_
      rintro e w1 ⟨rfl, hb⟩
      go_wp2_with fail
      go_ret
      exact ⟨rfl, hb⟩
    have q4 : 1000 < all := by omega
    go_enter Try.func3, Try.ntmps3
    go_wp2_with fail
    refine ha.out.mono ?_
    rintro e w1 ⟨rfl, hb⟩
    go_wp2_with fail
    go_ret
    exact ⟨rfl, hb⟩
  have n1 : ¬ (40 : Int) < n := by omega
  have n2 : ¬ half < 0 := by omega
  have n3 : ¬ all < half := by omega
  have n4 : ¬ 1000 < all := by omega
  clear hbad
  go_enter Try.func3, Try.ntmps3
  go_wp2_with fail
  refine ha.out.mono ?_
  rintro e w1 ⟨rfl, hb1⟩
  clear ha
  have hx := Lib.hid (new_any (F := []) (Rd.zero fateE w1 none 0 (by decide)) (by omega))
  have k1 := Lib.hid hb1
  clear hb1
  go_wp2_with fail
  refine hx.out.mono ?_
  rintro e w2 ⟨hB, hb2⟩
  clear hx
  unfold NewB at hB
  rw [if_pos (by rfl)] at hB
  obtain ⟨x, rfl, hP⟩ := hB
  have hA := NetA.of hP (fun g hg => hg) hb2.size
  have hA' := Lib.hid hA
  have k2 := Lib.hid (k1.out.trans (hb2.mono k1.out.size))
  clear hP hA hb2
  have hy := Lib.hid (new_any (F := []) (Rd.zero fateE w2 none 0 (by decide)) (by omega))
  go_wp2_with fail
  refine hy.out.mono ?_
  rintro e w3 ⟨hB, hb3⟩
  clear hy
  unfold NewB at hB
  rw [if_pos (by rfl)] at hB
  obtain ⟨y, rfl, hP⟩ := hB
  have hk1 := k1.out.size
  have hk2 := k2.out.size
  have hC := NetA.of hP (fun g hg => (Nat.le_trans hA'.out.bm hg : w1.heap.size ≤ g)) (Nat.le_trans hA'.out.bm hb3.size)
  have T0 : Hid (Two w3 x y w1.heap.size w3.heap.size _ _ s00 s00) := Lib.hid ⟨(hA'.out.ext hb3).wide hb3.size (Nat.le_refl _), hC, fun g h1 h2 => by omega⟩
  have k3 := Lib.hid (k2.out.trans (hb3.mono k2.out.size))
  clear hP hC hb3 hA' k1 k2
  go_wp2_with fail
  go_loopw [12] (fun i wr => ∃ k : Nat, k ≤ n ∧ i = .int .i64 k ∧ Hid (∃ m Sx Sy, Two wr x y w1.heap.size m Sx Sy (pcs M k) (pcs M k)) ∧ Hid (Below w.heap.size w wr)) (fun i _ => n - (intOf i).toNat)
  case atStart => exact ⟨0, Nat.zero_le _, rfl, Lib.hid ⟨_, _, _, T0.out⟩, k3⟩
  case round =>
    obtain ⟨k, hk, rfl, hT, hb⟩ := hrel
    clear T0 k3
    obtain ⟨m, Sx, Sy, hT2⟩ := hT.out
    have hT2' := Lib.hid hT2
    clear hT hT2
    have hpo := pcs_ok M k (by omega)
    have hpo' := Lib.hid hpo
    clear hpo
    by_cases hlt : k < n
    · have hkI : (k : Int) < n := by omega
      have hk0 : 0 ≤ (k : Int) := by omega
      have hkM : k < M.length := by omega
      obtain ⟨b, o, rfl, hbs, hc⟩ := (hH.out.ext hb.out).addr (by omega)
      obtain ⟨z, hz⟩ : ∃ z, M[k] = z := ⟨_, rfl⟩
      have hstep : Hid (pcs M (k + 1) = (forgeS (pcs M k) hdB [UInt8.ofNat k] z).2) := Lib.hid (by show (forgeS (pcs M k) hdB [UInt8.ofNat k] (M.getD k 0)).2 = _; rw [List.getD_eq_getElem?_getD, List.getElem?_eq_getElem hkM, hz]; rfl)
      have hw8 := Lib.hid (k8_ k (by omega))
      obtain ⟨W1, hW1⟩ : ∃ W, wr.alloc (.cells #[.int .u8 (k : Int)] 5) = W := ⟨_, rfl⟩
      have O1 : Hid (Rd byteE W1 (some ⟨wr.heap.size, 0, none⟩) 1 1 [UInt8.ofNat k]) := Lib.hid (by rw [← hW1]; exact (own_rd_at (Own.made byteE wr #[.int .u8 (k : Int)] [UInt8.ofNat k] 1 (by rw [hw8.out]; rfl) rfl (by decide))).1)
      have j1 : Hid (Below wr.heap.size wr W1) := Lib.hid (by rw [← hW1]; exact alloc_bel _ _)
      have hby := Lib.hid (bytes_any W1 (some ⟨wr.heap.size, 0, none⟩) 1 1)
      dsimp only [pkV, hdB] at hby
      go_wp2_with fail
      try rw [hW1]
      clear hW1
      refine hby.out.mono ?_
      rintro e w5 ⟨rfl, hb5⟩
      have j5 := Lib.hid (j1.out.trans (hb5.mono j1.out.size))
      have O5 := Lib.hid (O1.out.ext hb5)
      clear hb5 hby j1 O1
      obtain ⟨W6, hW6⟩ : ∃ W, w5.alloc (.cells #[.int .u32 0, .int .u16 0, .int .u32 0, .int .u16 0, .bool false, .slice none 0 0] 32) = W := ⟨_, rfl⟩
      have N6 : Hid (Blk W6 w5.heap.size 32 (0, 0) [.int .u32 0, .int .u16 0, .int .u32 0, .int .u16 0, .bool false, .slice none 0 0]) := Lib.hid (by rw [← hW6]; exact Blk.new w5 32 (0, 0) #[.int .u32 0, .int .u16 0, .int .u32 0, .int .u16 0, .bool false, .slice none 0 0])
      have n6 : Hid (Below w5.heap.size w5 W6) := Lib.hid (by rw [← hW6]; exact alloc_bel _ _)
      go_upto_region 12 with (refine store_whole rfl 32 (.tmp 13) (.tmp 69) rfl rfl rfl N6.out (by rfl) (by kernel_rfl) (by first | kernel_rfl | rfl) ?_; intro w7 hBx hgx hzx; have R7 := Lib.hid hBx; have g7 := Lib.hid (fresh_store n6.out hgx); clear hBx hgx hzx)
      try clear hW6
      have j7 := Lib.hid (j5.out.trans (g7.out.mono j5.out.size))
      have O7 := Lib.hid (O5.out.ext g7.out)
      have T7 := Lib.hid (hT2'.out.ext j7.out)
      have k7 := Lib.hid (hb.out.trans (j7.out.mono hb.out.size))
      have hm5 : Hid (m ≤ wr.heap.size ∧ wr.heap.size ≤ w5.heap.size ∧ w5.heap.size < w7.heap.size ∧ w.heap.size ≤ m) := Lib.hid ⟨hT2'.out.a.mw, j5.out.size, R7.out.lt, Nat.le_trans hk1 hT2'.out.a.bm⟩
      have hS : Hid (∀ w', Blk w' w5.heap.size 32 (0, 0) [.int .u32 1, .int .u16 0, .int .u32 2, .int .u16 53, .bool false, .slice (some ⟨wr.heap.size, 0, none⟩) 1 1] → Below w.heap.size w w' → w'.cell? ⟨w5.heap.size, 0, none⟩ = some (.int .u32 1) ∧ w'.cell? ⟨w5.heap.size, 1, none⟩ = some (.int .u16 0) ∧ w'.cell? ⟨w5.heap.size, 2, none⟩ = some (.int .u32 2) ∧ w'.cell? ⟨w5.heap.size, 3, none⟩ = some (.int .u16 53) ∧ w'.cell? ⟨w5.heap.size, 4, none⟩ = some (.bool false) ∧ w'.cell? ⟨w5.heap.size, 5, none⟩ = some (.slice (some ⟨wr.heap.size, 0, none⟩) 1 1) ∧ w'.cell? ⟨b, o + k, none⟩ = some (.int .i64 z)) := Lib.hid (fun w' hB hk => ⟨(hB.cell 0).trans rfl, (hB.cell 1).trans rfl, (hB.cell 2).trans rfl, (hB.cell 3).trans rfl, (hB.cell 4).trans rfl, (hB.cell 5).trans rfl, by rw [← hz]; exact rd_int_cell (hH.out.ext hk) hkM⟩)
      clear j5 O5 N6 n6 g7 hT2' hc j7
      refine wp_region_noPanic ?_
      refine wp_region_held_drew (S := fun w' => w'.cell? ⟨w5.heap.size, 0, none⟩ = some (.int .u32 1) ∧ w'.cell? ⟨w5.heap.size, 1, none⟩ = some (.int .u16 0) ∧ w'.cell? ⟨w5.heap.size, 2, none⟩ = some (.int .u32 2) ∧ w'.cell? ⟨w5.heap.size, 3, none⟩ = some (.int .u16 53) ∧ w'.cell? ⟨w5.heap.size, 4, none⟩ = some (.bool false) ∧ w'.cell? ⟨w5.heap.size, 5, none⟩ = some (.slice (some ⟨wr.heap.size, 0, none⟩) 1 1) ∧ w'.cell? ⟨b, o + k, none⟩ = some (.int .i64 z)) (by kernel_rfl) (hS.out _ R7.out.drew k7.out.drew) (fun hHeld => ?_)
      have T0 := Lib.hid (T7.out.ext (Below.refl _ _).drew)
      have R0 := Lib.hid R7.out.drew
      have O0 : Hid (Rd byteE w7.drew (some ⟨wr.heap.size, 0, none⟩) 1 1 [UInt8.ofNat k]) := Lib.hid (O7.out.ext (Below.refl _ _).drew)
      have K0 : Hid (Below w.heap.size w w7.drew) := Lib.hid k7.out.drew
      have Z0 : Hid (w5.heap.size < w7.drew.heap.size) := Lib.hid hm5.out.2.2.1
      generalize w7.drew = U0 at *
      clear T7 R7 O7 k7
      refine wpAnyH_take (i := 0) (oi := { dst := some 70, op := Op.move (Operand.tmp 8), type := 24, pos := _, after := #[], guard := none }) (v := ?_) rfl (by kernel_rfl) (by kernel_rfl) (by kernel_rfl) (fun _ _ _ h => h) (Or.inl ⟨by rfl, ?_⟩) (by assumption) ?_
      rotate_left
      · intro w hSw
        go_simp
        first | done | with_reducible rfl
      try simp only [Act.put, List.setIfInBounds_toArray, List.set_cons_zero, List.set_cons_succ]
      refine wpAnyH_take (i := 1) (oi := { dst := some 71, op := Op.load 32 (Operand.tmp 13), type := 32, pos := _, after := #[], guard := none }) (v := ?_) rfl (by kernel_rfl) (by kernel_rfl) (by kernel_rfl) (fun _ _ _ h => h) (Or.inl ⟨by rfl, ?_⟩) (by assumption) ?_
      rotate_left
      · intro w hSw
        go_simp
        first | done | with_reducible rfl
      try simp only [Act.put, List.setIfInBounds_toArray, List.set_cons_zero, List.set_cons_succ]
      refine wpAnyH_take (i := 2) (oi := { dst := some 72, op := Op.move (Operand.tmp 0), type := 22, pos := _, after := #[], guard := none }) (v := ?_) rfl (by kernel_rfl) (by kernel_rfl) (by kernel_rfl) (fun _ _ _ h => h) (Or.inl ⟨by rfl, ?_⟩) (by assumption) ?_
      rotate_left
      · intro w hSw
        go_simp
        first | done | with_reducible rfl
      try simp only [Act.put, List.setIfInBounds_toArray, List.set_cons_zero, List.set_cons_succ]
      refine wpAnyH_take (i := 3) (oi := { dst := some 73, op := Op.move (Operand.tmp 12), type := 3, pos := _, after := #[], guard := none }) (v := ?_) rfl (by kernel_rfl) (by kernel_rfl) (by kernel_rfl) (fun _ _ _ h => h) (Or.inl ⟨by rfl, ?_⟩) (by assumption) ?_
      rotate_left
      · intro w hSw
        go_simp
        first | done | with_reducible rfl
      try simp only [Act.put, List.setIfInBounds_toArray, List.set_cons_zero, List.set_cons_succ]
      refine wpAnyH_take (i := 4) (oi := { dst := some 74, op := Op.indexAddr 22 (Operand.tmp 72) (Operand.tmp 73), type := 0, pos := _, after := #[{ on := 2, ground := Ground.data }, { on := 3, ground := Ground.data }], guard := none }) (v := ?_) rfl (by kernel_rfl) (by kernel_rfl) (by kernel_rfl) (fun _ _ _ h => h) (Or.inl ⟨by rfl, ?_⟩) (by assumption) ?_
      rotate_left
      · intro w hSw
        go_simp
        first | done | with_reducible rfl
      try simp only [Act.put, List.setIfInBounds_toArray, List.set_cons_zero, List.set_cons_succ]
      refine wpAnyH_take (i := 5) (oi := { dst := some 75, op := Op.load 3 (Operand.tmp 74), type := 3, pos := _, after := #[{ on := 4, ground := Ground.data }], guard := none }) (v := ?_) rfl (by kernel_rfl) (by kernel_rfl) (by kernel_rfl) (fun _ _ _ h => h) (Or.inl ⟨by rfl, ?_⟩) (by assumption) ?_
      rotate_left
      · intro w hSw
        go_simp
        first | done | with_reducible rfl
      try simp only [Act.put, List.setIfInBounds_toArray, List.set_cons_zero, List.set_cons_succ]
      refine wpAnyH_take (i := 7) (oi := { dst := some 77, op := Op.move (Operand.tmp 10), type := 24, pos := _, after := #[], guard := none }) (v := ?_) rfl (by kernel_rfl) (by kernel_rfl) (by kernel_rfl) (fun _ _ _ h => h) (Or.inl ⟨by rfl, ?_⟩) (by assumption) ?_
      rotate_left
      · intro w hSw
        go_simp
        first | done | with_reducible rfl
      try simp only [Act.put, List.setIfInBounds_toArray, List.set_cons_zero, List.set_cons_succ]
      refine wpAnyH_take (i := 8) (oi := { dst := some 78, op := Op.load 32 (Operand.tmp 13), type := 32, pos := _, after := #[], guard := none }) (v := ?_) rfl (by kernel_rfl) (by kernel_rfl) (by kernel_rfl) (fun _ _ _ h => h) (Or.inl ⟨by rfl, ?_⟩) (by assumption) ?_
      rotate_left
      · intro w hSw
        go_simp
        first | done | with_reducible rfl
      try simp only [Act.put, List.setIfInBounds_toArray, List.set_cons_zero, List.set_cons_succ]
      refine wpAnyH_take (i := 9) (oi := { dst := some 79, op := Op.move (Operand.tmp 0), type := 22, pos := _, after := #[], guard := none }) (v := ?_) rfl (by kernel_rfl) (by kernel_rfl) (by kernel_rfl) (fun _ _ _ h => h) (Or.inl ⟨by rfl, ?_⟩) (by assumption) ?_
      rotate_left
      · intro w hSw
        go_simp
        first | done | with_reducible rfl
      try simp only [Act.put, List.setIfInBounds_toArray, List.set_cons_zero, List.set_cons_succ]
      refine wpAnyH_take (i := 10) (oi := { dst := some 80, op := Op.move (Operand.tmp 12), type := 3, pos := _, after := #[], guard := none }) (v := ?_) rfl (by kernel_rfl) (by kernel_rfl) (by kernel_rfl) (fun _ _ _ h => h) (Or.inl ⟨by rfl, ?_⟩) (by assumption) ?_
      rotate_left
      · intro w hSw
        go_simp
        first | done | with_reducible rfl
      try simp only [Act.put, List.setIfInBounds_toArray, List.set_cons_zero, List.set_cons_succ]
      refine wpAnyH_take (i := 11) (oi := { dst := some 81, op := Op.indexAddr 22 (Operand.tmp 79) (Operand.tmp 80), type := 0, pos := _, after := #[{ on := 9, ground := Ground.data }, { on := 10, ground := Ground.data }], guard := none }) (v := ?_) rfl (by kernel_rfl) (by kernel_rfl) (by kernel_rfl) (fun _ _ _ h => h) (Or.inl ⟨by rfl, ?_⟩) (by assumption) ?_
      rotate_left
      · intro w hSw
        go_simp
        first | done | with_reducible rfl
      try simp only [Act.put, List.setIfInBounds_toArray, List.set_cons_zero, List.set_cons_succ]
      refine wpAnyH_take (i := 12) (oi := { dst := some 82, op := Op.load 3 (Operand.tmp 81), type := 3, pos := _, after := #[{ on := 11, ground := Ground.data }], guard := none }) (v := ?_) rfl (by kernel_rfl) (by kernel_rfl) (by kernel_rfl) (fun _ _ _ h => h) (Or.inl ⟨by rfl, ?_⟩) (by assumption) ?_
      rotate_left
      · intro w hSw
        go_simp
        first | done | with_reducible rfl
      try simp only [Act.put, List.setIfInBounds_toArray, List.set_cons_zero, List.set_cons_succ]
      refine wpAnyH_ready (rs := [6]) (by kernel_rfl) (by simp) ?_
      refine AllReadyH.cons (o := { dst := some 76, op := Op.call { callee := Callee.value (Operand.func 11), args := #[Operand.tmp 70, Operand.tmp 71, Operand.tmp 75], argTypes := #[24, 32, 3] }, type := 25, pos := _, after := #[{ on := 0, ground := Ground.data }, { on := 1, ground := Ground.data }, { on := 5, ground := Ground.data }], guard := none }) rfl (fun K hK => ?_) ?_
      · refine step_call3 (by rfl) (.tmp 70) (.tmp 71) (.tmp 75) 24 32 3 (by rfl) (by rfl) (by rfl) (by rfl) enter11 ?_
        refine (forge_two (T0.out) hpo'.out.1 hdB O0.out (by omega) z).mono ?_
        rintro e U1 ⟨rfl, ⟨S1, hT3⟩, ht⟩
        have hmo := hm5.out
        have hzo := Z0.out
        have R1 := Lib.hid (ht.blk R0.out (fun hb => by have := T0.out.a.hi _ hb.1; omega))
        have O1 := Lib.hid (ht.rd O0.out (fun b o s e hb => by cases e; have := T0.out.a.hi _ hb.1; omega))
        have K1 := Lib.hid (K0.out.trans (ht.below K0.out.size (fun b _ hb => Nat.le_trans hk1 (by first | exact T0.out.a.lo b hb.1 | exact T0.out.b.lo b hb.1))))
        have Z1 : Hid (w5.heap.size < U1.heap.size) := Lib.hid (Nat.lt_of_lt_of_le hzo ht.size)
        have T1 := Lib.hid hT3
        clear hT3 ht hmo hzo
        refine ⟨_, rfl, ?_⟩
        refine hK.out _ _ (hS.out _ R1.out K1.out) (fun hHeld => ?_)
        clear hK K
        try simp only [Act.put, List.setIfInBounds_toArray, List.set_cons_zero, List.set_cons_succ]
        refine wpAnyH_ready (rs := [13]) (by kernel_rfl) (by simp) ?_
        refine AllReadyH.cons (o := { dst := some 83, op := Op.call { callee := Callee.value (Operand.func 11), args := #[Operand.tmp 77, Operand.tmp 78, Operand.tmp 82], argTypes := #[24, 32, 3] }, type := 25, pos := _, after := #[{ on := 7, ground := Ground.data }, { on := 8, ground := Ground.data }, { on := 12, ground := Ground.data }, { on := 6, ground := Ground.chain }], guard := none }) rfl (fun K hK => ?_) ?_
        · refine step_call3 (by rfl) (.tmp 77) (.tmp 78) (.tmp 82) 24 32 3 (by rfl) (by rfl) (by rfl) (by rfl) enter11 ?_
          refine (forge_two (T1.out.sym) hpo'.out.1 hdB O1.out (by omega) z).mono ?_
          rintro e U2 ⟨rfl, ⟨S2, hT3⟩, ht⟩
          have hmo := hm5.out
          have hzo := Z1.out
          have R2 := Lib.hid (ht.blk R1.out (fun hb => by have := T0.out.b.hi _ hb.1; omega))
          have O2 := Lib.hid (ht.rd O1.out (fun b o s e hb => by cases e; have := T0.out.b.hi _ hb.1; omega))
          have K2 := Lib.hid (K1.out.trans (ht.below K1.out.size (fun b _ hb => Nat.le_trans hk1 (by first | exact T1.out.a.lo b hb.1 | exact T1.out.b.lo b hb.1))))
          have Z2 : Hid (w5.heap.size < U2.heap.size) := Lib.hid (Nat.lt_of_lt_of_le hzo ht.size)
          have T2 := Lib.hid hT3.sym
          clear hT3 ht hmo hzo
          refine ⟨_, rfl, ?_⟩
          refine hK.out _ _ (hS.out _ R2.out K2.out) (fun hHeld => ?_)
          clear hK K
          try simp only [Act.put, List.setIfInBounds_toArray, List.set_cons_zero, List.set_cons_succ]
          refine wpAnyH_take (i := 14) (oi := { dst := some 84, op := Op.binOp BinOp.neq 25 (Operand.tmp 76) (Operand.tmp 83) 25, type := 4, pos := _, after := #[{ on := 6, ground := Ground.data }, { on := 13, ground := Ground.data }], guard := none }) (v := ?_) rfl (by kernel_rfl) (by kernel_rfl) (by kernel_rfl) (fun _ _ _ h => h) (Or.inl ⟨by rfl, ?_⟩) (by assumption) ?_
          rotate_left
          · intro w hSw
            go_simp
            first | done | with_reducible rfl
          try simp only [Act.put, List.setIfInBounds_toArray, List.set_cons_zero, List.set_cons_succ]
          refine wpAnyH_done (by kernel_rfl) ?_ _
          refine NoPanic.normal ?_
          clear hHeld
          have TF : Hid (∃ m Sx Sy, Two U2 x y w1.heap.size m Sx Sy (pcs M (k + 1)) (pcs M (k + 1))) := Lib.hid (by rw [hstep.out]; exact ⟨_, _, _, T2.out⟩)
          go_wp2_with fail
          go_roundw
          case rel => exact ⟨k + 1, by omega, by go_num, TF, K2⟩
          case measure => simp [intOf]; omega
        exact AllReadyH.nil
      exact AllReadyH.nil
    · have hk' : k = n := by omega
      subst hk'
      have hx3 : all ≤ 1000 := n4
      obtain ⟨l1, l2, l3, l4⟩ := pieces_law (pcs M k) half all n2 n3 hx3
      have L4 := Lib.hid l4
      have hd1 := Lib.hid (due_two hT2'.out hpo'.out.1 half)
      rw [l1] at hd1
      go_wp2_with fail
      refine hd1.out.mono ?_
      rintro e u1 ⟨a1, m1, c1, S1, rfl, hm1, hTo, hTw, hSS, ht⟩
      have D1 := Lib.hid hTo
      have T1 := Lib.hid hTw
      have K1 := Lib.hid (hb.out.trans (ht.below hb.out.size (fun b _ e => by rw [e]; exact Nat.le_trans hk1 (hT2'.out.a.lo _ hT2'.out.snx))))
      have M1 := Lib.hid hm1
      clear hTo hTw hSS ht hd1 hm1
      have hd2 := Lib.hid (due_two T1.out (due_ok hpo'.out.1 hpo'.out.2.2.1 half) all)
      rw [l2] at hd2
      go_wp2_with fail
      refine hd2.out.mono ?_
      rintro e u2 ⟨a2, m2, c2, S2, rfl, hm2, hTo, hTw, hSS, ht⟩
      have D2 := Lib.hid hTo
      have T2 := Lib.hid hTw
      have D12 := Lib.hid (D1.out.step (S' := fun g => S2 g ∨ Sy g) ht (fun g e => .inl (by rw [e]; exact T1.out.snx)) (fun g hg => .inl (hg.imp (hSS g) id)))
      have K2 := Lib.hid (K1.out.trans (ht.below K1.out.size (fun b _ e => by rw [e]; exact Nat.le_trans hk1 (T1.out.a.lo _ T1.out.snx))))
      have M2 := Lib.hid hm2
      clear hTo hTw hSS ht hd2 hm2 D1 K1
      have hd3 := Lib.hid (due_two T2.out.sym hpo'.out.1 all)
      rw [l3] at hd3
      go_wp2_with fail
      refine hd3.out.mono ?_
      rintro e u3 ⟨a3, m3, c3, S3, rfl, hm3, hTo, hTw, hSS, ht⟩
      have D3 := Lib.hid hTo
      have D13 := Lib.hid (D12.out.step (S' := fun g => S2 g ∨ Sy g) ht (fun g e => .inr (by rw [e]; exact T2.out.sym.snx)) (fun g hg => .inl hg))
      have D23 := Lib.hid (D2.out.step (S' := fun g => S2 g ∨ Sy g) ht (fun g e => .inr (by rw [e]; exact T2.out.sym.snx)) (fun g hg => .inl hg))
      have K3 := Lib.hid (K2.out.trans (ht.below K2.out.size (fun b _ e => by rw [e]; exact Nat.le_trans hk1 (T2.out.b.lo _ T2.out.sym.snx))))
      have M3 := Lib.hid hm3
      clear hTo hTw hSS ht hd3 hm3 D12 D2 K2 T1 T2 l1 l2 l3 l4
      have q1 := due_len hpo'.out.1 half
      have q2 := due_len (due_ok hpo'.out.1 hpo'.out.2.2.1 half) all
      have q3 := due_len hpo'.out.1 all
      rw [← M1.out] at q1
      rw [← M2.out] at q2
      rw [← M3.out] at q3
      obtain ⟨W4, hW4⟩ : ∃ W, u3.alloc (.cells #[] 32) = W := ⟨_, rfl⟩
      have O4 : Hid (Own pkE W4 u3.heap.size (.slice (some ⟨u3.heap.size, 0, none⟩) 0 0) []) := Lib.hid (by rw [← hW4]; exact Own.made pkE u3 #[] [] 0 rfl rfl (by decide))
      have j4 : Hid (Below u3.heap.size u3 W4) := Lib.hid (by rw [← hW4]; exact alloc_bel _ _)
      obtain ⟨OP, p1, p2, p3⟩ := D13.out.own
      obtain ⟨b1, g1, f1, w5, r1, o1, j5⟩ := app_pk O4.out (p1.ext j4.out) j4.out.size (by simp) (by omega)
      have J5 := j4.out.trans (j5.mono (Nat.le_refl _))
      obtain ⟨OQ, s1, s2, s3⟩ := D23.out.own
      have hg1 := (own_rd_at o1).2
      have hop := p1.len
      obtain ⟨b2, g2, f2, w6, r2, o2, j6⟩ := app_pk o1 (s1.ext J5) J5.size (by simp; omega) (by omega)
      have J6 := J5.trans j6
      have hR : Hid (RdP w6 b2 g2 f2 ((dueS (pcs M k) half).1.map (fun f => (f.h, f.d)) ++ (dueS (dueS (pcs M k) half).2.2 all).1.map (fun f => (f.h, f.d)))) := Lib.hid ⟨_, (own_rd_at o2).1, by rw [List.nil_append, List.length_append, List.length_append, p2, s2], by
        rw [List.nil_append]
        exact reads_app p2 (fun j q x hq hx => ⟨(p3 j q x hq hx).1, (p3 j q x hq hx).2.ext J6⟩) (fun j q x hq hx => ⟨(s3 j q x hq hx).1, (s3 j q x hq hx).2.ext J6⟩)⟩
      rw [← List.map_append, L4.out] at hR
      have R3 := Lib.hid (D3.out.rdP.ext J6)
      have K6 := Lib.hid (K3.out.trans (J6.mono K3.out.size))
      have hpk := Lib.hid (packets_any hR.out R3.out (by have := (own_rd_at o2).2; have h8 := s1.len; simp at this; omega))
      rw [sameL_refl] at hpk
      have r1' := Lib.hid r1
      have r2' := Lib.hid r2
      clear p1 p2 p3 s1 s2 s3 o1 o2 j5 j6 J5 J6 hR R3 D13 D23 D3 O4 j4 r1 r2 hg1 hop
      go_wp2_with (first | refine wpList_append_on _ (by rfl) (.tmp 117) (.tmp 118) 35 35 rfl _ _ rfl rfl _ _ r1'.out ?_ | refine wpList_append_on _ (by rfl) (.tmp 119) (.tmp 120) 35 35 rfl _ _ rfl rfl _ _ r2'.out ?_)
      refine hpk.out.mono ?_
      rintro e z ⟨rfl, hz⟩
      have KZ := Lib.hid (K6.out.trans (hz.mono K6.out.size))
      go_wp2_with fail
      go_ret
      exact ⟨rfl, KZ.out⟩
section
open Go.ChangeShapes Go.WideShapes
variable {H : Type} {enc : TypeId × Value → H}
set_option maxRecDepth 100000 in
theorem netPieces_law {W : World} {r : Reach} {b0 : Nat} {ts : List TypeId} {ds : List (DataW H)} (v0 : Value) (d0 : DataW H) (p0 : List MemPlace) (h0 : DataW.Trod enc Try.prog W 0 (fun _ => true) true 22 v0 d0 p0) (hv0 : Value.okWide Try.prog W r b0 22 v0)
    (_ : (DataW.weightsEach Try.prog ts ds).all (· ≤ reachBytes) = true) (z0 : Sz Try.prog 22 d0) (half : Int) {q : Prop} (_ : q) (all : Int) {q' : Prop} (_ : q') (_ : World) : Calls Try.prog 3 #[v0, .int .i64 half, .int .i64 all] W fun e w' => e = .returned (.bool true) ∧ Below W.heap.size W w' := by
  obtain ⟨a0, n0, c0, rfl⟩ := okWide_slice (by kernel_rfl : Try.prog.underlying 22 = some (.slice 3)) hv0
  obtain ⟨fuel, hf⟩ := h0
  obtain ⟨a, n, c, M, e, h, _⟩ := in_ints (v := .slice a0 n0 c0) (y := (d0, p0)) (by simpa only [Value.cells] using hf) z0
  rw [e]
  exact pieces_any h half all
end
end Go.Proofs.Ythdnbipfdahnlaa
