/- ClockScript: the walk. -/
import Derived.Test.YtckimjmidbdalaaAct
import Derived.Deep.SlicePairs
namespace Go.Proofs.Ytckimjmidbdalaa
open Go.RowKit
theorem act_any {w : World} {cc rc : Nat} {now : Int} {L : List Tk} {m : Nat} (h : Pair w cc rc now L m) (hm : m ≤ 999) (k a y : Int) :
    Calls Try.prog 24 #[.pointer (some ⟨cc, 0, none⟩), .pointer (some ⟨rc, 0, none⟩), actV k a y] w fun e w' => e = .returned (.bool true) ∧ (∃ now' L', Pair w' cc rc now' L' (m + 1)) ∧ Bel w w' cc rc := by
  by_cases h0 : k = 0
  · subst h0
    by_cases hn : a < 0 ∨ mx < a
    · exact act_add_no h hm a y hn
    · exact act_add_yes h hm a y (by omega) (by omega)
  · by_cases h1 : k = 1
    · subst h1; exact act_pop h hm a y
    · by_cases h2 : k = 2
      · subst h2
        by_cases hn : a < now ∨ mx < a
        · exact act_go_no h hm a y hn
        · exact act_go_yes h hm a y (by omega) (by omega)
      · by_cases h3 : k = 3
        · subst h3; exact act_drop h hm a y
        · by_cases h4 : k = 4
          · subst h4; exact act_next h hm a y
          · exact act_other h hm a y k h0 h1 h2 h3 h4
theorem pair_same {w w' : World} {cc rc : Nat} {now : Int} {L : List Tk} {m : Nat} (h : Pair w cc rc now L m) (hh : w'.heap = w.heap) : Pair w' cc rc now L m := by
  obtain ⟨o, ro, h1, h2, h3⟩ := h; exact ⟨o, ro, clk_same h1 hh, rck_same h2 hh, h3.any⟩
abbrev A3 := Int × Int × Int
def actE : Enc A3 := ⟨51, 3, fun t => [.int .i64 t.1, .int .i64 t.2.1, .int .i64 t.2.2], (0, 0, 0), fun _ => rfl, fun x v hv => by simp at hv; rcases hv with rfl | rfl | rfl <;> rfl, by decide⟩
theorem rd_act {w : World} {a : Option Addr} {n c : Nat} {l : List A3} (h : Rd actE w a n c l) (h0 : 0 < n) : ∃ b o, a = some ⟨b, o, none⟩ ∧ b < w.heap.size ∧ ∀ j (hj : j < l.length), w.cell? ⟨b, o + j * 3, none⟩ = some (.int .i64 l[j].1) ∧ w.cell? ⟨b, o + j * 3 + 1, none⟩ = some (.int .i64 l[j].2.1) ∧ w.cell? ⟨b, o + j * 3 + 2, none⟩ = some (.int .i64 l[j].2.2) := by
  obtain ⟨b, o, h1, h3, h2⟩ := h.addr h0
  refine ⟨b, o, h1, h3, fun j hj => ⟨?_, ?_, ?_⟩⟩
  · have := h2 j hj 0 (by decide); simpa [actE] using this
  · have := h2 j hj 1 (by decide); simpa [actE, Nat.add_assoc] using this
  · have := h2 j hj 2 (by decide); simpa [actE, Nat.add_assoc] using this
theorem wpAnyH_weaken {P : Program} {md : Region.Mode} {ops : Array Oper} {Q : Exit → Act → World → Prop} {S S' : World → Prop} (hS : ∀ w, S' w → S w) : ∀ (fuel : Nat) (listed : Array Bool) (a : Act) (w : World), wpAnyH P md ops Q S' fuel listed a w → wpAnyH P md ops Q S fuel listed a w
  | 0, _, _, _, h => h
  | fuel + 1, _, _, _, h => ⟨h.1, fun i hi => wpOp_mono (fun a' w' h' => ⟨hS _ h'.1, wpAnyH_weaken hS fuel _ a' w' h'.2⟩) (h.2 i hi)⟩
set_option linter.unusedSimpArgs false in
set_option maxHeartbeats 8000000 in
set_option maxRecDepth 100000 in
theorem clockScript_walk {W : World} {a : Option Addr} {n c : Nat} {l : List A3} (h : Rd actE W a n c l) :
    Calls Try.prog 7 #[.slice a n c] W fun e w' => e = .returned (.bool true) ∧ Below W.heap.size W w' := by
  have hl := h.len
  subst hl
  have hH := Lib.hid h; clear h
  by_cases h60 : l.length ≤ 200
  · go_enter Try.func7, Try.ntmps7
    go_wp2_with fail
    refine clk_new.mono ?_
    rintro e W1 ⟨rfl, hC, hb⟩
    have hC1 := Lib.hid hC
    have hb1 := Lib.hid hb
    have hz1 := hC.lt
    clear hC hb
    go_wp2_with fail
    generalize hW2 : W1.alloc (.cells #[.int .i64 0, .slice none 0 0] 48) = w2 at *
    have hb2 : Hid (Below W.heap.size W w2) := Lib.hid (by rw [← hW2]; exact hb1.out.alloc (by omega) _)
    have hB2 : Blk w2 W1.heap.size 48 (0, 0) [.int .i64 0, .slice none 0 0] := by rw [← hW2]; exact Blk.new W1 48 (0, 0) #[.int .i64 0, .slice none 0 0]
    have hP2 : Hid (Pair w2 W.heap.size W1.heap.size 0 [] 0) := Lib.hid ⟨none, none, by rw [← hW2]; exact hC1.out.ext ((Below.refl _ W1).alloc (Nat.le_refl _) _) hz1 (fun j hj => by cases hj), ⟨none, 0, hB2, Own.nil _ _ _, rfl⟩, ⟨by omega, by simp, by simp, by simp⟩⟩
    clear hW2 hB2 hC1 hb1
    generalize hrc : W1.heap.size = rc at *
    clear hrc
    go_loopw [5] (fun i wr => ∃ k : Nat, k ≤ l.length ∧ i = .int .i64 k ∧ Below W.heap.size W wr ∧ ∃ now L, Pair wr W.heap.size rc now L k)
      (fun i _ => l.length - (intOf i).toNat)
    case atStart => exact ⟨0, Nat.zero_le _, rfl, hb2.out, 0, [], hP2.out⟩
    case round =>
      clear hb2 hP2
      obtain ⟨k, hk, rfl, hb, now, L, hP⟩ := hrel
      have hPP := Lib.hid hP
      clear hP
      by_cases hlt : k < l.length
      · obtain ⟨b, o, rfl, hbl, hcs⟩ := rd_act hH.out (by omega)
        obtain ⟨q0, q1, q2⟩ := hcs k hlt
        generalize l[k] = t at *
        obtain ⟨tk, ta, ty⟩ := t
        simp only at q0 q1 q2
        have p0 := cell_below hb q0
        have p1 := cell_below hb q1
        have p2 := cell_below hb q2
        clear hcs
        go_wp2_with fail
        refine wp_region_noPanic ?_
        refine wp_region_held_drew (S := fun w' => Below W.heap.size W w' ∧ w'.cell? ⟨b, o + k * 3, none⟩ = some (.int .i64 tk) ∧ w'.cell? ⟨b, o + k * 3 + 1, none⟩ = some (.int .i64 ta) ∧ w'.cell? ⟨b, o + k * 3 + 2, none⟩ = some (.int .i64 ty)) (by kernel_rfl) ⟨hb.drew, p0, p1, p2⟩ (fun hHeld => ?_)
        refine wpAnyH_take (i := 0) (oi := { dst := some 18, op := Op.move (Operand.tmp 3), type := 35, pos := _, after := #[], guard := none }) (v := ?_) rfl (by kernel_rfl) (by kernel_rfl) (by kernel_rfl) (fun _ _ _ h => h) (Or.inl ⟨by rfl, ?_⟩) (by assumption) ?_
        rotate_left
        · intro w hSw
          go_simp
          first | done | with_reducible rfl
        try simp only [Act.put, List.setIfInBounds_toArray, List.set_cons_zero, List.set_cons_succ]
        refine wpAnyH_take (i := 1) (oi := { dst := some 19, op := Op.move (Operand.tmp 4), type := 45, pos := _, after := #[], guard := none }) (v := ?_) rfl (by kernel_rfl) (by kernel_rfl) (by kernel_rfl) (fun _ _ _ h => h) (Or.inl ⟨by rfl, ?_⟩) (by assumption) ?_
        rotate_left
        · intro w hSw
          go_simp
          first | done | with_reducible rfl
        try simp only [Act.put, List.setIfInBounds_toArray, List.set_cons_zero, List.set_cons_succ]
        refine wpAnyH_take (i := 2) (oi := { dst := some 20, op := Op.move (Operand.tmp 0), type := 44, pos := _, after := #[], guard := none }) (v := ?_) rfl (by kernel_rfl) (by kernel_rfl) (by kernel_rfl) (fun _ _ _ h => h) (Or.inl ⟨by rfl, ?_⟩) (by assumption) ?_
        rotate_left
        · intro w hSw
          go_simp
          first | done | with_reducible rfl
        try simp only [Act.put, List.setIfInBounds_toArray, List.set_cons_zero, List.set_cons_succ]
        refine wpAnyH_take (i := 3) (oi := { dst := some 21, op := Op.move (Operand.tmp 5), type := 3, pos := _, after := #[], guard := none }) (v := ?_) rfl (by kernel_rfl) (by kernel_rfl) (by kernel_rfl) (fun _ _ _ h => h) (Or.inl ⟨by rfl, ?_⟩) (by assumption) ?_
        rotate_left
        · intro w hSw
          go_simp
          first | done | with_reducible rfl
        try simp only [Act.put, List.setIfInBounds_toArray, List.set_cons_zero, List.set_cons_succ]
        refine wpAnyH_take (i := 4) (oi := { dst := some 22, op := Op.indexAddr 44 (Operand.tmp 20) (Operand.tmp 21), type := 0, pos := _, after := #[{ on := 2, ground := Ground.data }, { on := 3, ground := Ground.data }], guard := none }) (v := ?_) rfl (by kernel_rfl) (by kernel_rfl) (by kernel_rfl) (fun _ _ _ h => h) (Or.inl ⟨by rfl, ?_⟩) (by assumption) ?_
        rotate_left
        · intro w hSw
          go_simp
          first | done | with_reducible rfl
        try simp only [Act.put, List.setIfInBounds_toArray, List.set_cons_zero, List.set_cons_succ]
        refine wpAnyH_take (i := 5) (oi := { dst := some 23, op := Op.load 51 (Operand.tmp 22), type := 51, pos := _, after := #[{ on := 4, ground := Ground.data }], guard := none }) (v := ?_) rfl (by kernel_rfl) (by kernel_rfl) (by kernel_rfl) (fun _ _ _ h => h) (Or.inl ⟨by rfl, ?_⟩) (by assumption) ?_
        rotate_left
        · intro w hSw
          go_simp
          first | done | with_reducible rfl
        try simp only [Act.put, List.setIfInBounds_toArray, List.set_cons_zero, List.set_cons_succ]
        refine wpAnyH_ready (rs := [6]) (by kernel_rfl) (by simp) ?_
        refine AllReadyH.cons (o := { dst := some 24, op := Op.call { callee := Callee.value (Operand.func 24), args := #[Operand.tmp 18, Operand.tmp 19, Operand.tmp 23], argTypes := #[35, 45, 51] }, type := 4, pos := _, after := #[{ on := 0, ground := Ground.data }, { on := 1, ground := Ground.data }, { on := 5, ground := Ground.data }], guard := none }) rfl (fun K hK => ?_) AllReadyH.nil
        go_simp
        go_at_call 24
        refine (act_any (pair_same hPP.out (by rfl)) (by omega) tk ta ty).mono ?_
        rintro e w3 ⟨rfl, ⟨now3, L3, o3, ro3, hC3, hR3, hT3⟩, hE3⟩
        have hC4 := Lib.hid hC3
        obtain ⟨a3, cap3, hB3, hO3, hro3⟩ := hR3
        have hR4 : Hid (Rck w3 rc ro3 now3 L3) := Lib.hid ⟨a3, cap3, hB3, hO3, hro3⟩
        have r0 : w3.cell? ⟨rc, 0, none⟩ = some (.int .i64 now3) := (by rw [hB3.cell]; rfl)
        have r1 : w3.cell? ⟨rc, 1, none⟩ = some (.slice a3 L3.length cap3) := (by rw [hB3.cell]; rfl)
        have hT4 := Lib.hid hT3
        have hb3 := Below.trans hb.drew (hE3 W.heap.size (Nat.le_refl _) (by omega))
        clear hC3 hB3 hO3 hT3
        go_wp2_with fail
        refine hK.out _ _ ⟨hb3, cell_below hb3 q0, cell_below hb3 q1, cell_below hb3 q2⟩ (fun hHeld => ?_)
        clear hK K
        try simp only [Act.put, List.setIfInBounds_toArray, List.set_cons_zero, List.set_cons_succ]
        refine wpAnyH_weaken (S' := fun w' => (Below W.heap.size W w' ∧ w'.cell? ⟨b, o + k * 3, none⟩ = some (.int .i64 tk) ∧ w'.cell? ⟨b, o + k * 3 + 1, none⟩ = some (.int .i64 ta) ∧ w'.cell? ⟨b, o + k * 3 + 2, none⟩ = some (.int .i64 ty)) ∧ w'.cell? ⟨rc, 0, none⟩ = some (.int .i64 now3) ∧ w'.cell? ⟨rc, 1, none⟩ = some (.slice a3 L3.length cap3)) (fun _ h => h.1) _ _ _ _ ?_
        have hHeld := And.intro hHeld (And.intro r0 r1)
        refine wpAnyH_take (i := 7) (oi := { dst := some 25, op := Op.unOp UnOp.not 4 (Operand.tmp 24), type := 4, pos := _, after := #[{ on := 6, ground := Ground.data }], guard := none }) (v := ?_) rfl (by kernel_rfl) (by kernel_rfl) (by kernel_rfl) (fun _ _ _ h => h) (Or.inl ⟨by rfl, ?_⟩) (by assumption) ?_
        rotate_left
        · intro w hSw
          go_simp
          first | done | with_reducible rfl
        try simp only [Act.put, List.setIfInBounds_toArray, List.set_cons_zero, List.set_cons_succ]
        refine wpAnyH_take (i := 8) (oi := { dst := some 26, op := Op.move (Operand.tmp 25), type := 4, pos := _, after := #[{ on := 7, ground := Ground.data }, { on := 6, ground := Ground.chain }], guard := none }) (v := ?_) rfl (by kernel_rfl) (by kernel_rfl) (by kernel_rfl) (fun _ _ _ h => h) (Or.inl ⟨by rfl, ?_⟩) (by assumption) ?_
        rotate_left
        · intro w hSw
          go_simp
          first | done | with_reducible rfl
        try simp only [Act.put, List.setIfInBounds_toArray, List.set_cons_zero, List.set_cons_succ]
        refine wpAnyH_take (i := 9) (oi := { dst := some 27, op := Op.move (Operand.tmp 3), type := 35, pos := _, after := #[{ on := 8, ground := Ground.guard }], guard := some (8, false) }) (v := ?_) rfl (by kernel_rfl) (by kernel_rfl) (by kernel_rfl) (fun _ _ _ h => h) (Or.inl ⟨by rfl, ?_⟩) (by assumption) ?_
        rotate_left
        · intro w hSw
          go_simp
          first | done | with_reducible rfl
        try simp only [Act.put, List.setIfInBounds_toArray, List.set_cons_zero, List.set_cons_succ]
        refine wpAnyH_take (i := 11) (oi := { dst := some 29, op := Op.move (Operand.tmp 4), type := 45, pos := _, after := #[{ on := 8, ground := Ground.guard }], guard := some (8, false) }) (v := ?_) rfl (by kernel_rfl) (by kernel_rfl) (by kernel_rfl) (fun _ _ _ h => h) (Or.inl ⟨by rfl, ?_⟩) (by assumption) ?_
        rotate_left
        · intro w hSw
          go_simp
          first | done | with_reducible rfl
        try simp only [Act.put, List.setIfInBounds_toArray, List.set_cons_zero, List.set_cons_succ]
        refine wpAnyH_take (i := 12) (oi := { dst := some 30, op := Op.nilCheck (Operand.tmp 29), type := 0, pos := _, after := #[{ on := 11, ground := Ground.data }, { on := 8, ground := Ground.guard }], guard := some (8, false) }) (v := ?_) rfl (by kernel_rfl) (by kernel_rfl) (by kernel_rfl) (fun _ _ _ h => h) (Or.inl ⟨by rfl, ?_⟩) (by assumption) ?_
        rotate_left
        · intro w hSw
          go_simp
          first | done | with_reducible rfl
        try simp only [Act.put, List.setIfInBounds_toArray, List.set_cons_zero, List.set_cons_succ]
        refine wpAnyH_take (i := 13) (oi := { dst := some 31, op := Op.fieldAddr 48 (Operand.tmp 30) 0, type := 0, pos := _, after := #[{ on := 12, ground := Ground.data }, { on := 8, ground := Ground.guard }], guard := some (8, false) }) (v := ?_) rfl (by kernel_rfl) (by kernel_rfl) (by kernel_rfl) (fun _ _ _ h => h) (Or.inl ⟨by rfl, ?_⟩) (by assumption) ?_
        rotate_left
        · intro w hSw
          go_simp
          first | done | with_reducible rfl
        try simp only [Act.put, List.setIfInBounds_toArray, List.set_cons_zero, List.set_cons_succ]
        refine wpAnyH_take (i := 14) (oi := { dst := some 32, op := Op.load 3 (Operand.tmp 31), type := 3, pos := _, after := #[{ on := 13, ground := Ground.data }, { on := 8, ground := Ground.guard }], guard := some (8, false) }) (v := ?_) rfl (by kernel_rfl) (by kernel_rfl) (by kernel_rfl) (fun _ _ _ h => h) (Or.inl ⟨by rfl, ?_⟩) (by assumption) ?_
        rotate_left
        · intro w hSw
          go_simp
          first | done | with_reducible rfl
        try simp only [Act.put, List.setIfInBounds_toArray, List.set_cons_zero, List.set_cons_succ]
        refine wpAnyH_ready (rs := [10]) (by kernel_rfl) (by simp) ?_
        refine AllReadyH.cons (o := { dst := some 28, op := Op.call { callee := Callee.value (Operand.func 21), args := #[Operand.tmp 27], argTypes := #[35] }, type := 3, pos := _, after := #[{ on := 9, ground := Ground.data }, { on := 8, ground := Ground.chain }, { on := 8, ground := Ground.guard }], guard := some (8, false) }) rfl (fun K hK => ?_) AllReadyH.nil
        go_simp
        go_at_call 21
        refine (clk_now (clk_same hC4.out (by rfl))).mono ?_
        rintro e w5 ⟨rfl, rfl⟩
        go_wp2_with fail
        refine hK.out _ _ ⟨⟨hb3, cell_below hb3 q0, cell_below hb3 q1, cell_below hb3 q2⟩, r0, r1⟩ (fun hHeld => ?_)
        clear hK K
        try simp only [Act.put, List.setIfInBounds_toArray, List.set_cons_zero, List.set_cons_succ]
        refine wpAnyH_take (i := 15) (oi := { dst := some 33, op := Op.binOp BinOp.neq 3 (Operand.tmp 28) (Operand.tmp 32) 3, type := 4, pos := _, after := #[{ on := 10, ground := Ground.data }, { on := 14, ground := Ground.data }, { on := 8, ground := Ground.guard }], guard := some (8, false) }) (v := ?_) rfl (by kernel_rfl) (by kernel_rfl) (by kernel_rfl) (fun _ _ _ h => h) (Or.inl ⟨by rfl, ?_⟩) (by assumption) ?_
        rotate_left
        · intro w hSw
          go_simp
          first | done | with_reducible rfl
        try simp only [Act.put, List.setIfInBounds_toArray, List.set_cons_zero, List.set_cons_succ]
        refine wpAnyH_take (i := 16) (oi := { dst := some 34, op := Op.pick (Operand.tmp 26) (Operand.const (Value.bool true)) (Operand.tmp 33), type := 4, pos := _, after := #[{ on := 8, ground := Ground.data }, { on := 15, ground := Ground.data }], guard := none }) (v := ?_) rfl (by kernel_rfl) (by kernel_rfl) (by kernel_rfl) (fun _ _ _ h => h) (Or.inl ⟨by rfl, ?_⟩) (by assumption) ?_
        rotate_left
        · intro w hSw
          go_simp
          first | done | with_reducible rfl
        try simp only [Act.put, List.setIfInBounds_toArray, List.set_cons_zero, List.set_cons_succ]
        refine wpAnyH_take (i := 17) (oi := { dst := some 35, op := Op.move (Operand.tmp 34), type := 4, pos := _, after := #[{ on := 16, ground := Ground.data }, { on := 10, ground := Ground.chain }], guard := none }) (v := ?_) rfl (by kernel_rfl) (by kernel_rfl) (by kernel_rfl) (fun _ _ _ h => h) (Or.inl ⟨by rfl, ?_⟩) (by assumption) ?_
        rotate_left
        · intro w hSw
          go_simp
          first | done | with_reducible rfl
        try simp only [Act.put, List.setIfInBounds_toArray, List.set_cons_zero, List.set_cons_succ]
        refine wpAnyH_take (i := 18) (oi := { dst := some 36, op := Op.move (Operand.tmp 3), type := 35, pos := _, after := #[{ on := 17, ground := Ground.guard }], guard := some (17, false) }) (v := ?_) rfl (by kernel_rfl) (by kernel_rfl) (by kernel_rfl) (fun _ _ _ h => h) (Or.inl ⟨by rfl, ?_⟩) (by assumption) ?_
        rotate_left
        · intro w hSw
          go_simp
          first | done | with_reducible rfl
        try simp only [Act.put, List.setIfInBounds_toArray, List.set_cons_zero, List.set_cons_succ]
        refine wpAnyH_take (i := 20) (oi := { dst := some 38, op := Op.move (Operand.tmp 4), type := 45, pos := _, after := #[{ on := 17, ground := Ground.guard }], guard := some (17, false) }) (v := ?_) rfl (by kernel_rfl) (by kernel_rfl) (by kernel_rfl) (fun _ _ _ h => h) (Or.inl ⟨by rfl, ?_⟩) (by assumption) ?_
        rotate_left
        · intro w hSw
          go_simp
          first | done | with_reducible rfl
        try simp only [Act.put, List.setIfInBounds_toArray, List.set_cons_zero, List.set_cons_succ]
        refine wpAnyH_take (i := 21) (oi := { dst := some 39, op := Op.nilCheck (Operand.tmp 38), type := 0, pos := _, after := #[{ on := 20, ground := Ground.data }, { on := 17, ground := Ground.guard }], guard := some (17, false) }) (v := ?_) rfl (by kernel_rfl) (by kernel_rfl) (by kernel_rfl) (fun _ _ _ h => h) (Or.inl ⟨by rfl, ?_⟩) (by assumption) ?_
        rotate_left
        · intro w hSw
          go_simp
          first | done | with_reducible rfl
        try simp only [Act.put, List.setIfInBounds_toArray, List.set_cons_zero, List.set_cons_succ]
        refine wpAnyH_take (i := 22) (oi := { dst := some 40, op := Op.fieldAddr 48 (Operand.tmp 39) 1, type := 0, pos := _, after := #[{ on := 21, ground := Ground.data }, { on := 17, ground := Ground.guard }], guard := some (17, false) }) (v := ?_) rfl (by kernel_rfl) (by kernel_rfl) (by kernel_rfl) (fun _ _ _ h => h) (Or.inl ⟨by rfl, ?_⟩) (by assumption) ?_
        rotate_left
        · intro w hSw
          go_simp
          first | done | with_reducible rfl
        try simp only [Act.put, List.setIfInBounds_toArray, List.set_cons_zero, List.set_cons_succ]
        refine wpAnyH_take (i := 23) (oi := { dst := some 41, op := Op.load 46 (Operand.tmp 40), type := 46, pos := _, after := #[{ on := 22, ground := Ground.data }, { on := 17, ground := Ground.guard }], guard := some (17, false) }) (v := ?_) rfl (by kernel_rfl) (by kernel_rfl) (by kernel_rfl) (fun _ _ _ h => h) (Or.inl ⟨by rfl, ?_⟩) (by assumption) ?_
        rotate_left
        · intro w hSw
          go_simp
          first | done | with_reducible rfl
        try simp only [Act.put, List.setIfInBounds_toArray, List.set_cons_zero, List.set_cons_succ]
        refine wpAnyH_take (i := 24) (oi := { dst := some 42, op := Op.call { callee := Callee.builtin Builtin.len, args := #[Operand.tmp 41], argTypes := #[46] }, type := 3, pos := _, after := #[{ on := 23, ground := Ground.data }, { on := 17, ground := Ground.guard }], guard := some (17, false) }) (v := ?_) rfl (by kernel_rfl) (by kernel_rfl) (by kernel_rfl) (fun _ _ _ h => h) (Or.inl ⟨by rfl, ?_⟩) (by assumption) ?_
        rotate_left
        · intro w hSw
          go_simp
          first | done | with_reducible rfl
        try simp only [Act.put, List.setIfInBounds_toArray, List.set_cons_zero, List.set_cons_succ]
        refine wpAnyH_ready (rs := [19]) (by kernel_rfl) (by simp) ?_
        refine AllReadyH.cons (o := { dst := some 37, op := Op.call { callee := Callee.value (Operand.func 19), args := #[Operand.tmp 36], argTypes := #[35] }, type := 3, pos := _, after := #[{ on := 18, ground := Ground.data }, { on := 17, ground := Ground.chain }, { on := 17, ground := Ground.guard }], guard := some (17, false) }) rfl (fun K hK => ?_) AllReadyH.nil
        go_simp
        go_at_call 19
        refine (clk_len (clk_same hC4.out (by rfl))).mono ?_
        rintro e w6 ⟨rfl, rfl⟩
        go_wp2_with fail
        refine hK.out _ _ ⟨⟨hb3, cell_below hb3 q0, cell_below hb3 q1, cell_below hb3 q2⟩, r0, r1⟩ (fun hHeld => ?_)
        clear hK K
        try simp only [Act.put, List.setIfInBounds_toArray, List.set_cons_zero, List.set_cons_succ]
        refine wpAnyH_take (i := 25) (oi := { dst := some 43, op := Op.binOp BinOp.neq 3 (Operand.tmp 37) (Operand.tmp 42) 3, type := 4, pos := _, after := #[{ on := 19, ground := Ground.data }, { on := 24, ground := Ground.data }, { on := 17, ground := Ground.guard }], guard := some (17, false) }) (v := ?_) rfl (by kernel_rfl) (by kernel_rfl) (by kernel_rfl) (fun _ _ _ h => h) (Or.inl ⟨by rfl, ?_⟩) (by assumption) ?_
        rotate_left
        · intro w hSw
          go_simp
          first | done | with_reducible rfl
        try simp only [Act.put, List.setIfInBounds_toArray, List.set_cons_zero, List.set_cons_succ]
        refine wpAnyH_take (i := 26) (oi := { dst := some 44, op := Op.pick (Operand.tmp 35) (Operand.const (Value.bool true)) (Operand.tmp 43), type := 4, pos := _, after := #[{ on := 17, ground := Ground.data }, { on := 25, ground := Ground.data }], guard := none }) (v := ?_) rfl (by kernel_rfl) (by kernel_rfl) (by kernel_rfl) (fun _ _ _ h => h) (Or.inl ⟨by rfl, ?_⟩) (by assumption) ?_
        rotate_left
        · intro w hSw
          go_simp
          first | done | with_reducible rfl
        try simp only [Act.put, List.setIfInBounds_toArray, List.set_cons_zero, List.set_cons_succ]
        refine wpAnyH_done (by kernel_rfl) ?_ _
        refine NoPanic.normal ?_
        go_wp2_with fail
        go_roundw
        case rel => exact ⟨k + 1, by omega, by go_num, hb3, now3, L3, o3, ro3, clk_same hC4.out (by rfl), rck_same hR4.out (by rfl), hT4.out.any⟩
        case measure => simp [intOf]; omega
      · go_wp2_with fail
        go_ret
        exact ⟨rfl, hb⟩
  · go_enter Try.func7, Try.ntmps7
    go_wp2
    go_ret
    exact ⟨rfl, Below.refl _ _⟩
section
open Go.ChangeShapes Go.WideShapes Go.Deep
def fieldsOf (P : Program) (t : TypeId) : List (TypeId × Nat) := match P.underlying t with
  | some (.struct fs) => fs.toList.map fun f => (f.type, f.offset)
  | _ => []
theorem three_fields {P : Program} {t a b c d e f : Nat} (h : fieldsOf P t = [(a, b), (c, d), (e, f)]) : ∃ f0 f1 f2 : Field, P.underlying t = some (.struct #[f0, f1, f2]) ∧ f0.offset = b ∧ f1.offset = d ∧ f2.offset = f ∧ f0.type = a ∧ f1.type = c ∧ f2.type = e := by
  unfold fieldsOf at h
  split at h
  · rename_i fs hfs
    obtain ⟨fl⟩ := fs
    match fl, h with
    | [f0, f1, f2], h =>
      simp at h
      exact ⟨f0, f1, f2, hfs, h.1.2, h.2.1.2, h.2.2.2, h.1.1, h.2.1.1, h.2.2.1⟩
  · cases h
set_option maxRecDepth 100000 in
theorem open_acts {H : Type} {enc : TypeId × Value → H} {w : World} {v : Value} {d : DataW H} {p : List MemPlace} {r : Reach} {b0 : Nat} (hv : Value.okWide Try.prog w r b0 44 v) (h : DataW.Trod enc Try.prog w 0 (fun _ => true) true 44 v d p) :
    ∃ a n c l, v = .slice a n c ∧ Rd actE w a n c l := by
  obtain ⟨a0, n0, c0, rfl⟩ := okWide_slice (e := 51) (by kernel_rfl) hv
  obtain ⟨fuel, hf⟩ := h
  obtain ⟨f0, f1, f2, he, o0, o1, o2, t0, t1, t2⟩ := three_fields (P := Try.prog) (t := 51) (a := 3) (b := 0) (c := 3) (d := 1) (e := 3) (f := 2) (by kernel_rfl)
  have ce : Try.prog.cellsOf 51 = 3 := by kernel_rfl
  have c3 : Try.prog.cellsOf 3 = 1 := by kernel_rfl
  rcases open_slice (t := 44) (e := 51) (by kernel_rfl) hf with ⟨hcs, _⟩ | ⟨x, len, cap, m, k, D, Pl, hcs, _, hl, hm, hmm, _, hx⟩
  · simp [Value.cells] at hcs
    obtain ⟨rfl, rfl, rfl⟩ := hcs
    exact ⟨none, 0, 0, [], rfl, Rd.nil _ _⟩
  · simp [Value.cells] at hcs
    obtain ⟨rfl, rfl, rfl⟩ := hcs
    have hm' : m = c0 := by simpa using hmm
    have each : ∀ i, i < c0 → ∃ p : A3, w.cell? (x.add (i * 3)) = some (.int .i64 p.1) ∧ w.cell? (x.add (i * 3 + 1)) = some (.int .i64 p.2.1) ∧ w.cell? (x.add (i * 3 + 2)) = some (.int .i64 p.2.2) := by
      intro i hi
      obtain ⟨cs', h1, h2⟩ := hx i (by omega)
      rw [ce] at h1
      obtain ⟨_, hlen, hcell⟩ := World.cells?_some h1
      obtain ⟨xs, n, hn, hxy, _, hxl, hfs⟩ := DataW.trod_struct he h2
      match xs, hxl, cs', hlen with
      | [y0, y1, y2], _, [v0, v1, v2], _ =>
        have g0 := hfs 0 f0 rfl
        have g1 := hfs 1 f1 rfl
        have g2 := hfs 2 f2 rfl
        simp [o0, o1, o2, t0, t1, t2, c3] at g0 g1 g2
        obtain ⟨z0, e0, _, _⟩ := DataW.trod_int Try.underlying3 g0
        obtain ⟨z1, e1, _, _⟩ := DataW.trod_int Try.underlying3 g1
        obtain ⟨z2, e2, _, _⟩ := DataW.trod_int Try.underlying3 g2
        have k0 := hcell 0 (by omega)
        have k1 := hcell 1 (by omega)
        have k2 := hcell 2 (by omega)
        rw [add_add] at k0 k1 k2
        simp at e0 e1 e2
        subst e0 e1 e2
        exact ⟨(z0, z1, z2), by simpa using k0, by simpa using k1, by simpa using k2⟩
    obtain ⟨q, hq⟩ := choose_lt each
    refine ⟨_, n0, c0, (List.range n0).map q, rfl, by simp, hl, hm, fun j hj i hi => ?_⟩
    have hj' : j < n0 := by simpa using hj
    obtain ⟨b, o, rfl⟩ := spot_none (by simpa [Addr.add] using (hq 0 (by omega)).1)
    refine ⟨b, o, rfl, ?_⟩
    have h1 := hq j (by omega)
    rw [Addr.add_lit, Addr.add_lit, Addr.add_lit] at h1
    have hi2 : i = 0 ∨ i = 1 ∨ i = 2 := by have : actE.k = 3 := rfl; omega
    rcases hi2 with rfl | rfl | rfl
    · have e : o + (j * actE.k + 0) = o + j * 3 := rfl
      rw [e, h1.1]; simp [actE]
    · have e : o + (j * actE.k + 1) = o + (j * 3 + 1) := rfl
      rw [e, h1.2.1]; simp [actE]
    · have e : o + (j * actE.k + 2) = o + (j * 3 + 2) := rfl
      rw [e, h1.2.2]; simp [actE]
theorem clockScript_law {H : Type} {enc : TypeId × Value → H} {W : World} {ts : List TypeId} {ds : List (DataW H)} (v : Value) (d : DataW H) (p : List MemPlace) (h : DataW.Trod enc Try.prog W 0 (fun _ => true) true 44 v d p) {r : Reach} {b0 : Nat} (hv : Value.okWide Try.prog W r b0 44 v) (_ : (DataW.weightsEach Try.prog ts ds).all (· ≤ reachBytes) = true) (_ : World) :
    Calls Try.prog 7 #[v] W fun e w' => e = .returned (.bool true) ∧ Below W.heap.size W w' := by
  obtain ⟨a, n, c, l, rfl, hr⟩ := open_acts hv h
  exact clockScript_walk hr
end
end Go.Proofs.Ytckimjmidbdalaa
