/- The document's Read 10, has 26. -/
import Derived.Test.YtbpkhnnfdjihdaaHdRd
import Derived.Test.YtbpkhnnfdjihdaaHdSo
import Derived.Laws.BitsAllLaws
import Derived.Deep.RegionHeld3
namespace Go.Proofs.Ytbpkhnnfdjihdaa
open Go Go.RowKit Go.Maps
theorem keep1 {w wa : World} {s : Nat} (ha : w.grownBy wa (some s)) {k : Nat} (hk : k < w.heap.size) (hne : k ≠ s) : wa.heap[k]? = w.heap[k]? := ha.block k hk (fun e => hne (Option.some.inj e))
theorem below1 {W w wa : World} {s B : Nat} (h0 : Below B W w) (hs : B ≤ s) (hB : B ≤ w.heap.size) (ha : w.grownBy wa (some s)) : Below B W wa :=
  h0.trans ⟨ha.os, ha.tape, ha.output, ha.size, fun k hk => keep1 ha (by omega) (by omega)⟩
def RQ (W : World) (act : Act) (C : List Value) (e : Exit) (a' : Act) (w' : World) : Prop := e = .normal ∧ a' = act ∧ Below W.heap.size W w' ∧ w'.heap.size = W.heap.size + 4 ∧ Blk w' W.heap.size 28 (0, 0) (cellsH 0 0 0 (fun _ => false) nils) ∧ Blk w' (W.heap.size + 1) 29 (0, 0) [.int .i64 0, .int .i64 0, .int .i64 0, .int .i64 0] ∧ Blk w' (W.heap.size + 2) 29 (0, 0) [.int .i64 0, .int .i64 0, .int .i64 0, .int .i64 0] ∧ Blk w' (W.heap.size + 3) 28 (0, 0) C
theorem rq_mk {W : World} {act : Act} {C : Array Value} {w' : World} (h1 : Below W.heap.size W w') (h2 : w'.heap.size = W.heap.size + 4) (h3 : Blk w' W.heap.size 28 (0, 0) (cellsH 0 0 0 (fun _ => false) nils)) (h4 : Blk w' (W.heap.size + 1) 29 (0, 0) [.int .i64 0, .int .i64 0, .int .i64 0, .int .i64 0]) (h5 : Blk w' (W.heap.size + 2) 29 (0, 0) [.int .i64 0, .int .i64 0, .int .i64 0, .int .i64 0]) (h6 : Blk w' (W.heap.size + 3) 28 (0, 0) C.toList) : RQ W act C.toList .normal act w' := ⟨rfl, rfl, h1, h2, h3, h4, h5, h6⟩
theorem hN_at {l : List UInt8} (k : Nat) (h : 2 * k + 1 < l.length) : hN l k = (l[2 * k]'(by omega)).toNat * 256 + (l[2 * k + 1]).toNat := by
  unfold hN
  rw [if_pos (by omega)]
  have e : (l.drop (2 * k)).take 2 = [l[2 * k]'(by omega), l[2 * k + 1]] := by
    rw [List.drop_eq_getElem_cons (by omega), List.drop_eq_getElem_cons (by omega)]
    rfl
  rw [e]
  simp [numL]
def hasB (b : UInt8) (wt : Nat) : Bool := (b.toNat : Int) / (wt : Int) % 2 == 1
set_option maxHeartbeats 1000000 in
theorem has_any (b : UInt8) (wt : Nat) (h0 : 0 < wt) (h1 : wt ≤ 128) (w : World) :
    Calls Try.prog 26 #[.int .u8 b.toNat, .int .i64 wt] w fun e w' => e = .returned (.bool (hasB b wt)) ∧ w = w' := by
  have hb := b.toNat_lt
  have hw : ((wt : Int) == 0) = false := by simp; omega
  have e1 : (0 : Int) ≤ (b.toNat : Int) / (wt : Int) := Int.ediv_nonneg (by omega) (by omega)
  have e2 : (b.toNat : Int) / (wt : Int) ≤ 255 := Int.le_trans (Int.ediv_le_self _ (by omega)) (by omega)
  go_enter Try.func26, Try.ntmps26
  go_wp2_with fail
  go_ret
  exact ⟨rfl, rfl⟩
def refV (l : List UInt8) : Value := .agg #[.int .u16 (hN l 0), .bool (hasB (l.getD 2 0) 128), .int .i64 ((l.getD 2 0).toNat / 8 % 16 : Nat), .bool (hasB (l.getD 2 0) 4), .bool (hasB (l.getD 2 0) 2), .bool (hasB (l.getD 2 0) 1), .bool (hasB (l.getD 3 0) 128), .bool (hasB (l.getD 3 0) 32), .bool (hasB (l.getD 3 0) 16), .int .i64 ((l.getD 3 0).toNat % 16 : Nat), .slice none 0 0, .slice none 0 0, .slice none 0 0, .slice none 0 0]
set_option linter.unusedSimpArgs false in
set_option maxHeartbeats 8000000 in
set_option maxRecDepth 100000 in
theorem ref_read {W : World} {a : Option Addr} {n c : Nat} {l : List UInt8} (h : Rd byteE W a n c l) (hn : n ≤ 140737488355328) :
    Calls Try.prog 10 #[.slice a n c] W fun e w' => e = .returned (if l.length < 12 ∨ hasB (l.getD 3 0) 64 = true then .tuple #[msgV 0 0 0 (fun _ => false) nils, cntV 0 0 0 0, .int .i64 8] else
      .tuple #[refV l, cntV (hN l 2) (hN l 3) (hN l 4) (hN l 5), .int .i64 0]) ∧ Below W.heap.size W w' := by
  have hl := h.len
  subst hl
  by_cases h12 : l.length < 12
  · rw [if_pos (.inl h12)]
    have hbel : Below W.heap.size W (((W.alloc (.cells #[.int .u16 0, .bool false, .int .i64 0, .bool false, .bool false, .bool false, .bool false, .bool false, .bool false, .int .i64 0, .slice none 0 0, .slice none 0 0, .slice none 0 0, .slice none 0 0] 28)).alloc (.cells #[.int .i64 0, .int .i64 0, .int .i64 0, .int .i64 0] 29)).alloc (.cells #[.int .i64 0, .int .i64 0, .int .i64 0, .int .i64 0] 29)) := (((Below.refl _ _).alloc (Nat.le_refl _) _).alloc (by simp) _).alloc (by simp; omega) _
    have hsz : (((W.alloc (.cells #[.int .u16 0, .bool false, .int .i64 0, .bool false, .bool false, .bool false, .bool false, .bool false, .bool false, .int .i64 0, .slice none 0 0, .slice none 0 0, .slice none 0 0, .slice none 0 0] 28)).alloc (.cells #[.int .i64 0, .int .i64 0, .int .i64 0, .int .i64 0] 29)).alloc (.cells #[.int .i64 0, .int .i64 0, .int .i64 0, .int .i64 0] 29)).heap.size = W.heap.size + 3 := by simp
    have hBm : Blk (((W.alloc (.cells #[.int .u16 0, .bool false, .int .i64 0, .bool false, .bool false, .bool false, .bool false, .bool false, .bool false, .int .i64 0, .slice none 0 0, .slice none 0 0, .slice none 0 0, .slice none 0 0] 28)).alloc (.cells #[.int .i64 0, .int .i64 0, .int .i64 0, .int .i64 0] 29)).alloc (.cells #[.int .i64 0, .int .i64 0, .int .i64 0, .int .i64 0] 29)) W.heap.size 28 (0, 0) (cellsH 0 0 0 (fun _ => false) nils) :=
      ((Blk.new W 28 (0, 0) (cellsH 0 0 0 (fun _ => false) nils).toArray).below ((Below.refl _ _).alloc (Nat.le_refl _) _) (by simp)).below ((Below.refl _ _).alloc (Nat.le_refl _) _) (by simp; omega)
    have hBc : Blk (((W.alloc (.cells #[.int .u16 0, .bool false, .int .i64 0, .bool false, .bool false, .bool false, .bool false, .bool false, .bool false, .int .i64 0, .slice none 0 0, .slice none 0 0, .slice none 0 0, .slice none 0 0] 28)).alloc (.cells #[.int .i64 0, .int .i64 0, .int .i64 0, .int .i64 0] 29)).alloc (.cells #[.int .i64 0, .int .i64 0, .int .i64 0, .int .i64 0] 29)) (W.heap.size + 1) 29 (0, 0) [.int .i64 0, .int .i64 0, .int .i64 0, .int .i64 0] := by
      have := (Blk.new (W.alloc (.cells #[.int .u16 0, .bool false, .int .i64 0, .bool false, .bool false, .bool false, .bool false, .bool false, .bool false, .int .i64 0, .slice none 0 0, .slice none 0 0, .slice none 0 0, .slice none 0 0] 28)) 29 (0, 0) #[.int .i64 0, .int .i64 0, .int .i64 0, .int .i64 0]).below ((Below.refl _ _).alloc (Nat.le_refl _) (.cells #[.int .i64 0, .int .i64 0, .int .i64 0, .int .i64 0] 29)) (by simp)
      simpa using this
    have hBd : Blk (((W.alloc (.cells #[.int .u16 0, .bool false, .int .i64 0, .bool false, .bool false, .bool false, .bool false, .bool false, .bool false, .int .i64 0, .slice none 0 0, .slice none 0 0, .slice none 0 0, .slice none 0 0] 28)).alloc (.cells #[.int .i64 0, .int .i64 0, .int .i64 0, .int .i64 0] 29)).alloc (.cells #[.int .i64 0, .int .i64 0, .int .i64 0, .int .i64 0] 29)) (W.heap.size + 2) 29 (0, 0) [.int .i64 0, .int .i64 0, .int .i64 0, .int .i64 0] := by
      have := Blk.new ((W.alloc (.cells #[.int .u16 0, .bool false, .int .i64 0, .bool false, .bool false, .bool false, .bool false, .bool false, .bool false, .int .i64 0, .slice none 0 0, .slice none 0 0, .slice none 0 0, .slice none 0 0] 28)).alloc (.cells #[.int .i64 0, .int .i64 0, .int .i64 0, .int .i64 0] 29)) 29 (0, 0) #[.int .i64 0, .int .i64 0, .int .i64 0, .int .i64 0]
      simpa using this
    have hWW := Lib.hid (And.intro hbel (And.intro hsz (And.intro hBm (And.intro hBc hBd))))
    clear hbel hsz hBm hBc hBd
    have h12I : ((l.length : Int) < 12) := by omega
    go_enter Try.func10, Try.ntmps10
    go_wp2_with fail
    generalize (((W.alloc (.cells #[.int .u16 0, .bool false, .int .i64 0, .bool false, .bool false, .bool false, .bool false, .bool false, .bool false, .int .i64 0, .slice none 0 0, .slice none 0 0, .slice none 0 0, .slice none 0 0] 28)).alloc (.cells #[.int .i64 0, .int .i64 0, .int .i64 0, .int .i64 0] 29)).alloc (.cells #[.int .i64 0, .int .i64 0, .int .i64 0, .int .i64 0] 29)) = w3 at *
    obtain ⟨hbel, hsz, hBm, hBc, hBd⟩ := hWW.out
    clear hWW
    have hHm := Lib.hid hBm
    have hHc := Lib.hid hBc
    have hHd := Lib.hid hBd
    have hHb := Lib.hid hbel
    clear hBm hBc hBd hbel
    have hS2 : ∀ u, Blk u (W.heap.size + 1 + 1) 29 (0, 0) [.int .i64 0, .int .i64 0, .int .i64 0, .int .i64 0] → u.rangeAt (W.heap.size + 1 + 1) 0 [.int .i64 0, .int .i64 0, .int .i64 0, .int .i64 0] := fun u h => range_of h
    refine wp_region_noPanic ?_
    refine wp_region_held_drew (S := fun u => Blk u (W.heap.size + 1 + 1) 29 (0, 0) [.int .i64 0, .int .i64 0, .int .i64 0, .int .i64 0]) (by kernel_rfl) hHd.out.drew (fun hHeld => ?_)
    refine wpAnyH_take (i := 0) (oi := { dst := some 17, op := Op.build 28 #[], type := 28, pos := _, after := _, guard := none }) (v := ?_) rfl (by kernel_rfl) (by kernel_rfl) (by kernel_rfl) (fun _ _ _ h => h) (Or.inl ⟨by rfl, ?_⟩) hHeld ?_
    rotate_left
    · intro w hSw
      go_simp
      first | done | with_reducible rfl
    try simp only [Act.put, List.setIfInBounds_toArray, List.set_cons_zero, List.set_cons_succ]
    refine wpAnyH_take (i := 1) (oi := { dst := some 18, op := Op.load 29 (Operand.tmp 5), type := 29, pos := _, after := _, guard := none }) (v := _) rfl (by kernel_rfl) (by kernel_rfl) (by kernel_rfl) (fun _ _ _ h => h) (yieldsIf_load_mid (by rfl) 29 (.tmp 5) rfl (W.heap.size + 1 + 1) 0 rfl _ _ hS2 Try.underlying29 rfl (by kernel_rfl)) hHeld ?_
    try simp only [Act.put, List.setIfInBounds_toArray, List.set_cons_zero, List.set_cons_succ]
    refine wpAnyH_ready (rs := [2]) (by kernel_rfl) (by simp) ?_
    refine AllReadyH.cons (o := { dst := none, op := Op.store 28 (Operand.tmp 2) (Operand.tmp 17), type := 0, pos := _, after := _, guard := none }) rfl (fun K hK => ?_) AllReadyH.nil
    rw [if_pos (by rfl)]
    refine store_whole_op (cells := (cellsH 0 0 0 (fun _ => false) nils).toArray) (b := W.heap.size) 28 (.tmp 2) (.tmp 17) rfl rfl rfl hHm.out.drew (by rfl) (by kernel_rfl) (by kernel_rfl) ?_
    intro w11 hB11 hg11 hz11
    have hH11 : Blk w11 (W.heap.size + 1 + 1) 29 (0, 0) [.int .i64 0, .int .i64 0, .int .i64 0, .int .i64 0] := (keep1 hg11 hHeld.lt (by omega)).trans hHeld
    refine hK.out _ _ hH11 (fun _ => ?_)
    simp only [Act.put]
    refine wpAnyH_ready (rs := [3]) (by kernel_rfl) (by simp) ?_
    refine AllReadyH.cons (o := { dst := none, op := Op.store 29 (Operand.tmp 3) (Operand.tmp 18), type := 0, pos := _, after := _, guard := none }) rfl (fun K2 hK2 => ?_) AllReadyH.nil
    rw [if_pos (by rfl)]
    have hBr3 : Blk w11 (W.heap.size + 1) 29 (0, 0) [.int .i64 0, .int .i64 0, .int .i64 0, .int .i64 0] := (keep1 hg11 hHc.out.drew.lt (by omega)).trans hHc.out.drew
    refine store_whole_op (b := W.heap.size + 1) 29 (.tmp 3) (.tmp 18) rfl rfl rfl hBr3 (by rfl) (by kernel_rfl) (by kernel_rfl) ?_
    intro w12 hB12 hg12 hz12
    have hH12 : Blk w12 (W.heap.size + 1 + 1) 29 (0, 0) [.int .i64 0, .int .i64 0, .int .i64 0, .int .i64 0] := (keep1 hg12 hH11.lt (by omega)).trans hH11
    refine hK2.out _ _ hH12 (fun _ => ?_)
    simp only [Act.put]
    refine wpAnyH_take (i := 4) (oi := { dst := some 4, op := Op.assign (Operand.const (Value.int IntKind.i64 8)), type := 30, pos := _, after := _, guard := none }) (v := ?_) rfl (by kernel_rfl) (by kernel_rfl) (by kernel_rfl) (fun _ _ _ h => h) (Or.inl ⟨by rfl, ?_⟩) hH12 ?_
    rotate_left
    · intro w hSw
      go_simp
      first | done | with_reducible rfl
    try simp only [Act.put, List.setIfInBounds_toArray, List.set_cons_zero, List.set_cons_succ]
    refine wpAnyH_done (by kernel_rfl) ?_ _
    refine NoPanic.normal ?_
    have hB13 := (keep1 hg12 hB11.lt (by omega)).trans hB11
    have hE13 := below1 (below1 hHb.out.drew (Nat.le_refl _) hHb.out.size hg11) (Nat.le_succ _) (by have := hg11.size; have := hHb.out.size; have e : w3.drew.heap.size = w3.heap.size := rfl; omega) hg12
    go_wp2_with fail
    refine bodyPost_ret (results_cct rfl _ rfl rfl hB13 hB12 Try.underlying28 rfl (by kernel_rfl) Try.underlying29 rfl (by kernel_rfl)) rfl ?_
    exact ⟨rfl, hE13⟩
  · obtain ⟨b, o, rfl, hbz, hc⟩ := h.addr (by omega)
    have hcell : ∀ j, (hj : j < l.length) → W.cell? ⟨b, o + j, none⟩ = some (.int .u8 (l[j]).toNat) := fun j hj => by
      have := hc j hj 0 (by decide)
      simpa [byteE] using this
    have c0 := hcell 0 (by omega)
    have c1 := hcell 1 (by omega)
    have c2 := hcell 2 (by omega)
    have c3 := hcell 3 (by omega)
    have hC := Lib.hid hcell
    have q0 : l.getD 0 0 = l[0]'(by omega) := by rw [List.getD_eq_getElem?_getD, List.getElem?_eq_getElem (by omega)]; rfl
    have q1 : l.getD 1 0 = l[1]'(by omega) := by rw [List.getD_eq_getElem?_getD, List.getElem?_eq_getElem (by omega)]; rfl
    have q2 : l.getD 2 0 = l[2]'(by omega) := by rw [List.getD_eq_getElem?_getD, List.getElem?_eq_getElem (by omega)]; rfl
    have q3 : l.getD 3 0 = l[3]'(by omega) := by rw [List.getD_eq_getElem?_getD, List.getElem?_eq_getElem (by omega)]; rfl
    have hlI : ¬ ((l.length : Int) < 12) := by omega
    have hx3 : (3 : Int) < l.length := by omega
    have hx2 : (2 : Int) < l.length := by omega
    have hx1 : (1 : Int) < l.length := by omega
    have hx0 : 0 < l.length := by omega
    unfold refV
    rw [q2, q3]
    clear hc hcell h q0 q1 q2 q3
    generalize hb0 : l[0]'(by omega) = b0 at *
    generalize hb1 : l[1]'(by omega) = b1 at *
    generalize hb2 : l[2]'(by omega) = b2 at *
    generalize hb3 : l[3]'(by omega) = b3 at *
    by_cases h64 : hasB b3 64 = true
    · rw [if_pos (.inr h64)]
      have hbel : Below W.heap.size W (((W.alloc (.cells #[.int .u16 0, .bool false, .int .i64 0, .bool false, .bool false, .bool false, .bool false, .bool false, .bool false, .int .i64 0, .slice none 0 0, .slice none 0 0, .slice none 0 0, .slice none 0 0] 28)).alloc (.cells #[.int .i64 0, .int .i64 0, .int .i64 0, .int .i64 0] 29)).alloc (.cells #[.int .i64 0, .int .i64 0, .int .i64 0, .int .i64 0] 29)) := (((Below.refl _ _).alloc (Nat.le_refl _) _).alloc (by simp) _).alloc (by simp; omega) _
      have hsz : (((W.alloc (.cells #[.int .u16 0, .bool false, .int .i64 0, .bool false, .bool false, .bool false, .bool false, .bool false, .bool false, .int .i64 0, .slice none 0 0, .slice none 0 0, .slice none 0 0, .slice none 0 0] 28)).alloc (.cells #[.int .i64 0, .int .i64 0, .int .i64 0, .int .i64 0] 29)).alloc (.cells #[.int .i64 0, .int .i64 0, .int .i64 0, .int .i64 0] 29)).heap.size = W.heap.size + 3 := by simp
      have hBm : Blk (((W.alloc (.cells #[.int .u16 0, .bool false, .int .i64 0, .bool false, .bool false, .bool false, .bool false, .bool false, .bool false, .int .i64 0, .slice none 0 0, .slice none 0 0, .slice none 0 0, .slice none 0 0] 28)).alloc (.cells #[.int .i64 0, .int .i64 0, .int .i64 0, .int .i64 0] 29)).alloc (.cells #[.int .i64 0, .int .i64 0, .int .i64 0, .int .i64 0] 29)) W.heap.size 28 (0, 0) (cellsH 0 0 0 (fun _ => false) nils) :=
        ((Blk.new W 28 (0, 0) (cellsH 0 0 0 (fun _ => false) nils).toArray).below ((Below.refl _ _).alloc (Nat.le_refl _) _) (by simp)).below ((Below.refl _ _).alloc (Nat.le_refl _) _) (by simp; omega)
      have hBc : Blk (((W.alloc (.cells #[.int .u16 0, .bool false, .int .i64 0, .bool false, .bool false, .bool false, .bool false, .bool false, .bool false, .int .i64 0, .slice none 0 0, .slice none 0 0, .slice none 0 0, .slice none 0 0] 28)).alloc (.cells #[.int .i64 0, .int .i64 0, .int .i64 0, .int .i64 0] 29)).alloc (.cells #[.int .i64 0, .int .i64 0, .int .i64 0, .int .i64 0] 29)) (W.heap.size + 1) 29 (0, 0) [.int .i64 0, .int .i64 0, .int .i64 0, .int .i64 0] := by
        have := (Blk.new (W.alloc (.cells #[.int .u16 0, .bool false, .int .i64 0, .bool false, .bool false, .bool false, .bool false, .bool false, .bool false, .int .i64 0, .slice none 0 0, .slice none 0 0, .slice none 0 0, .slice none 0 0] 28)) 29 (0, 0) #[.int .i64 0, .int .i64 0, .int .i64 0, .int .i64 0]).below ((Below.refl _ _).alloc (Nat.le_refl _) (.cells #[.int .i64 0, .int .i64 0, .int .i64 0, .int .i64 0] 29)) (by simp)
        simpa using this
      have hBd : Blk (((W.alloc (.cells #[.int .u16 0, .bool false, .int .i64 0, .bool false, .bool false, .bool false, .bool false, .bool false, .bool false, .int .i64 0, .slice none 0 0, .slice none 0 0, .slice none 0 0, .slice none 0 0] 28)).alloc (.cells #[.int .i64 0, .int .i64 0, .int .i64 0, .int .i64 0] 29)).alloc (.cells #[.int .i64 0, .int .i64 0, .int .i64 0, .int .i64 0] 29)) (W.heap.size + 2) 29 (0, 0) [.int .i64 0, .int .i64 0, .int .i64 0, .int .i64 0] := by
        have := Blk.new ((W.alloc (.cells #[.int .u16 0, .bool false, .int .i64 0, .bool false, .bool false, .bool false, .bool false, .bool false, .bool false, .int .i64 0, .slice none 0 0, .slice none 0 0, .slice none 0 0, .slice none 0 0] 28)).alloc (.cells #[.int .i64 0, .int .i64 0, .int .i64 0, .int .i64 0] 29)) 29 (0, 0) #[.int .i64 0, .int .i64 0, .int .i64 0, .int .i64 0]
        simpa using this
      have d3 : (((W.alloc (.cells #[.int .u16 0, .bool false, .int .i64 0, .bool false, .bool false, .bool false, .bool false, .bool false, .bool false, .int .i64 0, .slice none 0 0, .slice none 0 0, .slice none 0 0, .slice none 0 0] 28)).alloc (.cells #[.int .i64 0, .int .i64 0, .int .i64 0, .int .i64 0] 29)).alloc (.cells #[.int .i64 0, .int .i64 0, .int .i64 0, .int .i64 0] 29)).cell? ⟨b, o + 3, none⟩ = some (.int .u8 b3.toNat) := (hbel.cell (p := ⟨b, o + 3, none⟩) hbz).trans c3
      have hWW := Lib.hid (And.intro hbel (And.intro hsz (And.intro hBm (And.intro hBc hBd))))
      clear hbel hsz hBm hBc hBd
      go_enter Try.func10, Try.ntmps10
      go_wp2_with (go_at_call 26; refine (has_any b3 64 (by decide) (by decide) _).mono ?_; rintro e wx ⟨rfl, rfl⟩; rw [h64])
      clear d3
      generalize (((W.alloc (.cells #[.int .u16 0, .bool false, .int .i64 0, .bool false, .bool false, .bool false, .bool false, .bool false, .bool false, .int .i64 0, .slice none 0 0, .slice none 0 0, .slice none 0 0, .slice none 0 0] 28)).alloc (.cells #[.int .i64 0, .int .i64 0, .int .i64 0, .int .i64 0] 29)).alloc (.cells #[.int .i64 0, .int .i64 0, .int .i64 0, .int .i64 0] 29)) = w3 at *
      obtain ⟨hbel, hsz, hBm, hBc, hBd⟩ := hWW.out
      clear hWW
      have hHm := Lib.hid hBm
      have hHc := Lib.hid hBc
      have hHd := Lib.hid hBd
      have hHb := Lib.hid hbel
      clear hBm hBc hBd hbel
      have hS2 : ∀ u, Blk u (W.heap.size + 1 + 1) 29 (0, 0) [.int .i64 0, .int .i64 0, .int .i64 0, .int .i64 0] → u.rangeAt (W.heap.size + 1 + 1) 0 [.int .i64 0, .int .i64 0, .int .i64 0, .int .i64 0] := fun u h => range_of h
      refine wp_region_noPanic ?_
      refine wp_region_held_drew (S := fun u => Blk u (W.heap.size + 1 + 1) 29 (0, 0) [.int .i64 0, .int .i64 0, .int .i64 0, .int .i64 0]) (by kernel_rfl) hHd.out.drew (fun hHeld => ?_)
      refine wpAnyH_take (i := 0) (oi := { dst := some 17, op := Op.build 28 #[], type := 28, pos := _, after := _, guard := none }) (v := ?_) rfl (by kernel_rfl) (by kernel_rfl) (by kernel_rfl) (fun _ _ _ h => h) (Or.inl ⟨by rfl, ?_⟩) hHeld ?_
      rotate_left
      · intro w hSw
        go_simp
        first | done | with_reducible rfl
      try simp only [Act.put, List.setIfInBounds_toArray, List.set_cons_zero, List.set_cons_succ]
      refine wpAnyH_take (i := 1) (oi := { dst := some 18, op := Op.load 29 (Operand.tmp 5), type := 29, pos := _, after := _, guard := none }) (v := _) rfl (by kernel_rfl) (by kernel_rfl) (by kernel_rfl) (fun _ _ _ h => h) (yieldsIf_load_mid (by rfl) 29 (.tmp 5) rfl (W.heap.size + 1 + 1) 0 rfl _ _ hS2 Try.underlying29 rfl (by kernel_rfl)) hHeld ?_
      try simp only [Act.put, List.setIfInBounds_toArray, List.set_cons_zero, List.set_cons_succ]
      refine wpAnyH_ready (rs := [2]) (by kernel_rfl) (by simp) ?_
      refine AllReadyH.cons (o := { dst := none, op := Op.store 28 (Operand.tmp 2) (Operand.tmp 17), type := 0, pos := _, after := _, guard := none }) rfl (fun K hK => ?_) AllReadyH.nil
      rw [if_pos (by rfl)]
      refine store_whole_op (cells := (cellsH 0 0 0 (fun _ => false) nils).toArray) (b := W.heap.size) 28 (.tmp 2) (.tmp 17) rfl rfl rfl hHm.out.drew (by rfl) (by kernel_rfl) (by kernel_rfl) ?_
      intro w11 hB11 hg11 hz11
      have hH11 : Blk w11 (W.heap.size + 1 + 1) 29 (0, 0) [.int .i64 0, .int .i64 0, .int .i64 0, .int .i64 0] := (keep1 hg11 hHeld.lt (by omega)).trans hHeld
      refine hK.out _ _ hH11 (fun _ => ?_)
      simp only [Act.put]
      refine wpAnyH_ready (rs := [3]) (by kernel_rfl) (by simp) ?_
      refine AllReadyH.cons (o := { dst := none, op := Op.store 29 (Operand.tmp 3) (Operand.tmp 18), type := 0, pos := _, after := _, guard := none }) rfl (fun K2 hK2 => ?_) AllReadyH.nil
      rw [if_pos (by rfl)]
      have hBr3 : Blk w11 (W.heap.size + 1) 29 (0, 0) [.int .i64 0, .int .i64 0, .int .i64 0, .int .i64 0] := (keep1 hg11 hHc.out.drew.lt (by omega)).trans hHc.out.drew
      refine store_whole_op (b := W.heap.size + 1) 29 (.tmp 3) (.tmp 18) rfl rfl rfl hBr3 (by rfl) (by kernel_rfl) (by kernel_rfl) ?_
      intro w12 hB12 hg12 hz12
      have hH12 : Blk w12 (W.heap.size + 1 + 1) 29 (0, 0) [.int .i64 0, .int .i64 0, .int .i64 0, .int .i64 0] := (keep1 hg12 hH11.lt (by omega)).trans hH11
      refine hK2.out _ _ hH12 (fun _ => ?_)
      simp only [Act.put]
      refine wpAnyH_take (i := 4) (oi := { dst := some 4, op := Op.assign (Operand.const (Value.int IntKind.i64 8)), type := 30, pos := _, after := _, guard := none }) (v := ?_) rfl (by kernel_rfl) (by kernel_rfl) (by kernel_rfl) (fun _ _ _ h => h) (Or.inl ⟨by rfl, ?_⟩) hH12 ?_
      rotate_left
      · intro w hSw
        go_simp
        first | done | with_reducible rfl
      try simp only [Act.put, List.setIfInBounds_toArray, List.set_cons_zero, List.set_cons_succ]
      refine wpAnyH_done (by kernel_rfl) ?_ _
      refine NoPanic.normal ?_
      have hB13 := (keep1 hg12 hB11.lt (by omega)).trans hB11
      have hE13 := below1 (below1 hHb.out.drew (Nat.le_refl _) hHb.out.size hg11) (Nat.le_succ _) (by have := hg11.size; have := hHb.out.size; have e : w3.drew.heap.size = w3.heap.size := rfl; omega) hg12
      go_wp2_with fail
      refine bodyPost_ret (results_cct rfl _ rfl rfl hB13 hB12 Try.underlying28 rfl (by kernel_rfl) Try.underlying29 rfl (by kernel_rfl)) rfl ?_
      exact ⟨rfl, hE13⟩
    · have h64' : hasB b3 64 = false := by simpa using h64
      rw [if_neg (by rintro (h | h); exact h12 h; exact h64 h)]
      have hq0 := Lib.hid hb0
      have hq1 := Lib.hid hb1
      clear hb0 hb1 hb2 hb3
      have hbel : Below W.heap.size W (((W.alloc (.cells #[.int .u16 0, .bool false, .int .i64 0, .bool false, .bool false, .bool false, .bool false, .bool false, .bool false, .int .i64 0, .slice none 0 0, .slice none 0 0, .slice none 0 0, .slice none 0 0] 28)).alloc (.cells #[.int .i64 0, .int .i64 0, .int .i64 0, .int .i64 0] 29)).alloc (.cells #[.int .i64 0, .int .i64 0, .int .i64 0, .int .i64 0] 29)) := (((Below.refl _ _).alloc (Nat.le_refl _) _).alloc (by simp) _).alloc (by simp; omega) _
      have hsz : (((W.alloc (.cells #[.int .u16 0, .bool false, .int .i64 0, .bool false, .bool false, .bool false, .bool false, .bool false, .bool false, .int .i64 0, .slice none 0 0, .slice none 0 0, .slice none 0 0, .slice none 0 0] 28)).alloc (.cells #[.int .i64 0, .int .i64 0, .int .i64 0, .int .i64 0] 29)).alloc (.cells #[.int .i64 0, .int .i64 0, .int .i64 0, .int .i64 0] 29)).heap.size = W.heap.size + 3 := by simp
      have hBm : Blk (((W.alloc (.cells #[.int .u16 0, .bool false, .int .i64 0, .bool false, .bool false, .bool false, .bool false, .bool false, .bool false, .int .i64 0, .slice none 0 0, .slice none 0 0, .slice none 0 0, .slice none 0 0] 28)).alloc (.cells #[.int .i64 0, .int .i64 0, .int .i64 0, .int .i64 0] 29)).alloc (.cells #[.int .i64 0, .int .i64 0, .int .i64 0, .int .i64 0] 29)) W.heap.size 28 (0, 0) (cellsH 0 0 0 (fun _ => false) nils) :=
        ((Blk.new W 28 (0, 0) (cellsH 0 0 0 (fun _ => false) nils).toArray).below ((Below.refl _ _).alloc (Nat.le_refl _) _) (by simp)).below ((Below.refl _ _).alloc (Nat.le_refl _) _) (by simp; omega)
      have hBc : Blk (((W.alloc (.cells #[.int .u16 0, .bool false, .int .i64 0, .bool false, .bool false, .bool false, .bool false, .bool false, .bool false, .int .i64 0, .slice none 0 0, .slice none 0 0, .slice none 0 0, .slice none 0 0] 28)).alloc (.cells #[.int .i64 0, .int .i64 0, .int .i64 0, .int .i64 0] 29)).alloc (.cells #[.int .i64 0, .int .i64 0, .int .i64 0, .int .i64 0] 29)) (W.heap.size + 1) 29 (0, 0) [.int .i64 0, .int .i64 0, .int .i64 0, .int .i64 0] := by
        have := (Blk.new (W.alloc (.cells #[.int .u16 0, .bool false, .int .i64 0, .bool false, .bool false, .bool false, .bool false, .bool false, .bool false, .int .i64 0, .slice none 0 0, .slice none 0 0, .slice none 0 0, .slice none 0 0] 28)) 29 (0, 0) #[.int .i64 0, .int .i64 0, .int .i64 0, .int .i64 0]).below ((Below.refl _ _).alloc (Nat.le_refl _) (.cells #[.int .i64 0, .int .i64 0, .int .i64 0, .int .i64 0] 29)) (by simp)
        simpa using this
      have hBd : Blk (((W.alloc (.cells #[.int .u16 0, .bool false, .int .i64 0, .bool false, .bool false, .bool false, .bool false, .bool false, .bool false, .int .i64 0, .slice none 0 0, .slice none 0 0, .slice none 0 0, .slice none 0 0] 28)).alloc (.cells #[.int .i64 0, .int .i64 0, .int .i64 0, .int .i64 0] 29)).alloc (.cells #[.int .i64 0, .int .i64 0, .int .i64 0, .int .i64 0] 29)) (W.heap.size + 2) 29 (0, 0) [.int .i64 0, .int .i64 0, .int .i64 0, .int .i64 0] := by
        have := Blk.new ((W.alloc (.cells #[.int .u16 0, .bool false, .int .i64 0, .bool false, .bool false, .bool false, .bool false, .bool false, .bool false, .int .i64 0, .slice none 0 0, .slice none 0 0, .slice none 0 0, .slice none 0 0] 28)).alloc (.cells #[.int .i64 0, .int .i64 0, .int .i64 0, .int .i64 0] 29)) 29 (0, 0) #[.int .i64 0, .int .i64 0, .int .i64 0, .int .i64 0]
        simpa using this
      have d3 : (((W.alloc (.cells #[.int .u16 0, .bool false, .int .i64 0, .bool false, .bool false, .bool false, .bool false, .bool false, .bool false, .int .i64 0, .slice none 0 0, .slice none 0 0, .slice none 0 0, .slice none 0 0] 28)).alloc (.cells #[.int .i64 0, .int .i64 0, .int .i64 0, .int .i64 0] 29)).alloc (.cells #[.int .i64 0, .int .i64 0, .int .i64 0, .int .i64 0] 29)).cell? ⟨b, o + 3, none⟩ = some (.int .u8 b3.toNat) := (hbel.cell (p := ⟨b, o + 3, none⟩) hbz).trans c3
      have hWW := Lib.hid (And.intro hbel (And.intro hsz (And.intro hBm (And.intro hBc hBd))))
      clear hbel hsz hBm hBc hBd
      go_enter Try.func10, Try.ntmps10
      go_wp2_with (go_at_call 26; refine (has_any b3 64 (by decide) (by decide) _).mono ?_; rintro e wx ⟨rfl, rfl⟩; rw [h64'])
      clear d3
      generalize (((W.alloc (.cells #[.int .u16 0, .bool false, .int .i64 0, .bool false, .bool false, .bool false, .bool false, .bool false, .bool false, .int .i64 0, .slice none 0 0, .slice none 0 0, .slice none 0 0, .slice none 0 0] 28)).alloc (.cells #[.int .i64 0, .int .i64 0, .int .i64 0, .int .i64 0] 29)).alloc (.cells #[.int .i64 0, .int .i64 0, .int .i64 0, .int .i64 0] 29)) = w3 at *
      obtain ⟨hbel, hsz, hBm, hBc, hBd⟩ := hWW.out
      clear hWW
      have d0 : w3.cell? ⟨b, o, none⟩ = some (.int .u8 b0.toNat) := (hbel.cell (p := ⟨b, o, none⟩) hbz).trans c0
      have d1 : w3.cell? ⟨b, o + 1, none⟩ = some (.int .u8 b1.toNat) := (hbel.cell (p := ⟨b, o + 1, none⟩) hbz).trans c1
      have d2 : w3.cell? ⟨b, o + 2, none⟩ = some (.int .u8 b2.toNat) := (hbel.cell (p := ⟨b, o + 2, none⟩) hbz).trans c2
      have d3 : w3.cell? ⟨b, o + 3, none⟩ = some (.int .u8 b3.toNat) := (hbel.cell (p := ⟨b, o + 3, none⟩) hbz).trans c3
      have hBm' := Lib.hid hBm
      have hBc' := Lib.hid hBc
      have hBd' := Lib.hid hBd
      have l0 : b0.toNat < 256 := b0.toNat_lt
      have l1 : b1.toNat < 256 := b1.toNat_lt
      have l2 : b2.toNat < 256 := b2.toNat_lt
      have l3 : b3.toNat < 256 := b3.toNat_lt
      have hcc := Lib.hid (And.intro c0 (And.intro c1 (And.intro c2 c3)))
      clear hBm hBc hBd c0 c1 c2 c3 h64
      have hSB : ∀ w', Below W.heap.size W w' → w'.cell? ⟨b, o, none⟩ = some (.int .u8 b0.toNat) ∧ w'.cell? ⟨b, o + 1, none⟩ = some (.int .u8 b1.toNat) ∧ w'.cell? ⟨b, o + 2, none⟩ = some (.int .u8 b2.toNat) ∧ w'.cell? ⟨b, o + 3, none⟩ = some (.int .u8 b3.toNat) := fun w' h => ⟨(h.cell (p := ⟨b, o, none⟩) hbz).trans hcc.out.1, (h.cell (p := ⟨b, o + 1, none⟩) hbz).trans hcc.out.2.1, (h.cell (p := ⟨b, o + 2, none⟩) hbz).trans hcc.out.2.2.1, (h.cell (p := ⟨b, o + 3, none⟩) hbz).trans hcc.out.2.2.2⟩
      have hSB := Lib.hid hSB
      refine Code.wp_mono (Q := RQ W ?act ?cells) ?imp ?wp
      case wp =>
        refine wp_region_noPanic ?_
        refine wp_region_held_drew (S := fun w' => w'.cell? ⟨b, o, none⟩ = some (.int .u8 b0.toNat) ∧ w'.cell? ⟨b, o + 1, none⟩ = some (.int .u8 b1.toNat) ∧ w'.cell? ⟨b, o + 2, none⟩ = some (.int .u8 b2.toNat) ∧ w'.cell? ⟨b, o + 3, none⟩ = some (.int .u8 b3.toNat)) (by kernel_rfl) ⟨d0, d1, d2, d3⟩ (fun hHeld => ?_)
        have hbel4 : Below W.heap.size W w3.drew := hbel.drew
        have hBm4 := Lib.hid hBm'.out.drew
        have hBc4 := Lib.hid hBc'.out.drew
        have hBd4 := Lib.hid hBd'.out.drew
        have hsz4 : w3.drew.heap.size = W.heap.size + 3 := hsz
        generalize w3.drew = w4 at *
        refine wpAnyH_take (i := 0) (oi := { dst := some 19, op := Op.move (Operand.tmp 0), type := 22, pos := _, after := #[], guard := none }) (v := ?_) rfl (by kernel_rfl) (by kernel_rfl) (by kernel_rfl) (fun _ _ _ h => h) (Or.inl ⟨by rfl, ?_⟩) (by assumption) ?_
        rotate_left
        · intro w hSw
          go_simp
          first | done | with_reducible rfl
        try simp only [Act.put, List.setIfInBounds_toArray, List.set_cons_zero, List.set_cons_succ]
        refine wpAnyH_take (i := 1) (oi := { dst := some 20, op := Op.indexAddr 22 (Operand.tmp 19) (Operand.const (Value.int IntKind.i64 0)), type := 0, pos := _, after := #[{ on := 0, ground := Ground.data }], guard := none }) (v := ?_) rfl (by kernel_rfl) (by kernel_rfl) (by kernel_rfl) (fun _ _ _ h => h) (Or.inl ⟨by rfl, ?_⟩) (by assumption) ?_
        rotate_left
        · intro w hSw
          go_simp
          first | done | with_reducible rfl
        try simp only [Act.put, List.setIfInBounds_toArray, List.set_cons_zero, List.set_cons_succ]
        refine wpAnyH_take (i := 2) (oi := { dst := some 21, op := Op.load 5 (Operand.tmp 20), type := 5, pos := _, after := #[{ on := 1, ground := Ground.data }], guard := none }) (v := ?_) rfl (by kernel_rfl) (by kernel_rfl) (by kernel_rfl) (fun _ _ _ h => h) (Or.inl ⟨by rfl, ?_⟩) (by assumption) ?_
        rotate_left
        · intro w hSw
          go_simp
          first | done | with_reducible rfl
        try simp only [Act.put, List.setIfInBounds_toArray, List.set_cons_zero, List.set_cons_succ]
        refine wpAnyH_take (i := 3) (oi := { dst := some 22, op := Op.convert 5 24 (Operand.tmp 21), type := 24, pos := _, after := #[{ on := 2, ground := Ground.data }], guard := none }) (v := ?_) rfl (by kernel_rfl) (by kernel_rfl) (by kernel_rfl) (fun _ _ _ h => h) (Or.inl ⟨by rfl, ?_⟩) (by assumption) ?_
        rotate_left
        · intro w hSw
          go_simp
          first | done | with_reducible rfl
        try simp only [Act.put, List.setIfInBounds_toArray, List.set_cons_zero, List.set_cons_succ]
        refine wpAnyH_take (i := 4) (oi := { dst := some 23, op := Op.binOp BinOp.mul 24 (Operand.tmp 22) (Operand.const (Value.int IntKind.u16 256)) 24, type := 24, pos := _, after := #[{ on := 3, ground := Ground.data }], guard := none }) (v := ?_) rfl (by kernel_rfl) (by kernel_rfl) (by kernel_rfl) (fun _ _ _ h => h) (Or.inl ⟨by rfl, ?_⟩) (by assumption) ?_
        rotate_left
        · intro w hSw
          go_simp
          first | done | with_reducible rfl
        try simp only [Act.put, List.setIfInBounds_toArray, List.set_cons_zero, List.set_cons_succ]
        refine wpAnyH_take (i := 5) (oi := { dst := some 24, op := Op.move (Operand.tmp 0), type := 22, pos := _, after := #[], guard := none }) (v := ?_) rfl (by kernel_rfl) (by kernel_rfl) (by kernel_rfl) (fun _ _ _ h => h) (Or.inl ⟨by rfl, ?_⟩) (by assumption) ?_
        rotate_left
        · intro w hSw
          go_simp
          first | done | with_reducible rfl
        try simp only [Act.put, List.setIfInBounds_toArray, List.set_cons_zero, List.set_cons_succ]
        refine wpAnyH_take (i := 6) (oi := { dst := some 25, op := Op.indexAddr 22 (Operand.tmp 24) (Operand.const (Value.int IntKind.i64 1)), type := 0, pos := _, after := #[{ on := 5, ground := Ground.data }], guard := none }) (v := ?_) rfl (by kernel_rfl) (by kernel_rfl) (by kernel_rfl) (fun _ _ _ h => h) (Or.inl ⟨by rfl, ?_⟩) (by assumption) ?_
        rotate_left
        · intro w hSw
          go_simp
          first | done | with_reducible rfl
        try simp only [Act.put, List.setIfInBounds_toArray, List.set_cons_zero, List.set_cons_succ]
        refine wpAnyH_take (i := 7) (oi := { dst := some 26, op := Op.load 5 (Operand.tmp 25), type := 5, pos := _, after := #[{ on := 6, ground := Ground.data }], guard := none }) (v := ?_) rfl (by kernel_rfl) (by kernel_rfl) (by kernel_rfl) (fun _ _ _ h => h) (Or.inl ⟨by rfl, ?_⟩) (by assumption) ?_
        rotate_left
        · intro w hSw
          go_simp
          first | done | with_reducible rfl
        try simp only [Act.put, List.setIfInBounds_toArray, List.set_cons_zero, List.set_cons_succ]
        refine wpAnyH_take (i := 8) (oi := { dst := some 27, op := Op.convert 5 24 (Operand.tmp 26), type := 24, pos := _, after := #[{ on := 7, ground := Ground.data }], guard := none }) (v := ?_) rfl (by kernel_rfl) (by kernel_rfl) (by kernel_rfl) (fun _ _ _ h => h) (Or.inl ⟨by rfl, ?_⟩) (by assumption) ?_
        rotate_left
        · intro w hSw
          go_simp
          first | done | with_reducible rfl
        try simp only [Act.put, List.setIfInBounds_toArray, List.set_cons_zero, List.set_cons_succ]
        refine wpAnyH_take (i := 9) (oi := { dst := some 28, op := Op.binOp BinOp.add 24 (Operand.tmp 23) (Operand.tmp 27) 24, type := 24, pos := _, after := #[{ on := 4, ground := Ground.data }, { on := 8, ground := Ground.data }], guard := none }) (v := ?_) rfl (by kernel_rfl) (by kernel_rfl) (by kernel_rfl) (fun _ _ _ h => h) (Or.inl ⟨by rfl, ?_⟩) (by assumption) ?_
        rotate_left
        · intro w hSw
          go_simp
          first | done | with_reducible rfl
        try simp only [Act.put, List.setIfInBounds_toArray, List.set_cons_zero, List.set_cons_succ]
        refine wpAnyH_take (i := 10) (oi := { dst := some 29, op := Op.move (Operand.tmp 0), type := 22, pos := _, after := #[], guard := none }) (v := ?_) rfl (by kernel_rfl) (by kernel_rfl) (by kernel_rfl) (fun _ _ _ h => h) (Or.inl ⟨by rfl, ?_⟩) (by assumption) ?_
        rotate_left
        · intro w hSw
          go_simp
          first | done | with_reducible rfl
        try simp only [Act.put, List.setIfInBounds_toArray, List.set_cons_zero, List.set_cons_succ]
        refine wpAnyH_take (i := 11) (oi := { dst := some 30, op := Op.indexAddr 22 (Operand.tmp 29) (Operand.const (Value.int IntKind.i64 2)), type := 0, pos := _, after := #[{ on := 10, ground := Ground.data }], guard := none }) (v := ?_) rfl (by kernel_rfl) (by kernel_rfl) (by kernel_rfl) (fun _ _ _ h => h) (Or.inl ⟨by rfl, ?_⟩) (by assumption) ?_
        rotate_left
        · intro w hSw
          go_simp
          first | done | with_reducible rfl
        try simp only [Act.put, List.setIfInBounds_toArray, List.set_cons_zero, List.set_cons_succ]
        refine wpAnyH_take (i := 12) (oi := { dst := some 31, op := Op.load 5 (Operand.tmp 30), type := 5, pos := _, after := #[{ on := 11, ground := Ground.data }], guard := none }) (v := ?_) rfl (by kernel_rfl) (by kernel_rfl) (by kernel_rfl) (fun _ _ _ h => h) (Or.inl ⟨by rfl, ?_⟩) (by assumption) ?_
        rotate_left
        · intro w hSw
          go_simp
          first | done | with_reducible rfl
        try simp only [Act.put, List.setIfInBounds_toArray, List.set_cons_zero, List.set_cons_succ]
        refine wpAnyH_take (i := 14) (oi := { dst := some 33, op := Op.move (Operand.tmp 0), type := 22, pos := _, after := #[], guard := none }) (v := ?_) rfl (by kernel_rfl) (by kernel_rfl) (by kernel_rfl) (fun _ _ _ h => h) (Or.inl ⟨by rfl, ?_⟩) (by assumption) ?_
        rotate_left
        · intro w hSw
          go_simp
          first | done | with_reducible rfl
        try simp only [Act.put, List.setIfInBounds_toArray, List.set_cons_zero, List.set_cons_succ]
        refine wpAnyH_take (i := 15) (oi := { dst := some 34, op := Op.indexAddr 22 (Operand.tmp 33) (Operand.const (Value.int IntKind.i64 2)), type := 0, pos := _, after := #[{ on := 14, ground := Ground.data }], guard := none }) (v := ?_) rfl (by kernel_rfl) (by kernel_rfl) (by kernel_rfl) (fun _ _ _ h => h) (Or.inl ⟨by rfl, ?_⟩) (by assumption) ?_
        rotate_left
        · intro w hSw
          go_simp
          first | done | with_reducible rfl
        try simp only [Act.put, List.setIfInBounds_toArray, List.set_cons_zero, List.set_cons_succ]
        refine wpAnyH_take (i := 16) (oi := { dst := some 35, op := Op.load 5 (Operand.tmp 34), type := 5, pos := _, after := #[{ on := 15, ground := Ground.data }], guard := none }) (v := ?_) rfl (by kernel_rfl) (by kernel_rfl) (by kernel_rfl) (fun _ _ _ h => h) (Or.inl ⟨by rfl, ?_⟩) (by assumption) ?_
        rotate_left
        · intro w hSw
          go_simp
          first | done | with_reducible rfl
        try simp only [Act.put, List.setIfInBounds_toArray, List.set_cons_zero, List.set_cons_succ]
        refine wpAnyH_take (i := 17) (oi := { dst := some 36, op := Op.convert 5 3 (Operand.tmp 35), type := 3, pos := _, after := #[{ on := 16, ground := Ground.data }], guard := none }) (v := ?_) rfl (by kernel_rfl) (by kernel_rfl) (by kernel_rfl) (fun _ _ _ h => h) (Or.inl ⟨by rfl, ?_⟩) (by assumption) ?_
        rotate_left
        · intro w hSw
          go_simp
          first | done | with_reducible rfl
        try simp only [Act.put, List.setIfInBounds_toArray, List.set_cons_zero, List.set_cons_succ]
        refine wpAnyH_take (i := 18) (oi := { dst := some 37, op := Op.binOp BinOp.quo 3 (Operand.tmp 36) (Operand.const (Value.int IntKind.i64 8)) 3, type := 3, pos := _, after := #[{ on := 17, ground := Ground.data }], guard := none }) (v := ?_) rfl (by kernel_rfl) (by kernel_rfl) (by kernel_rfl) (fun _ _ _ h => h) (Or.inl ⟨by rfl, ?_⟩) (by assumption) ?_
        rotate_left
        · intro w hSw
          go_simp
          first | done | with_reducible rfl
        try simp only [Act.put, List.setIfInBounds_toArray, List.set_cons_zero, List.set_cons_succ]
        refine wpAnyH_take (i := 19) (oi := { dst := some 38, op := Op.binOp BinOp.rem 3 (Operand.tmp 37) (Operand.const (Value.int IntKind.i64 16)) 3, type := 3, pos := _, after := #[{ on := 18, ground := Ground.data }], guard := none }) (v := ?_) rfl (by kernel_rfl) (by kernel_rfl) (by kernel_rfl) (fun _ _ _ h => h) (Or.inl ⟨by rfl, ?_⟩) (by assumption) ?_
        rotate_left
        · intro w hSw
          go_simp
          first | done | with_reducible rfl
        try simp only [Act.put, List.setIfInBounds_toArray, List.set_cons_zero, List.set_cons_succ]
        refine wpAnyH_take (i := 20) (oi := { dst := some 39, op := Op.move (Operand.tmp 0), type := 22, pos := _, after := #[], guard := none }) (v := ?_) rfl (by kernel_rfl) (by kernel_rfl) (by kernel_rfl) (fun _ _ _ h => h) (Or.inl ⟨by rfl, ?_⟩) (by assumption) ?_
        rotate_left
        · intro w hSw
          go_simp
          first | done | with_reducible rfl
        try simp only [Act.put, List.setIfInBounds_toArray, List.set_cons_zero, List.set_cons_succ]
        refine wpAnyH_take (i := 21) (oi := { dst := some 40, op := Op.indexAddr 22 (Operand.tmp 39) (Operand.const (Value.int IntKind.i64 2)), type := 0, pos := _, after := #[{ on := 20, ground := Ground.data }], guard := none }) (v := ?_) rfl (by kernel_rfl) (by kernel_rfl) (by kernel_rfl) (fun _ _ _ h => h) (Or.inl ⟨by rfl, ?_⟩) (by assumption) ?_
        rotate_left
        · intro w hSw
          go_simp
          first | done | with_reducible rfl
        try simp only [Act.put, List.setIfInBounds_toArray, List.set_cons_zero, List.set_cons_succ]
        refine wpAnyH_take (i := 22) (oi := { dst := some 41, op := Op.load 5 (Operand.tmp 40), type := 5, pos := _, after := #[{ on := 21, ground := Ground.data }], guard := none }) (v := ?_) rfl (by kernel_rfl) (by kernel_rfl) (by kernel_rfl) (fun _ _ _ h => h) (Or.inl ⟨by rfl, ?_⟩) (by assumption) ?_
        rotate_left
        · intro w hSw
          go_simp
          first | done | with_reducible rfl
        try simp only [Act.put, List.setIfInBounds_toArray, List.set_cons_zero, List.set_cons_succ]
        refine wpAnyH_take (i := 24) (oi := { dst := some 43, op := Op.move (Operand.tmp 0), type := 22, pos := _, after := #[], guard := none }) (v := ?_) rfl (by kernel_rfl) (by kernel_rfl) (by kernel_rfl) (fun _ _ _ h => h) (Or.inl ⟨by rfl, ?_⟩) (by assumption) ?_
        rotate_left
        · intro w hSw
          go_simp
          first | done | with_reducible rfl
        try simp only [Act.put, List.setIfInBounds_toArray, List.set_cons_zero, List.set_cons_succ]
        refine wpAnyH_take (i := 25) (oi := { dst := some 44, op := Op.indexAddr 22 (Operand.tmp 43) (Operand.const (Value.int IntKind.i64 2)), type := 0, pos := _, after := #[{ on := 24, ground := Ground.data }], guard := none }) (v := ?_) rfl (by kernel_rfl) (by kernel_rfl) (by kernel_rfl) (fun _ _ _ h => h) (Or.inl ⟨by rfl, ?_⟩) (by assumption) ?_
        rotate_left
        · intro w hSw
          go_simp
          first | done | with_reducible rfl
        try simp only [Act.put, List.setIfInBounds_toArray, List.set_cons_zero, List.set_cons_succ]
        refine wpAnyH_take (i := 26) (oi := { dst := some 45, op := Op.load 5 (Operand.tmp 44), type := 5, pos := _, after := #[{ on := 25, ground := Ground.data }], guard := none }) (v := ?_) rfl (by kernel_rfl) (by kernel_rfl) (by kernel_rfl) (fun _ _ _ h => h) (Or.inl ⟨by rfl, ?_⟩) (by assumption) ?_
        rotate_left
        · intro w hSw
          go_simp
          first | done | with_reducible rfl
        try simp only [Act.put, List.setIfInBounds_toArray, List.set_cons_zero, List.set_cons_succ]
        refine wpAnyH_take (i := 28) (oi := { dst := some 47, op := Op.move (Operand.tmp 0), type := 22, pos := _, after := #[], guard := none }) (v := ?_) rfl (by kernel_rfl) (by kernel_rfl) (by kernel_rfl) (fun _ _ _ h => h) (Or.inl ⟨by rfl, ?_⟩) (by assumption) ?_
        rotate_left
        · intro w hSw
          go_simp
          first | done | with_reducible rfl
        try simp only [Act.put, List.setIfInBounds_toArray, List.set_cons_zero, List.set_cons_succ]
        refine wpAnyH_take (i := 29) (oi := { dst := some 48, op := Op.indexAddr 22 (Operand.tmp 47) (Operand.const (Value.int IntKind.i64 2)), type := 0, pos := _, after := #[{ on := 28, ground := Ground.data }], guard := none }) (v := ?_) rfl (by kernel_rfl) (by kernel_rfl) (by kernel_rfl) (fun _ _ _ h => h) (Or.inl ⟨by rfl, ?_⟩) (by assumption) ?_
        rotate_left
        · intro w hSw
          go_simp
          first | done | with_reducible rfl
        try simp only [Act.put, List.setIfInBounds_toArray, List.set_cons_zero, List.set_cons_succ]
        refine wpAnyH_take (i := 30) (oi := { dst := some 49, op := Op.load 5 (Operand.tmp 48), type := 5, pos := _, after := #[{ on := 29, ground := Ground.data }], guard := none }) (v := ?_) rfl (by kernel_rfl) (by kernel_rfl) (by kernel_rfl) (fun _ _ _ h => h) (Or.inl ⟨by rfl, ?_⟩) (by assumption) ?_
        rotate_left
        · intro w hSw
          go_simp
          first | done | with_reducible rfl
        try simp only [Act.put, List.setIfInBounds_toArray, List.set_cons_zero, List.set_cons_succ]
        refine wpAnyH_take (i := 32) (oi := { dst := some 51, op := Op.move (Operand.tmp 0), type := 22, pos := _, after := #[], guard := none }) (v := ?_) rfl (by kernel_rfl) (by kernel_rfl) (by kernel_rfl) (fun _ _ _ h => h) (Or.inl ⟨by rfl, ?_⟩) (by assumption) ?_
        rotate_left
        · intro w hSw
          go_simp
          first | done | with_reducible rfl
        try simp only [Act.put, List.setIfInBounds_toArray, List.set_cons_zero, List.set_cons_succ]
        refine wpAnyH_take (i := 33) (oi := { dst := some 52, op := Op.indexAddr 22 (Operand.tmp 51) (Operand.const (Value.int IntKind.i64 3)), type := 0, pos := _, after := #[{ on := 32, ground := Ground.data }], guard := none }) (v := ?_) rfl (by kernel_rfl) (by kernel_rfl) (by kernel_rfl) (fun _ _ _ h => h) (Or.inl ⟨by rfl, ?_⟩) (by assumption) ?_
        rotate_left
        · intro w hSw
          go_simp
          first | done | with_reducible rfl
        try simp only [Act.put, List.setIfInBounds_toArray, List.set_cons_zero, List.set_cons_succ]
        refine wpAnyH_take (i := 34) (oi := { dst := some 53, op := Op.load 5 (Operand.tmp 52), type := 5, pos := _, after := #[{ on := 33, ground := Ground.data }], guard := none }) (v := ?_) rfl (by kernel_rfl) (by kernel_rfl) (by kernel_rfl) (fun _ _ _ h => h) (Or.inl ⟨by rfl, ?_⟩) (by assumption) ?_
        rotate_left
        · intro w hSw
          go_simp
          first | done | with_reducible rfl
        try simp only [Act.put, List.setIfInBounds_toArray, List.set_cons_zero, List.set_cons_succ]
        refine wpAnyH_take (i := 36) (oi := { dst := some 55, op := Op.move (Operand.tmp 0), type := 22, pos := _, after := #[], guard := none }) (v := ?_) rfl (by kernel_rfl) (by kernel_rfl) (by kernel_rfl) (fun _ _ _ h => h) (Or.inl ⟨by rfl, ?_⟩) (by assumption) ?_
        rotate_left
        · intro w hSw
          go_simp
          first | done | with_reducible rfl
        try simp only [Act.put, List.setIfInBounds_toArray, List.set_cons_zero, List.set_cons_succ]
        refine wpAnyH_take (i := 37) (oi := { dst := some 56, op := Op.indexAddr 22 (Operand.tmp 55) (Operand.const (Value.int IntKind.i64 3)), type := 0, pos := _, after := #[{ on := 36, ground := Ground.data }], guard := none }) (v := ?_) rfl (by kernel_rfl) (by kernel_rfl) (by kernel_rfl) (fun _ _ _ h => h) (Or.inl ⟨by rfl, ?_⟩) (by assumption) ?_
        rotate_left
        · intro w hSw
          go_simp
          first | done | with_reducible rfl
        try simp only [Act.put, List.setIfInBounds_toArray, List.set_cons_zero, List.set_cons_succ]
        refine wpAnyH_take (i := 38) (oi := { dst := some 57, op := Op.load 5 (Operand.tmp 56), type := 5, pos := _, after := #[{ on := 37, ground := Ground.data }], guard := none }) (v := ?_) rfl (by kernel_rfl) (by kernel_rfl) (by kernel_rfl) (fun _ _ _ h => h) (Or.inl ⟨by rfl, ?_⟩) (by assumption) ?_
        rotate_left
        · intro w hSw
          go_simp
          first | done | with_reducible rfl
        try simp only [Act.put, List.setIfInBounds_toArray, List.set_cons_zero, List.set_cons_succ]
        refine wpAnyH_take (i := 40) (oi := { dst := some 59, op := Op.move (Operand.tmp 0), type := 22, pos := _, after := #[], guard := none }) (v := ?_) rfl (by kernel_rfl) (by kernel_rfl) (by kernel_rfl) (fun _ _ _ h => h) (Or.inl ⟨by rfl, ?_⟩) (by assumption) ?_
        rotate_left
        · intro w hSw
          go_simp
          first | done | with_reducible rfl
        try simp only [Act.put, List.setIfInBounds_toArray, List.set_cons_zero, List.set_cons_succ]
        refine wpAnyH_take (i := 41) (oi := { dst := some 60, op := Op.indexAddr 22 (Operand.tmp 59) (Operand.const (Value.int IntKind.i64 3)), type := 0, pos := _, after := #[{ on := 40, ground := Ground.data }], guard := none }) (v := ?_) rfl (by kernel_rfl) (by kernel_rfl) (by kernel_rfl) (fun _ _ _ h => h) (Or.inl ⟨by rfl, ?_⟩) (by assumption) ?_
        rotate_left
        · intro w hSw
          go_simp
          first | done | with_reducible rfl
        try simp only [Act.put, List.setIfInBounds_toArray, List.set_cons_zero, List.set_cons_succ]
        refine wpAnyH_take (i := 42) (oi := { dst := some 61, op := Op.load 5 (Operand.tmp 60), type := 5, pos := _, after := #[{ on := 41, ground := Ground.data }], guard := none }) (v := ?_) rfl (by kernel_rfl) (by kernel_rfl) (by kernel_rfl) (fun _ _ _ h => h) (Or.inl ⟨by rfl, ?_⟩) (by assumption) ?_
        rotate_left
        · intro w hSw
          go_simp
          first | done | with_reducible rfl
        try simp only [Act.put, List.setIfInBounds_toArray, List.set_cons_zero, List.set_cons_succ]
        refine wpAnyH_take (i := 44) (oi := { dst := some 63, op := Op.move (Operand.tmp 0), type := 22, pos := _, after := #[], guard := none }) (v := ?_) rfl (by kernel_rfl) (by kernel_rfl) (by kernel_rfl) (fun _ _ _ h => h) (Or.inl ⟨by rfl, ?_⟩) (by assumption) ?_
        rotate_left
        · intro w hSw
          go_simp
          first | done | with_reducible rfl
        try simp only [Act.put, List.setIfInBounds_toArray, List.set_cons_zero, List.set_cons_succ]
        refine wpAnyH_take (i := 45) (oi := { dst := some 64, op := Op.indexAddr 22 (Operand.tmp 63) (Operand.const (Value.int IntKind.i64 3)), type := 0, pos := _, after := #[{ on := 44, ground := Ground.data }], guard := none }) (v := ?_) rfl (by kernel_rfl) (by kernel_rfl) (by kernel_rfl) (fun _ _ _ h => h) (Or.inl ⟨by rfl, ?_⟩) (by assumption) ?_
        rotate_left
        · intro w hSw
          go_simp
          first | done | with_reducible rfl
        try simp only [Act.put, List.setIfInBounds_toArray, List.set_cons_zero, List.set_cons_succ]
        refine wpAnyH_take (i := 46) (oi := { dst := some 65, op := Op.load 5 (Operand.tmp 64), type := 5, pos := _, after := #[{ on := 45, ground := Ground.data }], guard := none }) (v := ?_) rfl (by kernel_rfl) (by kernel_rfl) (by kernel_rfl) (fun _ _ _ h => h) (Or.inl ⟨by rfl, ?_⟩) (by assumption) ?_
        rotate_left
        · intro w hSw
          go_simp
          first | done | with_reducible rfl
        try simp only [Act.put, List.setIfInBounds_toArray, List.set_cons_zero, List.set_cons_succ]
        refine wpAnyH_take (i := 47) (oi := { dst := some 66, op := Op.convert 5 3 (Operand.tmp 65), type := 3, pos := _, after := #[{ on := 46, ground := Ground.data }], guard := none }) (v := ?_) rfl (by kernel_rfl) (by kernel_rfl) (by kernel_rfl) (fun _ _ _ h => h) (Or.inl ⟨by rfl, ?_⟩) (by assumption) ?_
        rotate_left
        · intro w hSw
          go_simp
          first | done | with_reducible rfl
        try simp only [Act.put, List.setIfInBounds_toArray, List.set_cons_zero, List.set_cons_succ]
        refine wpAnyH_take (i := 48) (oi := { dst := some 67, op := Op.binOp BinOp.rem 3 (Operand.tmp 66) (Operand.const (Value.int IntKind.i64 16)) 3, type := 3, pos := _, after := #[{ on := 47, ground := Ground.data }], guard := none }) (v := ?_) rfl (by kernel_rfl) (by kernel_rfl) (by kernel_rfl) (fun _ _ _ h => h) (Or.inl ⟨by rfl, ?_⟩) (by assumption) ?_
        rotate_left
        · intro w hSw
          go_simp
          first | done | with_reducible rfl
        try simp only [Act.put, List.setIfInBounds_toArray, List.set_cons_zero, List.set_cons_succ]
        obtain ⟨WA, hWA⟩ : ∃ WA, w4.alloc (.cells #[.int .u16 0, .bool false, .int .i64 0, .bool false, .bool false, .bool false, .bool false, .bool false, .bool false, .int .i64 0, .slice none 0 0, .slice none 0 0, .slice none 0 0, .slice none 0 0] 28) = WA := ⟨_, rfl⟩
        have hbA : Hid (Below W.heap.size W WA) := by rw [← hWA]; exact Lib.hid (hbel4.alloc (by omega) _)
        have hBmA : Hid (Blk WA W.heap.size 28 (0, 0) (cellsH 0 0 0 (fun _ => false) nils)) := by rw [← hWA]; exact Lib.hid (hBm4.out.alloc _)
        have hBcA : Hid (Blk WA (W.heap.size + 1) 29 (0, 0) [.int .i64 0, .int .i64 0, .int .i64 0, .int .i64 0]) := by rw [← hWA]; exact Lib.hid (hBc4.out.alloc _)
        have hBdA : Hid (Blk WA (W.heap.size + 2) 29 (0, 0) [.int .i64 0, .int .i64 0, .int .i64 0, .int .i64 0]) := by rw [← hWA]; exact Lib.hid (hBd4.out.alloc _)
        have hBnA : Hid (Blk WA (W.heap.size + 3) 28 (0, 0) [.int .u16 0, .bool false, .int .i64 0, .bool false, .bool false, .bool false, .bool false, .bool false, .bool false, .int .i64 0, .slice none 0 0, .slice none 0 0, .slice none 0 0, .slice none 0 0]) := by rw [← hWA, ← hsz4]; exact Lib.hid (Blk.new w4 28 (0, 0) #[.int .u16 0, .bool false, .int .i64 0, .bool false, .bool false, .bool false, .bool false, .bool false, .bool false, .int .i64 0, .slice none 0 0, .slice none 0 0, .slice none 0 0, .slice none 0 0])
        have hszA : Hid (WA.heap.size = W.heap.size + 4) := by rw [← hWA]; exact Lib.hid (by simp; omega)
        have hbel5 := Lib.hid hbel4
        clear hbel4
        refine wpAnyH_ready (rs := [13, 50]) (by kernel_rfl) (by simp) ?_
        refine AllReadyH.cons (o := { dst := some 32, op := Op.call { callee := Callee.value (Operand.func 26), args := #[Operand.tmp 31, Operand.const (Value.int IntKind.i64 128)], argTypes := #[5, 3] }, type := 4, pos := _, after := #[{ on := 12, ground := Ground.data }], guard := none }) rfl (fun K hK => ?_) ?_
        · go_simp
          go_at_call 26
          refine (has_any b2 128 (by decide) (by decide) _).mono ?_
          rintro e wx ⟨rfl, rfl⟩
          go_wp2_with fail
          refine hK.out _ _ (hSB.out _ hbel5.out) (fun hHeld => ?_)
          clear hK K
          try simp only [Act.put, List.setIfInBounds_toArray, List.set_cons_zero, List.set_cons_succ]
          refine wpAnyH_ready (rs := [23, 50]) (by kernel_rfl) (by simp) ?_
          refine AllReadyH.cons (o := { dst := some 42, op := Op.call { callee := Callee.value (Operand.func 26), args := #[Operand.tmp 41, Operand.const (Value.int IntKind.i64 4)], argTypes := #[5, 3] }, type := 4, pos := _, after := #[{ on := 22, ground := Ground.data }, { on := 13, ground := Ground.chain }], guard := none }) rfl (fun K hK => ?_) ?_
          · go_simp
            go_at_call 26
            refine (has_any b2 4 (by decide) (by decide) _).mono ?_
            rintro e wx ⟨rfl, rfl⟩
            go_wp2_with fail
            refine hK.out _ _ (hSB.out _ hbel5.out) (fun hHeld => ?_)
            clear hK K
            try simp only [Act.put, List.setIfInBounds_toArray, List.set_cons_zero, List.set_cons_succ]
            refine wpAnyH_ready (rs := [27, 50]) (by kernel_rfl) (by simp) ?_
            refine AllReadyH.cons (o := { dst := some 46, op := Op.call { callee := Callee.value (Operand.func 26), args := #[Operand.tmp 45, Operand.const (Value.int IntKind.i64 2)], argTypes := #[5, 3] }, type := 4, pos := _, after := #[{ on := 26, ground := Ground.data }, { on := 23, ground := Ground.chain }], guard := none }) rfl (fun K hK => ?_) ?_
            · go_simp
              go_at_call 26
              refine (has_any b2 2 (by decide) (by decide) _).mono ?_
              rintro e wx ⟨rfl, rfl⟩
              go_wp2_with fail
              refine hK.out _ _ (hSB.out _ hbel5.out) (fun hHeld => ?_)
              clear hK K
              try simp only [Act.put, List.setIfInBounds_toArray, List.set_cons_zero, List.set_cons_succ]
              refine wpAnyH_ready (rs := [31, 50]) (by kernel_rfl) (by simp) ?_
              refine AllReadyH.cons (o := { dst := some 50, op := Op.call { callee := Callee.value (Operand.func 26), args := #[Operand.tmp 49, Operand.const (Value.int IntKind.i64 1)], argTypes := #[5, 3] }, type := 4, pos := _, after := #[{ on := 30, ground := Ground.data }, { on := 27, ground := Ground.chain }], guard := none }) rfl (fun K hK => ?_) ?_
              · go_simp
                go_at_call 26
                refine (has_any b2 1 (by decide) (by decide) _).mono ?_
                rintro e wx ⟨rfl, rfl⟩
                go_wp2_with fail
                refine hK.out _ _ (hSB.out _ hbel5.out) (fun hHeld => ?_)
                clear hK K
                try simp only [Act.put, List.setIfInBounds_toArray, List.set_cons_zero, List.set_cons_succ]
                refine wpAnyH_ready (rs := [35, 50]) (by kernel_rfl) (by simp) ?_
                refine AllReadyH.cons (o := { dst := some 54, op := Op.call { callee := Callee.value (Operand.func 26), args := #[Operand.tmp 53, Operand.const (Value.int IntKind.i64 128)], argTypes := #[5, 3] }, type := 4, pos := _, after := #[{ on := 34, ground := Ground.data }, { on := 31, ground := Ground.chain }], guard := none }) rfl (fun K hK => ?_) ?_
                · go_simp
                  go_at_call 26
                  refine (has_any b3 128 (by decide) (by decide) _).mono ?_
                  rintro e wx ⟨rfl, rfl⟩
                  go_wp2_with fail
                  refine hK.out _ _ (hSB.out _ hbel5.out) (fun hHeld => ?_)
                  clear hK K
                  try simp only [Act.put, List.setIfInBounds_toArray, List.set_cons_zero, List.set_cons_succ]
                  refine wpAnyH_ready (rs := [39, 50]) (by kernel_rfl) (by simp) ?_
                  refine AllReadyH.cons (o := { dst := some 58, op := Op.call { callee := Callee.value (Operand.func 26), args := #[Operand.tmp 57, Operand.const (Value.int IntKind.i64 32)], argTypes := #[5, 3] }, type := 4, pos := _, after := #[{ on := 38, ground := Ground.data }, { on := 35, ground := Ground.chain }], guard := none }) rfl (fun K hK => ?_) ?_
                  · go_simp
                    go_at_call 26
                    refine (has_any b3 32 (by decide) (by decide) _).mono ?_
                    rintro e wx ⟨rfl, rfl⟩
                    go_wp2_with fail
                    refine hK.out _ _ (hSB.out _ hbel5.out) (fun hHeld => ?_)
                    clear hK K
                    try simp only [Act.put, List.setIfInBounds_toArray, List.set_cons_zero, List.set_cons_succ]
                    refine wpAnyH_ready (rs := [43, 50]) (by kernel_rfl) (by simp) ?_
                    refine AllReadyH.cons (o := { dst := some 62, op := Op.call { callee := Callee.value (Operand.func 26), args := #[Operand.tmp 61, Operand.const (Value.int IntKind.i64 16)], argTypes := #[5, 3] }, type := 4, pos := _, after := #[{ on := 42, ground := Ground.data }, { on := 39, ground := Ground.chain }], guard := none }) rfl (fun K hK => ?_) ?_
                    · go_simp
                      go_at_call 26
                      refine (has_any b3 16 (by decide) (by decide) _).mono ?_
                      rintro e wx ⟨rfl, rfl⟩
                      go_wp2_with fail
                      refine hK.out _ _ (hSB.out _ hbel5.out) (fun hHeld => ?_)
                      clear hK K
                      try simp only [Act.put, List.setIfInBounds_toArray, List.set_cons_zero, List.set_cons_succ]
                      refine wpAnyH_take (i := 49) (oi := { dst := some 68, op := Op.build 28 #[(0, Operand.tmp 28), (1, Operand.tmp 32), (2, Operand.tmp 38), (3, Operand.tmp 42), (4, Operand.tmp 46), (5, Operand.tmp 50), (6, Operand.tmp 54), (7, Operand.tmp 58), (8, Operand.tmp 62), (9, Operand.tmp 67)], type := 28, pos := _, after := #[{ on := 9, ground := Ground.data }, { on := 13, ground := Ground.data }, { on := 19, ground := Ground.data }, { on := 23, ground := Ground.data }, { on := 27, ground := Ground.data }, { on := 31, ground := Ground.data }, { on := 35, ground := Ground.data }, { on := 39, ground := Ground.data }, { on := 43, ground := Ground.data }, { on := 48, ground := Ground.data }], guard := none }) (v := ?_) rfl (by kernel_rfl) (by kernel_rfl) (by kernel_rfl) (fun _ _ _ h => h) (Or.inl ⟨by rfl, ?_⟩) (by assumption) ?_
                      rotate_left
                      · intro w hSw
                        go_simp
                        first | done | with_reducible rfl
                      try simp only [Act.put, List.setIfInBounds_toArray, List.set_cons_zero, List.set_cons_succ]
                      refine wpAnyH_ready (rs := [50]) (by kernel_rfl) (by simp) ?_
                      refine AllReadyH.cons (o := { dst := some 6, op := Op.alloc 28, type := 0, pos := _, after := #[], guard := none }) rfl (fun K hK => ?_) ?_
                      · go_simp
                        go_wp2_with fail
                        refine hK.out _ _ (hSB.out _ hbA.out) (fun hHeld => ?_)
                        clear hK K
                        try simp only [Act.put, List.setIfInBounds_toArray, List.set_cons_zero, List.set_cons_succ]
                        refine wpAnyH_ready (rs := [51]) (by kernel_rfl) (by simp) ?_
                        refine AllReadyH.cons (o := { dst := none, op := Op.store 28 (Operand.tmp 6) (Operand.tmp 68), type := 0, pos := _, after := #[{ on := 50, ground := Ground.data }, { on := 49, ground := Ground.data }, { on := 43, ground := Ground.chain }, { on := 0, ground := Ground.phase }, { on := 1, ground := Ground.phase }, { on := 2, ground := Ground.phase }, { on := 3, ground := Ground.phase }, { on := 4, ground := Ground.phase }, { on := 5, ground := Ground.phase }, { on := 6, ground := Ground.phase }, { on := 7, ground := Ground.phase }, { on := 8, ground := Ground.phase }, { on := 9, ground := Ground.phase }, { on := 10, ground := Ground.phase }, { on := 11, ground := Ground.phase }, { on := 12, ground := Ground.phase }, { on := 13, ground := Ground.phase }, { on := 14, ground := Ground.phase }, { on := 15, ground := Ground.phase }, { on := 16, ground := Ground.phase }, { on := 17, ground := Ground.phase }, { on := 18, ground := Ground.phase }, { on := 19, ground := Ground.phase }, { on := 20, ground := Ground.phase }, { on := 21, ground := Ground.phase }, { on := 22, ground := Ground.phase }, { on := 23, ground := Ground.phase }, { on := 24, ground := Ground.phase }, { on := 25, ground := Ground.phase }, { on := 26, ground := Ground.phase }, { on := 27, ground := Ground.phase }, { on := 28, ground := Ground.phase }, { on := 29, ground := Ground.phase }, { on := 30, ground := Ground.phase }, { on := 31, ground := Ground.phase }, { on := 32, ground := Ground.phase }, { on := 33, ground := Ground.phase }, { on := 34, ground := Ground.phase }, { on := 35, ground := Ground.phase }, { on := 36, ground := Ground.phase }, { on := 37, ground := Ground.phase }, { on := 38, ground := Ground.phase }, { on := 39, ground := Ground.phase }, { on := 40, ground := Ground.phase }, { on := 41, ground := Ground.phase }, { on := 42, ground := Ground.phase }, { on := 43, ground := Ground.phase }, { on := 44, ground := Ground.phase }, { on := 45, ground := Ground.phase }, { on := 46, ground := Ground.phase }, { on := 47, ground := Ground.phase }, { on := 48, ground := Ground.phase }, { on := 49, ground := Ground.phase }, { on := 50, ground := Ground.phase }], guard := none }) rfl (fun K hK => ?_) ?_
                        · rw [if_pos (by rfl)]
                          refine store_whole_op (cells := #[.int .u16 (IntKind.u16.wrap (IntKind.u16.wrap (IntKind.u16.wrap (b0.toNat : Int) * 256) + IntKind.u16.wrap (b1.toNat : Int))), .bool (hasB b2 128), .int .i64 ((IntKind.i64.wrap ((IntKind.i64.wrap (b2.toNat : Int)).tdiv 8)).tmod 16), .bool (hasB b2 4), .bool (hasB b2 2), .bool (hasB b2 1), .bool (hasB b3 128), .bool (hasB b3 32), .bool (hasB b3 16), .int .i64 ((IntKind.i64.wrap (b3.toNat : Int)).tmod 16), .slice none 0 0, .slice none 0 0, .slice none 0 0, .slice none 0 0]) 28 (.tmp 6) (.tmp 68) rfl rfl rfl hBnA.out rfl (by kernel_rfl) (by kernel_rfl) ?_
                          intro w6 hBw hg hsz6
                          have hb6 : Below W.heap.size W w6 := below1 hbA.out (by omega) (by have := hszA.out; omega) hg
                          refine hK.out _ _ (hSB.out _ hb6) (fun hHeld => ?_)
                          clear hK K
                          refine wpAnyH_done (by kernel_rfl) ?_ _
                          refine NoPanic.normal ?_
                          exact rq_mk hb6 (hsz6.trans hszA.out) ((keep1 hg hBmA.out.lt (by omega)).trans hBmA.out) ((keep1 hg hBcA.out.lt (by omega)).trans hBcA.out) ((keep1 hg hBdA.out.lt (by omega)).trans hBdA.out) hBw
                        exact AllReadyH.nil
                      exact AllReadyH.nil
                    refine AllReadyH.cons (o := { dst := some 6, op := Op.alloc 28, type := 0, pos := _, after := #[], guard := none }) rfl (fun K hK => ?_) ?_
                    · go_simp
                      go_wp2_with fail
                      refine hK.out _ _ (hSB.out _ hbA.out) (fun hHeld => ?_)
                      clear hK K
                      try simp only [Act.put, List.setIfInBounds_toArray, List.set_cons_zero, List.set_cons_succ]
                      refine wpAnyH_ready (rs := [43]) (by kernel_rfl) (by simp) ?_
                      refine AllReadyH.cons (o := { dst := some 62, op := Op.call { callee := Callee.value (Operand.func 26), args := #[Operand.tmp 61, Operand.const (Value.int IntKind.i64 16)], argTypes := #[5, 3] }, type := 4, pos := _, after := #[{ on := 42, ground := Ground.data }, { on := 39, ground := Ground.chain }], guard := none }) rfl (fun K hK => ?_) ?_
                      · go_simp
                        go_at_call 26
                        refine (has_any b3 16 (by decide) (by decide) _).mono ?_
                        rintro e wx ⟨rfl, rfl⟩
                        go_wp2_with fail
                        refine hK.out _ _ (hSB.out _ hbA.out) (fun hHeld => ?_)
                        clear hK K
                        try simp only [Act.put, List.setIfInBounds_toArray, List.set_cons_zero, List.set_cons_succ]
                        refine wpAnyH_take (i := 49) (oi := { dst := some 68, op := Op.build 28 #[(0, Operand.tmp 28), (1, Operand.tmp 32), (2, Operand.tmp 38), (3, Operand.tmp 42), (4, Operand.tmp 46), (5, Operand.tmp 50), (6, Operand.tmp 54), (7, Operand.tmp 58), (8, Operand.tmp 62), (9, Operand.tmp 67)], type := 28, pos := _, after := #[{ on := 9, ground := Ground.data }, { on := 13, ground := Ground.data }, { on := 19, ground := Ground.data }, { on := 23, ground := Ground.data }, { on := 27, ground := Ground.data }, { on := 31, ground := Ground.data }, { on := 35, ground := Ground.data }, { on := 39, ground := Ground.data }, { on := 43, ground := Ground.data }, { on := 48, ground := Ground.data }], guard := none }) (v := ?_) rfl (by kernel_rfl) (by kernel_rfl) (by kernel_rfl) (fun _ _ _ h => h) (Or.inl ⟨by rfl, ?_⟩) (by assumption) ?_
                        rotate_left
                        · intro w hSw
                          go_simp
                          first | done | with_reducible rfl
                        try simp only [Act.put, List.setIfInBounds_toArray, List.set_cons_zero, List.set_cons_succ]
                        refine wpAnyH_ready (rs := [51]) (by kernel_rfl) (by simp) ?_
                        refine AllReadyH.cons (o := { dst := none, op := Op.store 28 (Operand.tmp 6) (Operand.tmp 68), type := 0, pos := _, after := #[{ on := 50, ground := Ground.data }, { on := 49, ground := Ground.data }, { on := 43, ground := Ground.chain }, { on := 0, ground := Ground.phase }, { on := 1, ground := Ground.phase }, { on := 2, ground := Ground.phase }, { on := 3, ground := Ground.phase }, { on := 4, ground := Ground.phase }, { on := 5, ground := Ground.phase }, { on := 6, ground := Ground.phase }, { on := 7, ground := Ground.phase }, { on := 8, ground := Ground.phase }, { on := 9, ground := Ground.phase }, { on := 10, ground := Ground.phase }, { on := 11, ground := Ground.phase }, { on := 12, ground := Ground.phase }, { on := 13, ground := Ground.phase }, { on := 14, ground := Ground.phase }, { on := 15, ground := Ground.phase }, { on := 16, ground := Ground.phase }, { on := 17, ground := Ground.phase }, { on := 18, ground := Ground.phase }, { on := 19, ground := Ground.phase }, { on := 20, ground := Ground.phase }, { on := 21, ground := Ground.phase }, { on := 22, ground := Ground.phase }, { on := 23, ground := Ground.phase }, { on := 24, ground := Ground.phase }, { on := 25, ground := Ground.phase }, { on := 26, ground := Ground.phase }, { on := 27, ground := Ground.phase }, { on := 28, ground := Ground.phase }, { on := 29, ground := Ground.phase }, { on := 30, ground := Ground.phase }, { on := 31, ground := Ground.phase }, { on := 32, ground := Ground.phase }, { on := 33, ground := Ground.phase }, { on := 34, ground := Ground.phase }, { on := 35, ground := Ground.phase }, { on := 36, ground := Ground.phase }, { on := 37, ground := Ground.phase }, { on := 38, ground := Ground.phase }, { on := 39, ground := Ground.phase }, { on := 40, ground := Ground.phase }, { on := 41, ground := Ground.phase }, { on := 42, ground := Ground.phase }, { on := 43, ground := Ground.phase }, { on := 44, ground := Ground.phase }, { on := 45, ground := Ground.phase }, { on := 46, ground := Ground.phase }, { on := 47, ground := Ground.phase }, { on := 48, ground := Ground.phase }, { on := 49, ground := Ground.phase }, { on := 50, ground := Ground.phase }], guard := none }) rfl (fun K hK => ?_) ?_
                        · rw [if_pos (by rfl)]
                          refine store_whole_op (cells := #[.int .u16 (IntKind.u16.wrap (IntKind.u16.wrap (IntKind.u16.wrap (b0.toNat : Int) * 256) + IntKind.u16.wrap (b1.toNat : Int))), .bool (hasB b2 128), .int .i64 ((IntKind.i64.wrap ((IntKind.i64.wrap (b2.toNat : Int)).tdiv 8)).tmod 16), .bool (hasB b2 4), .bool (hasB b2 2), .bool (hasB b2 1), .bool (hasB b3 128), .bool (hasB b3 32), .bool (hasB b3 16), .int .i64 ((IntKind.i64.wrap (b3.toNat : Int)).tmod 16), .slice none 0 0, .slice none 0 0, .slice none 0 0, .slice none 0 0]) 28 (.tmp 6) (.tmp 68) rfl rfl rfl hBnA.out rfl (by kernel_rfl) (by kernel_rfl) ?_
                          intro w6 hBw hg hsz6
                          have hb6 : Below W.heap.size W w6 := below1 hbA.out (by omega) (by have := hszA.out; omega) hg
                          refine hK.out _ _ (hSB.out _ hb6) (fun hHeld => ?_)
                          clear hK K
                          refine wpAnyH_done (by kernel_rfl) ?_ _
                          refine NoPanic.normal ?_
                          exact rq_mk hb6 (hsz6.trans hszA.out) ((keep1 hg hBmA.out.lt (by omega)).trans hBmA.out) ((keep1 hg hBcA.out.lt (by omega)).trans hBcA.out) ((keep1 hg hBdA.out.lt (by omega)).trans hBdA.out) hBw
                        exact AllReadyH.nil
                      exact AllReadyH.nil
                    exact AllReadyH.nil
                  refine AllReadyH.cons (o := { dst := some 6, op := Op.alloc 28, type := 0, pos := _, after := #[], guard := none }) rfl (fun K hK => ?_) ?_
                  · go_simp
                    go_wp2_with fail
                    refine hK.out _ _ (hSB.out _ hbA.out) (fun hHeld => ?_)
                    clear hK K
                    try simp only [Act.put, List.setIfInBounds_toArray, List.set_cons_zero, List.set_cons_succ]
                    refine wpAnyH_ready (rs := [39]) (by kernel_rfl) (by simp) ?_
                    refine AllReadyH.cons (o := { dst := some 58, op := Op.call { callee := Callee.value (Operand.func 26), args := #[Operand.tmp 57, Operand.const (Value.int IntKind.i64 32)], argTypes := #[5, 3] }, type := 4, pos := _, after := #[{ on := 38, ground := Ground.data }, { on := 35, ground := Ground.chain }], guard := none }) rfl (fun K hK => ?_) ?_
                    · go_simp
                      go_at_call 26
                      refine (has_any b3 32 (by decide) (by decide) _).mono ?_
                      rintro e wx ⟨rfl, rfl⟩
                      go_wp2_with fail
                      refine hK.out _ _ (hSB.out _ hbA.out) (fun hHeld => ?_)
                      clear hK K
                      try simp only [Act.put, List.setIfInBounds_toArray, List.set_cons_zero, List.set_cons_succ]
                      refine wpAnyH_ready (rs := [43]) (by kernel_rfl) (by simp) ?_
                      refine AllReadyH.cons (o := { dst := some 62, op := Op.call { callee := Callee.value (Operand.func 26), args := #[Operand.tmp 61, Operand.const (Value.int IntKind.i64 16)], argTypes := #[5, 3] }, type := 4, pos := _, after := #[{ on := 42, ground := Ground.data }, { on := 39, ground := Ground.chain }], guard := none }) rfl (fun K hK => ?_) ?_
                      · go_simp
                        go_at_call 26
                        refine (has_any b3 16 (by decide) (by decide) _).mono ?_
                        rintro e wx ⟨rfl, rfl⟩
                        go_wp2_with fail
                        refine hK.out _ _ (hSB.out _ hbA.out) (fun hHeld => ?_)
                        clear hK K
                        try simp only [Act.put, List.setIfInBounds_toArray, List.set_cons_zero, List.set_cons_succ]
                        refine wpAnyH_take (i := 49) (oi := { dst := some 68, op := Op.build 28 #[(0, Operand.tmp 28), (1, Operand.tmp 32), (2, Operand.tmp 38), (3, Operand.tmp 42), (4, Operand.tmp 46), (5, Operand.tmp 50), (6, Operand.tmp 54), (7, Operand.tmp 58), (8, Operand.tmp 62), (9, Operand.tmp 67)], type := 28, pos := _, after := #[{ on := 9, ground := Ground.data }, { on := 13, ground := Ground.data }, { on := 19, ground := Ground.data }, { on := 23, ground := Ground.data }, { on := 27, ground := Ground.data }, { on := 31, ground := Ground.data }, { on := 35, ground := Ground.data }, { on := 39, ground := Ground.data }, { on := 43, ground := Ground.data }, { on := 48, ground := Ground.data }], guard := none }) (v := ?_) rfl (by kernel_rfl) (by kernel_rfl) (by kernel_rfl) (fun _ _ _ h => h) (Or.inl ⟨by rfl, ?_⟩) (by assumption) ?_
                        rotate_left
                        · intro w hSw
                          go_simp
                          first | done | with_reducible rfl
                        try simp only [Act.put, List.setIfInBounds_toArray, List.set_cons_zero, List.set_cons_succ]
                        refine wpAnyH_ready (rs := [51]) (by kernel_rfl) (by simp) ?_
                        refine AllReadyH.cons (o := { dst := none, op := Op.store 28 (Operand.tmp 6) (Operand.tmp 68), type := 0, pos := _, after := #[{ on := 50, ground := Ground.data }, { on := 49, ground := Ground.data }, { on := 43, ground := Ground.chain }, { on := 0, ground := Ground.phase }, { on := 1, ground := Ground.phase }, { on := 2, ground := Ground.phase }, { on := 3, ground := Ground.phase }, { on := 4, ground := Ground.phase }, { on := 5, ground := Ground.phase }, { on := 6, ground := Ground.phase }, { on := 7, ground := Ground.phase }, { on := 8, ground := Ground.phase }, { on := 9, ground := Ground.phase }, { on := 10, ground := Ground.phase }, { on := 11, ground := Ground.phase }, { on := 12, ground := Ground.phase }, { on := 13, ground := Ground.phase }, { on := 14, ground := Ground.phase }, { on := 15, ground := Ground.phase }, { on := 16, ground := Ground.phase }, { on := 17, ground := Ground.phase }, { on := 18, ground := Ground.phase }, { on := 19, ground := Ground.phase }, { on := 20, ground := Ground.phase }, { on := 21, ground := Ground.phase }, { on := 22, ground := Ground.phase }, { on := 23, ground := Ground.phase }, { on := 24, ground := Ground.phase }, { on := 25, ground := Ground.phase }, { on := 26, ground := Ground.phase }, { on := 27, ground := Ground.phase }, { on := 28, ground := Ground.phase }, { on := 29, ground := Ground.phase }, { on := 30, ground := Ground.phase }, { on := 31, ground := Ground.phase }, { on := 32, ground := Ground.phase }, { on := 33, ground := Ground.phase }, { on := 34, ground := Ground.phase }, { on := 35, ground := Ground.phase }, { on := 36, ground := Ground.phase }, { on := 37, ground := Ground.phase }, { on := 38, ground := Ground.phase }, { on := 39, ground := Ground.phase }, { on := 40, ground := Ground.phase }, { on := 41, ground := Ground.phase }, { on := 42, ground := Ground.phase }, { on := 43, ground := Ground.phase }, { on := 44, ground := Ground.phase }, { on := 45, ground := Ground.phase }, { on := 46, ground := Ground.phase }, { on := 47, ground := Ground.phase }, { on := 48, ground := Ground.phase }, { on := 49, ground := Ground.phase }, { on := 50, ground := Ground.phase }], guard := none }) rfl (fun K hK => ?_) ?_
                        · rw [if_pos (by rfl)]
                          refine store_whole_op (cells := #[.int .u16 (IntKind.u16.wrap (IntKind.u16.wrap (IntKind.u16.wrap (b0.toNat : Int) * 256) + IntKind.u16.wrap (b1.toNat : Int))), .bool (hasB b2 128), .int .i64 ((IntKind.i64.wrap ((IntKind.i64.wrap (b2.toNat : Int)).tdiv 8)).tmod 16), .bool (hasB b2 4), .bool (hasB b2 2), .bool (hasB b2 1), .bool (hasB b3 128), .bool (hasB b3 32), .bool (hasB b3 16), .int .i64 ((IntKind.i64.wrap (b3.toNat : Int)).tmod 16), .slice none 0 0, .slice none 0 0, .slice none 0 0, .slice none 0 0]) 28 (.tmp 6) (.tmp 68) rfl rfl rfl hBnA.out rfl (by kernel_rfl) (by kernel_rfl) ?_
                          intro w6 hBw hg hsz6
                          have hb6 : Below W.heap.size W w6 := below1 hbA.out (by omega) (by have := hszA.out; omega) hg
                          refine hK.out _ _ (hSB.out _ hb6) (fun hHeld => ?_)
                          clear hK K
                          refine wpAnyH_done (by kernel_rfl) ?_ _
                          refine NoPanic.normal ?_
                          exact rq_mk hb6 (hsz6.trans hszA.out) ((keep1 hg hBmA.out.lt (by omega)).trans hBmA.out) ((keep1 hg hBcA.out.lt (by omega)).trans hBcA.out) ((keep1 hg hBdA.out.lt (by omega)).trans hBdA.out) hBw
                        exact AllReadyH.nil
                      exact AllReadyH.nil
                    exact AllReadyH.nil
                  exact AllReadyH.nil
                refine AllReadyH.cons (o := { dst := some 6, op := Op.alloc 28, type := 0, pos := _, after := #[], guard := none }) rfl (fun K hK => ?_) ?_
                · go_simp
                  go_wp2_with fail
                  refine hK.out _ _ (hSB.out _ hbA.out) (fun hHeld => ?_)
                  clear hK K
                  try simp only [Act.put, List.setIfInBounds_toArray, List.set_cons_zero, List.set_cons_succ]
                  refine wpAnyH_ready (rs := [35]) (by kernel_rfl) (by simp) ?_
                  refine AllReadyH.cons (o := { dst := some 54, op := Op.call { callee := Callee.value (Operand.func 26), args := #[Operand.tmp 53, Operand.const (Value.int IntKind.i64 128)], argTypes := #[5, 3] }, type := 4, pos := _, after := #[{ on := 34, ground := Ground.data }, { on := 31, ground := Ground.chain }], guard := none }) rfl (fun K hK => ?_) ?_
                  · go_simp
                    go_at_call 26
                    refine (has_any b3 128 (by decide) (by decide) _).mono ?_
                    rintro e wx ⟨rfl, rfl⟩
                    go_wp2_with fail
                    refine hK.out _ _ (hSB.out _ hbA.out) (fun hHeld => ?_)
                    clear hK K
                    try simp only [Act.put, List.setIfInBounds_toArray, List.set_cons_zero, List.set_cons_succ]
                    refine wpAnyH_ready (rs := [39]) (by kernel_rfl) (by simp) ?_
                    refine AllReadyH.cons (o := { dst := some 58, op := Op.call { callee := Callee.value (Operand.func 26), args := #[Operand.tmp 57, Operand.const (Value.int IntKind.i64 32)], argTypes := #[5, 3] }, type := 4, pos := _, after := #[{ on := 38, ground := Ground.data }, { on := 35, ground := Ground.chain }], guard := none }) rfl (fun K hK => ?_) ?_
                    · go_simp
                      go_at_call 26
                      refine (has_any b3 32 (by decide) (by decide) _).mono ?_
                      rintro e wx ⟨rfl, rfl⟩
                      go_wp2_with fail
                      refine hK.out _ _ (hSB.out _ hbA.out) (fun hHeld => ?_)
                      clear hK K
                      try simp only [Act.put, List.setIfInBounds_toArray, List.set_cons_zero, List.set_cons_succ]
                      refine wpAnyH_ready (rs := [43]) (by kernel_rfl) (by simp) ?_
                      refine AllReadyH.cons (o := { dst := some 62, op := Op.call { callee := Callee.value (Operand.func 26), args := #[Operand.tmp 61, Operand.const (Value.int IntKind.i64 16)], argTypes := #[5, 3] }, type := 4, pos := _, after := #[{ on := 42, ground := Ground.data }, { on := 39, ground := Ground.chain }], guard := none }) rfl (fun K hK => ?_) ?_
                      · go_simp
                        go_at_call 26
                        refine (has_any b3 16 (by decide) (by decide) _).mono ?_
                        rintro e wx ⟨rfl, rfl⟩
                        go_wp2_with fail
                        refine hK.out _ _ (hSB.out _ hbA.out) (fun hHeld => ?_)
                        clear hK K
                        try simp only [Act.put, List.setIfInBounds_toArray, List.set_cons_zero, List.set_cons_succ]
                        refine wpAnyH_take (i := 49) (oi := { dst := some 68, op := Op.build 28 #[(0, Operand.tmp 28), (1, Operand.tmp 32), (2, Operand.tmp 38), (3, Operand.tmp 42), (4, Operand.tmp 46), (5, Operand.tmp 50), (6, Operand.tmp 54), (7, Operand.tmp 58), (8, Operand.tmp 62), (9, Operand.tmp 67)], type := 28, pos := _, after := #[{ on := 9, ground := Ground.data }, { on := 13, ground := Ground.data }, { on := 19, ground := Ground.data }, { on := 23, ground := Ground.data }, { on := 27, ground := Ground.data }, { on := 31, ground := Ground.data }, { on := 35, ground := Ground.data }, { on := 39, ground := Ground.data }, { on := 43, ground := Ground.data }, { on := 48, ground := Ground.data }], guard := none }) (v := ?_) rfl (by kernel_rfl) (by kernel_rfl) (by kernel_rfl) (fun _ _ _ h => h) (Or.inl ⟨by rfl, ?_⟩) (by assumption) ?_
                        rotate_left
                        · intro w hSw
                          go_simp
                          first | done | with_reducible rfl
                        try simp only [Act.put, List.setIfInBounds_toArray, List.set_cons_zero, List.set_cons_succ]
                        refine wpAnyH_ready (rs := [51]) (by kernel_rfl) (by simp) ?_
                        refine AllReadyH.cons (o := { dst := none, op := Op.store 28 (Operand.tmp 6) (Operand.tmp 68), type := 0, pos := _, after := #[{ on := 50, ground := Ground.data }, { on := 49, ground := Ground.data }, { on := 43, ground := Ground.chain }, { on := 0, ground := Ground.phase }, { on := 1, ground := Ground.phase }, { on := 2, ground := Ground.phase }, { on := 3, ground := Ground.phase }, { on := 4, ground := Ground.phase }, { on := 5, ground := Ground.phase }, { on := 6, ground := Ground.phase }, { on := 7, ground := Ground.phase }, { on := 8, ground := Ground.phase }, { on := 9, ground := Ground.phase }, { on := 10, ground := Ground.phase }, { on := 11, ground := Ground.phase }, { on := 12, ground := Ground.phase }, { on := 13, ground := Ground.phase }, { on := 14, ground := Ground.phase }, { on := 15, ground := Ground.phase }, { on := 16, ground := Ground.phase }, { on := 17, ground := Ground.phase }, { on := 18, ground := Ground.phase }, { on := 19, ground := Ground.phase }, { on := 20, ground := Ground.phase }, { on := 21, ground := Ground.phase }, { on := 22, ground := Ground.phase }, { on := 23, ground := Ground.phase }, { on := 24, ground := Ground.phase }, { on := 25, ground := Ground.phase }, { on := 26, ground := Ground.phase }, { on := 27, ground := Ground.phase }, { on := 28, ground := Ground.phase }, { on := 29, ground := Ground.phase }, { on := 30, ground := Ground.phase }, { on := 31, ground := Ground.phase }, { on := 32, ground := Ground.phase }, { on := 33, ground := Ground.phase }, { on := 34, ground := Ground.phase }, { on := 35, ground := Ground.phase }, { on := 36, ground := Ground.phase }, { on := 37, ground := Ground.phase }, { on := 38, ground := Ground.phase }, { on := 39, ground := Ground.phase }, { on := 40, ground := Ground.phase }, { on := 41, ground := Ground.phase }, { on := 42, ground := Ground.phase }, { on := 43, ground := Ground.phase }, { on := 44, ground := Ground.phase }, { on := 45, ground := Ground.phase }, { on := 46, ground := Ground.phase }, { on := 47, ground := Ground.phase }, { on := 48, ground := Ground.phase }, { on := 49, ground := Ground.phase }, { on := 50, ground := Ground.phase }], guard := none }) rfl (fun K hK => ?_) ?_
                        · rw [if_pos (by rfl)]
                          refine store_whole_op (cells := #[.int .u16 (IntKind.u16.wrap (IntKind.u16.wrap (IntKind.u16.wrap (b0.toNat : Int) * 256) + IntKind.u16.wrap (b1.toNat : Int))), .bool (hasB b2 128), .int .i64 ((IntKind.i64.wrap ((IntKind.i64.wrap (b2.toNat : Int)).tdiv 8)).tmod 16), .bool (hasB b2 4), .bool (hasB b2 2), .bool (hasB b2 1), .bool (hasB b3 128), .bool (hasB b3 32), .bool (hasB b3 16), .int .i64 ((IntKind.i64.wrap (b3.toNat : Int)).tmod 16), .slice none 0 0, .slice none 0 0, .slice none 0 0, .slice none 0 0]) 28 (.tmp 6) (.tmp 68) rfl rfl rfl hBnA.out rfl (by kernel_rfl) (by kernel_rfl) ?_
                          intro w6 hBw hg hsz6
                          have hb6 : Below W.heap.size W w6 := below1 hbA.out (by omega) (by have := hszA.out; omega) hg
                          refine hK.out _ _ (hSB.out _ hb6) (fun hHeld => ?_)
                          clear hK K
                          refine wpAnyH_done (by kernel_rfl) ?_ _
                          refine NoPanic.normal ?_
                          exact rq_mk hb6 (hsz6.trans hszA.out) ((keep1 hg hBmA.out.lt (by omega)).trans hBmA.out) ((keep1 hg hBcA.out.lt (by omega)).trans hBcA.out) ((keep1 hg hBdA.out.lt (by omega)).trans hBdA.out) hBw
                        exact AllReadyH.nil
                      exact AllReadyH.nil
                    exact AllReadyH.nil
                  exact AllReadyH.nil
                exact AllReadyH.nil
              refine AllReadyH.cons (o := { dst := some 6, op := Op.alloc 28, type := 0, pos := _, after := #[], guard := none }) rfl (fun K hK => ?_) ?_
              · go_simp
                go_wp2_with fail
                refine hK.out _ _ (hSB.out _ hbA.out) (fun hHeld => ?_)
                clear hK K
                try simp only [Act.put, List.setIfInBounds_toArray, List.set_cons_zero, List.set_cons_succ]
                refine wpAnyH_ready (rs := [31]) (by kernel_rfl) (by simp) ?_
                refine AllReadyH.cons (o := { dst := some 50, op := Op.call { callee := Callee.value (Operand.func 26), args := #[Operand.tmp 49, Operand.const (Value.int IntKind.i64 1)], argTypes := #[5, 3] }, type := 4, pos := _, after := #[{ on := 30, ground := Ground.data }, { on := 27, ground := Ground.chain }], guard := none }) rfl (fun K hK => ?_) ?_
                · go_simp
                  go_at_call 26
                  refine (has_any b2 1 (by decide) (by decide) _).mono ?_
                  rintro e wx ⟨rfl, rfl⟩
                  go_wp2_with fail
                  refine hK.out _ _ (hSB.out _ hbA.out) (fun hHeld => ?_)
                  clear hK K
                  try simp only [Act.put, List.setIfInBounds_toArray, List.set_cons_zero, List.set_cons_succ]
                  refine wpAnyH_ready (rs := [35]) (by kernel_rfl) (by simp) ?_
                  refine AllReadyH.cons (o := { dst := some 54, op := Op.call { callee := Callee.value (Operand.func 26), args := #[Operand.tmp 53, Operand.const (Value.int IntKind.i64 128)], argTypes := #[5, 3] }, type := 4, pos := _, after := #[{ on := 34, ground := Ground.data }, { on := 31, ground := Ground.chain }], guard := none }) rfl (fun K hK => ?_) ?_
                  · go_simp
                    go_at_call 26
                    refine (has_any b3 128 (by decide) (by decide) _).mono ?_
                    rintro e wx ⟨rfl, rfl⟩
                    go_wp2_with fail
                    refine hK.out _ _ (hSB.out _ hbA.out) (fun hHeld => ?_)
                    clear hK K
                    try simp only [Act.put, List.setIfInBounds_toArray, List.set_cons_zero, List.set_cons_succ]
                    refine wpAnyH_ready (rs := [39]) (by kernel_rfl) (by simp) ?_
                    refine AllReadyH.cons (o := { dst := some 58, op := Op.call { callee := Callee.value (Operand.func 26), args := #[Operand.tmp 57, Operand.const (Value.int IntKind.i64 32)], argTypes := #[5, 3] }, type := 4, pos := _, after := #[{ on := 38, ground := Ground.data }, { on := 35, ground := Ground.chain }], guard := none }) rfl (fun K hK => ?_) ?_
                    · go_simp
                      go_at_call 26
                      refine (has_any b3 32 (by decide) (by decide) _).mono ?_
                      rintro e wx ⟨rfl, rfl⟩
                      go_wp2_with fail
                      refine hK.out _ _ (hSB.out _ hbA.out) (fun hHeld => ?_)
                      clear hK K
                      try simp only [Act.put, List.setIfInBounds_toArray, List.set_cons_zero, List.set_cons_succ]
                      refine wpAnyH_ready (rs := [43]) (by kernel_rfl) (by simp) ?_
                      refine AllReadyH.cons (o := { dst := some 62, op := Op.call { callee := Callee.value (Operand.func 26), args := #[Operand.tmp 61, Operand.const (Value.int IntKind.i64 16)], argTypes := #[5, 3] }, type := 4, pos := _, after := #[{ on := 42, ground := Ground.data }, { on := 39, ground := Ground.chain }], guard := none }) rfl (fun K hK => ?_) ?_
                      · go_simp
                        go_at_call 26
                        refine (has_any b3 16 (by decide) (by decide) _).mono ?_
                        rintro e wx ⟨rfl, rfl⟩
                        go_wp2_with fail
                        refine hK.out _ _ (hSB.out _ hbA.out) (fun hHeld => ?_)
                        clear hK K
                        try simp only [Act.put, List.setIfInBounds_toArray, List.set_cons_zero, List.set_cons_succ]
                        refine wpAnyH_take (i := 49) (oi := { dst := some 68, op := Op.build 28 #[(0, Operand.tmp 28), (1, Operand.tmp 32), (2, Operand.tmp 38), (3, Operand.tmp 42), (4, Operand.tmp 46), (5, Operand.tmp 50), (6, Operand.tmp 54), (7, Operand.tmp 58), (8, Operand.tmp 62), (9, Operand.tmp 67)], type := 28, pos := _, after := #[{ on := 9, ground := Ground.data }, { on := 13, ground := Ground.data }, { on := 19, ground := Ground.data }, { on := 23, ground := Ground.data }, { on := 27, ground := Ground.data }, { on := 31, ground := Ground.data }, { on := 35, ground := Ground.data }, { on := 39, ground := Ground.data }, { on := 43, ground := Ground.data }, { on := 48, ground := Ground.data }], guard := none }) (v := ?_) rfl (by kernel_rfl) (by kernel_rfl) (by kernel_rfl) (fun _ _ _ h => h) (Or.inl ⟨by rfl, ?_⟩) (by assumption) ?_
                        rotate_left
                        · intro w hSw
                          go_simp
                          first | done | with_reducible rfl
                        try simp only [Act.put, List.setIfInBounds_toArray, List.set_cons_zero, List.set_cons_succ]
                        refine wpAnyH_ready (rs := [51]) (by kernel_rfl) (by simp) ?_
                        refine AllReadyH.cons (o := { dst := none, op := Op.store 28 (Operand.tmp 6) (Operand.tmp 68), type := 0, pos := _, after := #[{ on := 50, ground := Ground.data }, { on := 49, ground := Ground.data }, { on := 43, ground := Ground.chain }, { on := 0, ground := Ground.phase }, { on := 1, ground := Ground.phase }, { on := 2, ground := Ground.phase }, { on := 3, ground := Ground.phase }, { on := 4, ground := Ground.phase }, { on := 5, ground := Ground.phase }, { on := 6, ground := Ground.phase }, { on := 7, ground := Ground.phase }, { on := 8, ground := Ground.phase }, { on := 9, ground := Ground.phase }, { on := 10, ground := Ground.phase }, { on := 11, ground := Ground.phase }, { on := 12, ground := Ground.phase }, { on := 13, ground := Ground.phase }, { on := 14, ground := Ground.phase }, { on := 15, ground := Ground.phase }, { on := 16, ground := Ground.phase }, { on := 17, ground := Ground.phase }, { on := 18, ground := Ground.phase }, { on := 19, ground := Ground.phase }, { on := 20, ground := Ground.phase }, { on := 21, ground := Ground.phase }, { on := 22, ground := Ground.phase }, { on := 23, ground := Ground.phase }, { on := 24, ground := Ground.phase }, { on := 25, ground := Ground.phase }, { on := 26, ground := Ground.phase }, { on := 27, ground := Ground.phase }, { on := 28, ground := Ground.phase }, { on := 29, ground := Ground.phase }, { on := 30, ground := Ground.phase }, { on := 31, ground := Ground.phase }, { on := 32, ground := Ground.phase }, { on := 33, ground := Ground.phase }, { on := 34, ground := Ground.phase }, { on := 35, ground := Ground.phase }, { on := 36, ground := Ground.phase }, { on := 37, ground := Ground.phase }, { on := 38, ground := Ground.phase }, { on := 39, ground := Ground.phase }, { on := 40, ground := Ground.phase }, { on := 41, ground := Ground.phase }, { on := 42, ground := Ground.phase }, { on := 43, ground := Ground.phase }, { on := 44, ground := Ground.phase }, { on := 45, ground := Ground.phase }, { on := 46, ground := Ground.phase }, { on := 47, ground := Ground.phase }, { on := 48, ground := Ground.phase }, { on := 49, ground := Ground.phase }, { on := 50, ground := Ground.phase }], guard := none }) rfl (fun K hK => ?_) ?_
                        · rw [if_pos (by rfl)]
                          refine store_whole_op (cells := #[.int .u16 (IntKind.u16.wrap (IntKind.u16.wrap (IntKind.u16.wrap (b0.toNat : Int) * 256) + IntKind.u16.wrap (b1.toNat : Int))), .bool (hasB b2 128), .int .i64 ((IntKind.i64.wrap ((IntKind.i64.wrap (b2.toNat : Int)).tdiv 8)).tmod 16), .bool (hasB b2 4), .bool (hasB b2 2), .bool (hasB b2 1), .bool (hasB b3 128), .bool (hasB b3 32), .bool (hasB b3 16), .int .i64 ((IntKind.i64.wrap (b3.toNat : Int)).tmod 16), .slice none 0 0, .slice none 0 0, .slice none 0 0, .slice none 0 0]) 28 (.tmp 6) (.tmp 68) rfl rfl rfl hBnA.out rfl (by kernel_rfl) (by kernel_rfl) ?_
                          intro w6 hBw hg hsz6
                          have hb6 : Below W.heap.size W w6 := below1 hbA.out (by omega) (by have := hszA.out; omega) hg
                          refine hK.out _ _ (hSB.out _ hb6) (fun hHeld => ?_)
                          clear hK K
                          refine wpAnyH_done (by kernel_rfl) ?_ _
                          refine NoPanic.normal ?_
                          exact rq_mk hb6 (hsz6.trans hszA.out) ((keep1 hg hBmA.out.lt (by omega)).trans hBmA.out) ((keep1 hg hBcA.out.lt (by omega)).trans hBcA.out) ((keep1 hg hBdA.out.lt (by omega)).trans hBdA.out) hBw
                        exact AllReadyH.nil
                      exact AllReadyH.nil
                    exact AllReadyH.nil
                  exact AllReadyH.nil
                exact AllReadyH.nil
              exact AllReadyH.nil
            refine AllReadyH.cons (o := { dst := some 6, op := Op.alloc 28, type := 0, pos := _, after := #[], guard := none }) rfl (fun K hK => ?_) ?_
            · go_simp
              go_wp2_with fail
              refine hK.out _ _ (hSB.out _ hbA.out) (fun hHeld => ?_)
              clear hK K
              try simp only [Act.put, List.setIfInBounds_toArray, List.set_cons_zero, List.set_cons_succ]
              refine wpAnyH_ready (rs := [27]) (by kernel_rfl) (by simp) ?_
              refine AllReadyH.cons (o := { dst := some 46, op := Op.call { callee := Callee.value (Operand.func 26), args := #[Operand.tmp 45, Operand.const (Value.int IntKind.i64 2)], argTypes := #[5, 3] }, type := 4, pos := _, after := #[{ on := 26, ground := Ground.data }, { on := 23, ground := Ground.chain }], guard := none }) rfl (fun K hK => ?_) ?_
              · go_simp
                go_at_call 26
                refine (has_any b2 2 (by decide) (by decide) _).mono ?_
                rintro e wx ⟨rfl, rfl⟩
                go_wp2_with fail
                refine hK.out _ _ (hSB.out _ hbA.out) (fun hHeld => ?_)
                clear hK K
                try simp only [Act.put, List.setIfInBounds_toArray, List.set_cons_zero, List.set_cons_succ]
                refine wpAnyH_ready (rs := [31]) (by kernel_rfl) (by simp) ?_
                refine AllReadyH.cons (o := { dst := some 50, op := Op.call { callee := Callee.value (Operand.func 26), args := #[Operand.tmp 49, Operand.const (Value.int IntKind.i64 1)], argTypes := #[5, 3] }, type := 4, pos := _, after := #[{ on := 30, ground := Ground.data }, { on := 27, ground := Ground.chain }], guard := none }) rfl (fun K hK => ?_) ?_
                · go_simp
                  go_at_call 26
                  refine (has_any b2 1 (by decide) (by decide) _).mono ?_
                  rintro e wx ⟨rfl, rfl⟩
                  go_wp2_with fail
                  refine hK.out _ _ (hSB.out _ hbA.out) (fun hHeld => ?_)
                  clear hK K
                  try simp only [Act.put, List.setIfInBounds_toArray, List.set_cons_zero, List.set_cons_succ]
                  refine wpAnyH_ready (rs := [35]) (by kernel_rfl) (by simp) ?_
                  refine AllReadyH.cons (o := { dst := some 54, op := Op.call { callee := Callee.value (Operand.func 26), args := #[Operand.tmp 53, Operand.const (Value.int IntKind.i64 128)], argTypes := #[5, 3] }, type := 4, pos := _, after := #[{ on := 34, ground := Ground.data }, { on := 31, ground := Ground.chain }], guard := none }) rfl (fun K hK => ?_) ?_
                  · go_simp
                    go_at_call 26
                    refine (has_any b3 128 (by decide) (by decide) _).mono ?_
                    rintro e wx ⟨rfl, rfl⟩
                    go_wp2_with fail
                    refine hK.out _ _ (hSB.out _ hbA.out) (fun hHeld => ?_)
                    clear hK K
                    try simp only [Act.put, List.setIfInBounds_toArray, List.set_cons_zero, List.set_cons_succ]
                    refine wpAnyH_ready (rs := [39]) (by kernel_rfl) (by simp) ?_
                    refine AllReadyH.cons (o := { dst := some 58, op := Op.call { callee := Callee.value (Operand.func 26), args := #[Operand.tmp 57, Operand.const (Value.int IntKind.i64 32)], argTypes := #[5, 3] }, type := 4, pos := _, after := #[{ on := 38, ground := Ground.data }, { on := 35, ground := Ground.chain }], guard := none }) rfl (fun K hK => ?_) ?_
                    · go_simp
                      go_at_call 26
                      refine (has_any b3 32 (by decide) (by decide) _).mono ?_
                      rintro e wx ⟨rfl, rfl⟩
                      go_wp2_with fail
                      refine hK.out _ _ (hSB.out _ hbA.out) (fun hHeld => ?_)
                      clear hK K
                      try simp only [Act.put, List.setIfInBounds_toArray, List.set_cons_zero, List.set_cons_succ]
                      refine wpAnyH_ready (rs := [43]) (by kernel_rfl) (by simp) ?_
                      refine AllReadyH.cons (o := { dst := some 62, op := Op.call { callee := Callee.value (Operand.func 26), args := #[Operand.tmp 61, Operand.const (Value.int IntKind.i64 16)], argTypes := #[5, 3] }, type := 4, pos := _, after := #[{ on := 42, ground := Ground.data }, { on := 39, ground := Ground.chain }], guard := none }) rfl (fun K hK => ?_) ?_
                      · go_simp
                        go_at_call 26
                        refine (has_any b3 16 (by decide) (by decide) _).mono ?_
                        rintro e wx ⟨rfl, rfl⟩
                        go_wp2_with fail
                        refine hK.out _ _ (hSB.out _ hbA.out) (fun hHeld => ?_)
                        clear hK K
                        try simp only [Act.put, List.setIfInBounds_toArray, List.set_cons_zero, List.set_cons_succ]
                        refine wpAnyH_take (i := 49) (oi := { dst := some 68, op := Op.build 28 #[(0, Operand.tmp 28), (1, Operand.tmp 32), (2, Operand.tmp 38), (3, Operand.tmp 42), (4, Operand.tmp 46), (5, Operand.tmp 50), (6, Operand.tmp 54), (7, Operand.tmp 58), (8, Operand.tmp 62), (9, Operand.tmp 67)], type := 28, pos := _, after := #[{ on := 9, ground := Ground.data }, { on := 13, ground := Ground.data }, { on := 19, ground := Ground.data }, { on := 23, ground := Ground.data }, { on := 27, ground := Ground.data }, { on := 31, ground := Ground.data }, { on := 35, ground := Ground.data }, { on := 39, ground := Ground.data }, { on := 43, ground := Ground.data }, { on := 48, ground := Ground.data }], guard := none }) (v := ?_) rfl (by kernel_rfl) (by kernel_rfl) (by kernel_rfl) (fun _ _ _ h => h) (Or.inl ⟨by rfl, ?_⟩) (by assumption) ?_
                        rotate_left
                        · intro w hSw
                          go_simp
                          first | done | with_reducible rfl
                        try simp only [Act.put, List.setIfInBounds_toArray, List.set_cons_zero, List.set_cons_succ]
                        refine wpAnyH_ready (rs := [51]) (by kernel_rfl) (by simp) ?_
                        refine AllReadyH.cons (o := { dst := none, op := Op.store 28 (Operand.tmp 6) (Operand.tmp 68), type := 0, pos := _, after := #[{ on := 50, ground := Ground.data }, { on := 49, ground := Ground.data }, { on := 43, ground := Ground.chain }, { on := 0, ground := Ground.phase }, { on := 1, ground := Ground.phase }, { on := 2, ground := Ground.phase }, { on := 3, ground := Ground.phase }, { on := 4, ground := Ground.phase }, { on := 5, ground := Ground.phase }, { on := 6, ground := Ground.phase }, { on := 7, ground := Ground.phase }, { on := 8, ground := Ground.phase }, { on := 9, ground := Ground.phase }, { on := 10, ground := Ground.phase }, { on := 11, ground := Ground.phase }, { on := 12, ground := Ground.phase }, { on := 13, ground := Ground.phase }, { on := 14, ground := Ground.phase }, { on := 15, ground := Ground.phase }, { on := 16, ground := Ground.phase }, { on := 17, ground := Ground.phase }, { on := 18, ground := Ground.phase }, { on := 19, ground := Ground.phase }, { on := 20, ground := Ground.phase }, { on := 21, ground := Ground.phase }, { on := 22, ground := Ground.phase }, { on := 23, ground := Ground.phase }, { on := 24, ground := Ground.phase }, { on := 25, ground := Ground.phase }, { on := 26, ground := Ground.phase }, { on := 27, ground := Ground.phase }, { on := 28, ground := Ground.phase }, { on := 29, ground := Ground.phase }, { on := 30, ground := Ground.phase }, { on := 31, ground := Ground.phase }, { on := 32, ground := Ground.phase }, { on := 33, ground := Ground.phase }, { on := 34, ground := Ground.phase }, { on := 35, ground := Ground.phase }, { on := 36, ground := Ground.phase }, { on := 37, ground := Ground.phase }, { on := 38, ground := Ground.phase }, { on := 39, ground := Ground.phase }, { on := 40, ground := Ground.phase }, { on := 41, ground := Ground.phase }, { on := 42, ground := Ground.phase }, { on := 43, ground := Ground.phase }, { on := 44, ground := Ground.phase }, { on := 45, ground := Ground.phase }, { on := 46, ground := Ground.phase }, { on := 47, ground := Ground.phase }, { on := 48, ground := Ground.phase }, { on := 49, ground := Ground.phase }, { on := 50, ground := Ground.phase }], guard := none }) rfl (fun K hK => ?_) ?_
                        · rw [if_pos (by rfl)]
                          refine store_whole_op (cells := #[.int .u16 (IntKind.u16.wrap (IntKind.u16.wrap (IntKind.u16.wrap (b0.toNat : Int) * 256) + IntKind.u16.wrap (b1.toNat : Int))), .bool (hasB b2 128), .int .i64 ((IntKind.i64.wrap ((IntKind.i64.wrap (b2.toNat : Int)).tdiv 8)).tmod 16), .bool (hasB b2 4), .bool (hasB b2 2), .bool (hasB b2 1), .bool (hasB b3 128), .bool (hasB b3 32), .bool (hasB b3 16), .int .i64 ((IntKind.i64.wrap (b3.toNat : Int)).tmod 16), .slice none 0 0, .slice none 0 0, .slice none 0 0, .slice none 0 0]) 28 (.tmp 6) (.tmp 68) rfl rfl rfl hBnA.out rfl (by kernel_rfl) (by kernel_rfl) ?_
                          intro w6 hBw hg hsz6
                          have hb6 : Below W.heap.size W w6 := below1 hbA.out (by omega) (by have := hszA.out; omega) hg
                          refine hK.out _ _ (hSB.out _ hb6) (fun hHeld => ?_)
                          clear hK K
                          refine wpAnyH_done (by kernel_rfl) ?_ _
                          refine NoPanic.normal ?_
                          exact rq_mk hb6 (hsz6.trans hszA.out) ((keep1 hg hBmA.out.lt (by omega)).trans hBmA.out) ((keep1 hg hBcA.out.lt (by omega)).trans hBcA.out) ((keep1 hg hBdA.out.lt (by omega)).trans hBdA.out) hBw
                        exact AllReadyH.nil
                      exact AllReadyH.nil
                    exact AllReadyH.nil
                  exact AllReadyH.nil
                exact AllReadyH.nil
              exact AllReadyH.nil
            exact AllReadyH.nil
          refine AllReadyH.cons (o := { dst := some 6, op := Op.alloc 28, type := 0, pos := _, after := #[], guard := none }) rfl (fun K hK => ?_) ?_
          · go_simp
            go_wp2_with fail
            refine hK.out _ _ (hSB.out _ hbA.out) (fun hHeld => ?_)
            clear hK K
            try simp only [Act.put, List.setIfInBounds_toArray, List.set_cons_zero, List.set_cons_succ]
            refine wpAnyH_ready (rs := [23]) (by kernel_rfl) (by simp) ?_
            refine AllReadyH.cons (o := { dst := some 42, op := Op.call { callee := Callee.value (Operand.func 26), args := #[Operand.tmp 41, Operand.const (Value.int IntKind.i64 4)], argTypes := #[5, 3] }, type := 4, pos := _, after := #[{ on := 22, ground := Ground.data }, { on := 13, ground := Ground.chain }], guard := none }) rfl (fun K hK => ?_) ?_
            · go_simp
              go_at_call 26
              refine (has_any b2 4 (by decide) (by decide) _).mono ?_
              rintro e wx ⟨rfl, rfl⟩
              go_wp2_with fail
              refine hK.out _ _ (hSB.out _ hbA.out) (fun hHeld => ?_)
              clear hK K
              try simp only [Act.put, List.setIfInBounds_toArray, List.set_cons_zero, List.set_cons_succ]
              refine wpAnyH_ready (rs := [27]) (by kernel_rfl) (by simp) ?_
              refine AllReadyH.cons (o := { dst := some 46, op := Op.call { callee := Callee.value (Operand.func 26), args := #[Operand.tmp 45, Operand.const (Value.int IntKind.i64 2)], argTypes := #[5, 3] }, type := 4, pos := _, after := #[{ on := 26, ground := Ground.data }, { on := 23, ground := Ground.chain }], guard := none }) rfl (fun K hK => ?_) ?_
              · go_simp
                go_at_call 26
                refine (has_any b2 2 (by decide) (by decide) _).mono ?_
                rintro e wx ⟨rfl, rfl⟩
                go_wp2_with fail
                refine hK.out _ _ (hSB.out _ hbA.out) (fun hHeld => ?_)
                clear hK K
                try simp only [Act.put, List.setIfInBounds_toArray, List.set_cons_zero, List.set_cons_succ]
                refine wpAnyH_ready (rs := [31]) (by kernel_rfl) (by simp) ?_
                refine AllReadyH.cons (o := { dst := some 50, op := Op.call { callee := Callee.value (Operand.func 26), args := #[Operand.tmp 49, Operand.const (Value.int IntKind.i64 1)], argTypes := #[5, 3] }, type := 4, pos := _, after := #[{ on := 30, ground := Ground.data }, { on := 27, ground := Ground.chain }], guard := none }) rfl (fun K hK => ?_) ?_
                · go_simp
                  go_at_call 26
                  refine (has_any b2 1 (by decide) (by decide) _).mono ?_
                  rintro e wx ⟨rfl, rfl⟩
                  go_wp2_with fail
                  refine hK.out _ _ (hSB.out _ hbA.out) (fun hHeld => ?_)
                  clear hK K
                  try simp only [Act.put, List.setIfInBounds_toArray, List.set_cons_zero, List.set_cons_succ]
                  refine wpAnyH_ready (rs := [35]) (by kernel_rfl) (by simp) ?_
                  refine AllReadyH.cons (o := { dst := some 54, op := Op.call { callee := Callee.value (Operand.func 26), args := #[Operand.tmp 53, Operand.const (Value.int IntKind.i64 128)], argTypes := #[5, 3] }, type := 4, pos := _, after := #[{ on := 34, ground := Ground.data }, { on := 31, ground := Ground.chain }], guard := none }) rfl (fun K hK => ?_) ?_
                  · go_simp
                    go_at_call 26
                    refine (has_any b3 128 (by decide) (by decide) _).mono ?_
                    rintro e wx ⟨rfl, rfl⟩
                    go_wp2_with fail
                    refine hK.out _ _ (hSB.out _ hbA.out) (fun hHeld => ?_)
                    clear hK K
                    try simp only [Act.put, List.setIfInBounds_toArray, List.set_cons_zero, List.set_cons_succ]
                    refine wpAnyH_ready (rs := [39]) (by kernel_rfl) (by simp) ?_
                    refine AllReadyH.cons (o := { dst := some 58, op := Op.call { callee := Callee.value (Operand.func 26), args := #[Operand.tmp 57, Operand.const (Value.int IntKind.i64 32)], argTypes := #[5, 3] }, type := 4, pos := _, after := #[{ on := 38, ground := Ground.data }, { on := 35, ground := Ground.chain }], guard := none }) rfl (fun K hK => ?_) ?_
                    · go_simp
                      go_at_call 26
                      refine (has_any b3 32 (by decide) (by decide) _).mono ?_
                      rintro e wx ⟨rfl, rfl⟩
                      go_wp2_with fail
                      refine hK.out _ _ (hSB.out _ hbA.out) (fun hHeld => ?_)
                      clear hK K
                      try simp only [Act.put, List.setIfInBounds_toArray, List.set_cons_zero, List.set_cons_succ]
                      refine wpAnyH_ready (rs := [43]) (by kernel_rfl) (by simp) ?_
                      refine AllReadyH.cons (o := { dst := some 62, op := Op.call { callee := Callee.value (Operand.func 26), args := #[Operand.tmp 61, Operand.const (Value.int IntKind.i64 16)], argTypes := #[5, 3] }, type := 4, pos := _, after := #[{ on := 42, ground := Ground.data }, { on := 39, ground := Ground.chain }], guard := none }) rfl (fun K hK => ?_) ?_
                      · go_simp
                        go_at_call 26
                        refine (has_any b3 16 (by decide) (by decide) _).mono ?_
                        rintro e wx ⟨rfl, rfl⟩
                        go_wp2_with fail
                        refine hK.out _ _ (hSB.out _ hbA.out) (fun hHeld => ?_)
                        clear hK K
                        try simp only [Act.put, List.setIfInBounds_toArray, List.set_cons_zero, List.set_cons_succ]
                        refine wpAnyH_take (i := 49) (oi := { dst := some 68, op := Op.build 28 #[(0, Operand.tmp 28), (1, Operand.tmp 32), (2, Operand.tmp 38), (3, Operand.tmp 42), (4, Operand.tmp 46), (5, Operand.tmp 50), (6, Operand.tmp 54), (7, Operand.tmp 58), (8, Operand.tmp 62), (9, Operand.tmp 67)], type := 28, pos := _, after := #[{ on := 9, ground := Ground.data }, { on := 13, ground := Ground.data }, { on := 19, ground := Ground.data }, { on := 23, ground := Ground.data }, { on := 27, ground := Ground.data }, { on := 31, ground := Ground.data }, { on := 35, ground := Ground.data }, { on := 39, ground := Ground.data }, { on := 43, ground := Ground.data }, { on := 48, ground := Ground.data }], guard := none }) (v := ?_) rfl (by kernel_rfl) (by kernel_rfl) (by kernel_rfl) (fun _ _ _ h => h) (Or.inl ⟨by rfl, ?_⟩) (by assumption) ?_
                        rotate_left
                        · intro w hSw
                          go_simp
                          first | done | with_reducible rfl
                        try simp only [Act.put, List.setIfInBounds_toArray, List.set_cons_zero, List.set_cons_succ]
                        refine wpAnyH_ready (rs := [51]) (by kernel_rfl) (by simp) ?_
                        refine AllReadyH.cons (o := { dst := none, op := Op.store 28 (Operand.tmp 6) (Operand.tmp 68), type := 0, pos := _, after := #[{ on := 50, ground := Ground.data }, { on := 49, ground := Ground.data }, { on := 43, ground := Ground.chain }, { on := 0, ground := Ground.phase }, { on := 1, ground := Ground.phase }, { on := 2, ground := Ground.phase }, { on := 3, ground := Ground.phase }, { on := 4, ground := Ground.phase }, { on := 5, ground := Ground.phase }, { on := 6, ground := Ground.phase }, { on := 7, ground := Ground.phase }, { on := 8, ground := Ground.phase }, { on := 9, ground := Ground.phase }, { on := 10, ground := Ground.phase }, { on := 11, ground := Ground.phase }, { on := 12, ground := Ground.phase }, { on := 13, ground := Ground.phase }, { on := 14, ground := Ground.phase }, { on := 15, ground := Ground.phase }, { on := 16, ground := Ground.phase }, { on := 17, ground := Ground.phase }, { on := 18, ground := Ground.phase }, { on := 19, ground := Ground.phase }, { on := 20, ground := Ground.phase }, { on := 21, ground := Ground.phase }, { on := 22, ground := Ground.phase }, { on := 23, ground := Ground.phase }, { on := 24, ground := Ground.phase }, { on := 25, ground := Ground.phase }, { on := 26, ground := Ground.phase }, { on := 27, ground := Ground.phase }, { on := 28, ground := Ground.phase }, { on := 29, ground := Ground.phase }, { on := 30, ground := Ground.phase }, { on := 31, ground := Ground.phase }, { on := 32, ground := Ground.phase }, { on := 33, ground := Ground.phase }, { on := 34, ground := Ground.phase }, { on := 35, ground := Ground.phase }, { on := 36, ground := Ground.phase }, { on := 37, ground := Ground.phase }, { on := 38, ground := Ground.phase }, { on := 39, ground := Ground.phase }, { on := 40, ground := Ground.phase }, { on := 41, ground := Ground.phase }, { on := 42, ground := Ground.phase }, { on := 43, ground := Ground.phase }, { on := 44, ground := Ground.phase }, { on := 45, ground := Ground.phase }, { on := 46, ground := Ground.phase }, { on := 47, ground := Ground.phase }, { on := 48, ground := Ground.phase }, { on := 49, ground := Ground.phase }, { on := 50, ground := Ground.phase }], guard := none }) rfl (fun K hK => ?_) ?_
                        · rw [if_pos (by rfl)]
                          refine store_whole_op (cells := #[.int .u16 (IntKind.u16.wrap (IntKind.u16.wrap (IntKind.u16.wrap (b0.toNat : Int) * 256) + IntKind.u16.wrap (b1.toNat : Int))), .bool (hasB b2 128), .int .i64 ((IntKind.i64.wrap ((IntKind.i64.wrap (b2.toNat : Int)).tdiv 8)).tmod 16), .bool (hasB b2 4), .bool (hasB b2 2), .bool (hasB b2 1), .bool (hasB b3 128), .bool (hasB b3 32), .bool (hasB b3 16), .int .i64 ((IntKind.i64.wrap (b3.toNat : Int)).tmod 16), .slice none 0 0, .slice none 0 0, .slice none 0 0, .slice none 0 0]) 28 (.tmp 6) (.tmp 68) rfl rfl rfl hBnA.out rfl (by kernel_rfl) (by kernel_rfl) ?_
                          intro w6 hBw hg hsz6
                          have hb6 : Below W.heap.size W w6 := below1 hbA.out (by omega) (by have := hszA.out; omega) hg
                          refine hK.out _ _ (hSB.out _ hb6) (fun hHeld => ?_)
                          clear hK K
                          refine wpAnyH_done (by kernel_rfl) ?_ _
                          refine NoPanic.normal ?_
                          exact rq_mk hb6 (hsz6.trans hszA.out) ((keep1 hg hBmA.out.lt (by omega)).trans hBmA.out) ((keep1 hg hBcA.out.lt (by omega)).trans hBcA.out) ((keep1 hg hBdA.out.lt (by omega)).trans hBdA.out) hBw
                        exact AllReadyH.nil
                      exact AllReadyH.nil
                    exact AllReadyH.nil
                  exact AllReadyH.nil
                exact AllReadyH.nil
              exact AllReadyH.nil
            exact AllReadyH.nil
          exact AllReadyH.nil
        refine AllReadyH.cons (o := { dst := some 6, op := Op.alloc 28, type := 0, pos := _, after := #[], guard := none }) rfl (fun K hK => ?_) ?_
        · go_simp
          go_wp2_with fail
          refine hK.out _ _ (hSB.out _ hbA.out) (fun hHeld => ?_)
          clear hK K
          try simp only [Act.put, List.setIfInBounds_toArray, List.set_cons_zero, List.set_cons_succ]
          refine wpAnyH_ready (rs := [13]) (by kernel_rfl) (by simp) ?_
          refine AllReadyH.cons (o := { dst := some 32, op := Op.call { callee := Callee.value (Operand.func 26), args := #[Operand.tmp 31, Operand.const (Value.int IntKind.i64 128)], argTypes := #[5, 3] }, type := 4, pos := _, after := #[{ on := 12, ground := Ground.data }], guard := none }) rfl (fun K hK => ?_) ?_
          · go_simp
            go_at_call 26
            refine (has_any b2 128 (by decide) (by decide) _).mono ?_
            rintro e wx ⟨rfl, rfl⟩
            go_wp2_with fail
            refine hK.out _ _ (hSB.out _ hbA.out) (fun hHeld => ?_)
            clear hK K
            try simp only [Act.put, List.setIfInBounds_toArray, List.set_cons_zero, List.set_cons_succ]
            refine wpAnyH_ready (rs := [23]) (by kernel_rfl) (by simp) ?_
            refine AllReadyH.cons (o := { dst := some 42, op := Op.call { callee := Callee.value (Operand.func 26), args := #[Operand.tmp 41, Operand.const (Value.int IntKind.i64 4)], argTypes := #[5, 3] }, type := 4, pos := _, after := #[{ on := 22, ground := Ground.data }, { on := 13, ground := Ground.chain }], guard := none }) rfl (fun K hK => ?_) ?_
            · go_simp
              go_at_call 26
              refine (has_any b2 4 (by decide) (by decide) _).mono ?_
              rintro e wx ⟨rfl, rfl⟩
              go_wp2_with fail
              refine hK.out _ _ (hSB.out _ hbA.out) (fun hHeld => ?_)
              clear hK K
              try simp only [Act.put, List.setIfInBounds_toArray, List.set_cons_zero, List.set_cons_succ]
              refine wpAnyH_ready (rs := [27]) (by kernel_rfl) (by simp) ?_
              refine AllReadyH.cons (o := { dst := some 46, op := Op.call { callee := Callee.value (Operand.func 26), args := #[Operand.tmp 45, Operand.const (Value.int IntKind.i64 2)], argTypes := #[5, 3] }, type := 4, pos := _, after := #[{ on := 26, ground := Ground.data }, { on := 23, ground := Ground.chain }], guard := none }) rfl (fun K hK => ?_) ?_
              · go_simp
                go_at_call 26
                refine (has_any b2 2 (by decide) (by decide) _).mono ?_
                rintro e wx ⟨rfl, rfl⟩
                go_wp2_with fail
                refine hK.out _ _ (hSB.out _ hbA.out) (fun hHeld => ?_)
                clear hK K
                try simp only [Act.put, List.setIfInBounds_toArray, List.set_cons_zero, List.set_cons_succ]
                refine wpAnyH_ready (rs := [31]) (by kernel_rfl) (by simp) ?_
                refine AllReadyH.cons (o := { dst := some 50, op := Op.call { callee := Callee.value (Operand.func 26), args := #[Operand.tmp 49, Operand.const (Value.int IntKind.i64 1)], argTypes := #[5, 3] }, type := 4, pos := _, after := #[{ on := 30, ground := Ground.data }, { on := 27, ground := Ground.chain }], guard := none }) rfl (fun K hK => ?_) ?_
                · go_simp
                  go_at_call 26
                  refine (has_any b2 1 (by decide) (by decide) _).mono ?_
                  rintro e wx ⟨rfl, rfl⟩
                  go_wp2_with fail
                  refine hK.out _ _ (hSB.out _ hbA.out) (fun hHeld => ?_)
                  clear hK K
                  try simp only [Act.put, List.setIfInBounds_toArray, List.set_cons_zero, List.set_cons_succ]
                  refine wpAnyH_ready (rs := [35]) (by kernel_rfl) (by simp) ?_
                  refine AllReadyH.cons (o := { dst := some 54, op := Op.call { callee := Callee.value (Operand.func 26), args := #[Operand.tmp 53, Operand.const (Value.int IntKind.i64 128)], argTypes := #[5, 3] }, type := 4, pos := _, after := #[{ on := 34, ground := Ground.data }, { on := 31, ground := Ground.chain }], guard := none }) rfl (fun K hK => ?_) ?_
                  · go_simp
                    go_at_call 26
                    refine (has_any b3 128 (by decide) (by decide) _).mono ?_
                    rintro e wx ⟨rfl, rfl⟩
                    go_wp2_with fail
                    refine hK.out _ _ (hSB.out _ hbA.out) (fun hHeld => ?_)
                    clear hK K
                    try simp only [Act.put, List.setIfInBounds_toArray, List.set_cons_zero, List.set_cons_succ]
                    refine wpAnyH_ready (rs := [39]) (by kernel_rfl) (by simp) ?_
                    refine AllReadyH.cons (o := { dst := some 58, op := Op.call { callee := Callee.value (Operand.func 26), args := #[Operand.tmp 57, Operand.const (Value.int IntKind.i64 32)], argTypes := #[5, 3] }, type := 4, pos := _, after := #[{ on := 38, ground := Ground.data }, { on := 35, ground := Ground.chain }], guard := none }) rfl (fun K hK => ?_) ?_
                    · go_simp
                      go_at_call 26
                      refine (has_any b3 32 (by decide) (by decide) _).mono ?_
                      rintro e wx ⟨rfl, rfl⟩
                      go_wp2_with fail
                      refine hK.out _ _ (hSB.out _ hbA.out) (fun hHeld => ?_)
                      clear hK K
                      try simp only [Act.put, List.setIfInBounds_toArray, List.set_cons_zero, List.set_cons_succ]
                      refine wpAnyH_ready (rs := [43]) (by kernel_rfl) (by simp) ?_
                      refine AllReadyH.cons (o := { dst := some 62, op := Op.call { callee := Callee.value (Operand.func 26), args := #[Operand.tmp 61, Operand.const (Value.int IntKind.i64 16)], argTypes := #[5, 3] }, type := 4, pos := _, after := #[{ on := 42, ground := Ground.data }, { on := 39, ground := Ground.chain }], guard := none }) rfl (fun K hK => ?_) ?_
                      · go_simp
                        go_at_call 26
                        refine (has_any b3 16 (by decide) (by decide) _).mono ?_
                        rintro e wx ⟨rfl, rfl⟩
                        go_wp2_with fail
                        refine hK.out _ _ (hSB.out _ hbA.out) (fun hHeld => ?_)
                        clear hK K
                        try simp only [Act.put, List.setIfInBounds_toArray, List.set_cons_zero, List.set_cons_succ]
                        refine wpAnyH_take (i := 49) (oi := { dst := some 68, op := Op.build 28 #[(0, Operand.tmp 28), (1, Operand.tmp 32), (2, Operand.tmp 38), (3, Operand.tmp 42), (4, Operand.tmp 46), (5, Operand.tmp 50), (6, Operand.tmp 54), (7, Operand.tmp 58), (8, Operand.tmp 62), (9, Operand.tmp 67)], type := 28, pos := _, after := #[{ on := 9, ground := Ground.data }, { on := 13, ground := Ground.data }, { on := 19, ground := Ground.data }, { on := 23, ground := Ground.data }, { on := 27, ground := Ground.data }, { on := 31, ground := Ground.data }, { on := 35, ground := Ground.data }, { on := 39, ground := Ground.data }, { on := 43, ground := Ground.data }, { on := 48, ground := Ground.data }], guard := none }) (v := ?_) rfl (by kernel_rfl) (by kernel_rfl) (by kernel_rfl) (fun _ _ _ h => h) (Or.inl ⟨by rfl, ?_⟩) (by assumption) ?_
                        rotate_left
                        · intro w hSw
                          go_simp
                          first | done | with_reducible rfl
                        try simp only [Act.put, List.setIfInBounds_toArray, List.set_cons_zero, List.set_cons_succ]
                        refine wpAnyH_ready (rs := [51]) (by kernel_rfl) (by simp) ?_
                        refine AllReadyH.cons (o := { dst := none, op := Op.store 28 (Operand.tmp 6) (Operand.tmp 68), type := 0, pos := _, after := #[{ on := 50, ground := Ground.data }, { on := 49, ground := Ground.data }, { on := 43, ground := Ground.chain }, { on := 0, ground := Ground.phase }, { on := 1, ground := Ground.phase }, { on := 2, ground := Ground.phase }, { on := 3, ground := Ground.phase }, { on := 4, ground := Ground.phase }, { on := 5, ground := Ground.phase }, { on := 6, ground := Ground.phase }, { on := 7, ground := Ground.phase }, { on := 8, ground := Ground.phase }, { on := 9, ground := Ground.phase }, { on := 10, ground := Ground.phase }, { on := 11, ground := Ground.phase }, { on := 12, ground := Ground.phase }, { on := 13, ground := Ground.phase }, { on := 14, ground := Ground.phase }, { on := 15, ground := Ground.phase }, { on := 16, ground := Ground.phase }, { on := 17, ground := Ground.phase }, { on := 18, ground := Ground.phase }, { on := 19, ground := Ground.phase }, { on := 20, ground := Ground.phase }, { on := 21, ground := Ground.phase }, { on := 22, ground := Ground.phase }, { on := 23, ground := Ground.phase }, { on := 24, ground := Ground.phase }, { on := 25, ground := Ground.phase }, { on := 26, ground := Ground.phase }, { on := 27, ground := Ground.phase }, { on := 28, ground := Ground.phase }, { on := 29, ground := Ground.phase }, { on := 30, ground := Ground.phase }, { on := 31, ground := Ground.phase }, { on := 32, ground := Ground.phase }, { on := 33, ground := Ground.phase }, { on := 34, ground := Ground.phase }, { on := 35, ground := Ground.phase }, { on := 36, ground := Ground.phase }, { on := 37, ground := Ground.phase }, { on := 38, ground := Ground.phase }, { on := 39, ground := Ground.phase }, { on := 40, ground := Ground.phase }, { on := 41, ground := Ground.phase }, { on := 42, ground := Ground.phase }, { on := 43, ground := Ground.phase }, { on := 44, ground := Ground.phase }, { on := 45, ground := Ground.phase }, { on := 46, ground := Ground.phase }, { on := 47, ground := Ground.phase }, { on := 48, ground := Ground.phase }, { on := 49, ground := Ground.phase }, { on := 50, ground := Ground.phase }], guard := none }) rfl (fun K hK => ?_) ?_
                        · rw [if_pos (by rfl)]
                          refine store_whole_op (cells := #[.int .u16 (IntKind.u16.wrap (IntKind.u16.wrap (IntKind.u16.wrap (b0.toNat : Int) * 256) + IntKind.u16.wrap (b1.toNat : Int))), .bool (hasB b2 128), .int .i64 ((IntKind.i64.wrap ((IntKind.i64.wrap (b2.toNat : Int)).tdiv 8)).tmod 16), .bool (hasB b2 4), .bool (hasB b2 2), .bool (hasB b2 1), .bool (hasB b3 128), .bool (hasB b3 32), .bool (hasB b3 16), .int .i64 ((IntKind.i64.wrap (b3.toNat : Int)).tmod 16), .slice none 0 0, .slice none 0 0, .slice none 0 0, .slice none 0 0]) 28 (.tmp 6) (.tmp 68) rfl rfl rfl hBnA.out rfl (by kernel_rfl) (by kernel_rfl) ?_
                          intro w6 hBw hg hsz6
                          have hb6 : Below W.heap.size W w6 := below1 hbA.out (by omega) (by have := hszA.out; omega) hg
                          refine hK.out _ _ (hSB.out _ hb6) (fun hHeld => ?_)
                          clear hK K
                          refine wpAnyH_done (by kernel_rfl) ?_ _
                          refine NoPanic.normal ?_
                          exact rq_mk hb6 (hsz6.trans hszA.out) ((keep1 hg hBmA.out.lt (by omega)).trans hBmA.out) ((keep1 hg hBcA.out.lt (by omega)).trans hBcA.out) ((keep1 hg hBdA.out.lt (by omega)).trans hBdA.out) hBw
                        exact AllReadyH.nil
                      exact AllReadyH.nil
                    exact AllReadyH.nil
                  exact AllReadyH.nil
                exact AllReadyH.nil
              exact AllReadyH.nil
            exact AllReadyH.nil
          exact AllReadyH.nil
        exact AllReadyH.nil
      case imp =>
        rintro e a' w6 ⟨rfl, rfl, hb6, hz6, hBm6, hBc6, hBd6, hBn6⟩
        have eX : IntKind.u16.wrap (IntKind.u16.wrap (IntKind.u16.wrap (b0.toNat : Int) * 256) + IntKind.u16.wrap (b1.toNat : Int)) = (hN l 0 : Nat) := by
          have e0 := hN_at (l := l) 0 (by omega)
          have e1 : l[2 * 0]'(by omega) = b0 := hq0.out
          have e2 : l[2 * 0 + 1]'(by omega) = b1 := hq1.out
          rw [e0, e1, e2, IntKind.wrap_u16, IntKind.wrap_u16, IntKind.wrap_u16, IntKind.wrap_u16]
          omega
        have eY : (IntKind.i64.wrap ((IntKind.i64.wrap (b2.toNat : Int)).tdiv 8)).tmod 16 = ((b2.toNat / 8 % 16 : Nat) : Int) := by
          rw [IntWalk.i64_in (b2.toNat : Int) ⟨by omega, by omega⟩, Int.tdiv_eq_ediv_of_nonneg (by omega), IntWalk.i64_in ((b2.toNat : Int) / 8) ⟨by omega, by omega⟩, Int.tmod_eq_emod_of_nonneg (by omega)]
          omega
        have eZ : (IntKind.i64.wrap (b3.toNat : Int)).tmod 16 = ((b3.toNat % 16 : Nat) : Int) := by
          rw [IntWalk.i64_in _ ⟨by omega, by omega⟩, Int.tmod_eq_emod_of_nonneg (by omega)]
          omega
        rw [eX, eY, eZ] at hBn6
        have hBm7 := Lib.hid hBm6
        have hBc7 := Lib.hid hBc6
        have hBn7 := Lib.hid hBn6
        have hD0 : Hid (Blk w6 (W.heap.size + 1 + 1) 29 (0, 0) (cnts l 0)) := Lib.hid hBd6
        have hcl : ∀ w', Below W.heap.size W w' → ∀ j (hj : j < l.length), w'.cell? ⟨b, o + j, none⟩ = some (.int .u8 (l[j]).toNat) := fun w' h j hj => (h.cell (p := ⟨b, o + j, none⟩) hbz).trans (hC.out j hj)
        have hcl := Lib.hid hcl
        have hcc := Lib.hid hcc
        have h12' := Lib.hid (show 12 ≤ l.length by omega)
        clear hBm6 hBc6 hBn6 hBd6 eX eY eZ hBm' hBc' hBd' d0 d1 d2 d3 hq0 hq1
        generalize hg0 : (hN l 0 : Int) = x0 at *
        generalize hg1 : ((b2.toNat / 8 % 16 : Nat) : Int) = x1 at *
        generalize hg2 : ((b3.toNat % 16 : Nat) : Int) = x2 at *
        replace hg0 := Lib.hid hg0
        replace hg1 := Lib.hid hg1
        replace hg2 := Lib.hid hg2
        go_wp2_with fail
        go_loopw [7] (fun i wr => ∃ k : Nat, k ≤ 4 ∧ i = .int .i64 k ∧ Below W.heap.size W wr ∧ wr.heap.size = W.heap.size + 4 ∧ Hid (Blk wr (W.heap.size + 1 + 1) 29 (0, 0) (cnts l k)) ∧ Hid (Blk wr W.heap.size 28 (0, 0) (cellsH 0 0 0 (fun _ => false) nils)) ∧ Hid (Blk wr (W.heap.size + 1) 29 (0, 0) [.int .i64 0, .int .i64 0, .int .i64 0, .int .i64 0]) ∧ Hid (Blk wr (W.heap.size + 3) 28 (0, 0) [.int .u16 x0, .bool (hasB b2 128), .int .i64 x1, .bool (hasB b2 4), .bool (hasB b2 2), .bool (hasB b2 1), .bool (hasB b3 128), .bool (hasB b3 32), .bool (hasB b3 16), .int .i64 x2, .slice none 0 0, .slice none 0 0, .slice none 0 0, .slice none 0 0])) (fun i _ => 4 - (intOf i).toNat)
        case atStart => exact ⟨0, by omega, rfl, hb6, hz6, hD0, hBm7, hBc7, hBn7⟩
        case round =>
          obtain ⟨k, hk, rfl, hB, hz, hD, hM, hC0, hN0⟩ := hrel
          clear hb6 hz6 hD0 hBm7 hBc7 hBn7
          obtain rfl | rfl | rfl | rfl | rfl : k = 0 ∨ k = 1 ∨ k = 2 ∨ k = 3 ∨ k = 4 := by omega
          · have f0 := hcl.out wr hB 4 (by have := h12'.out; omega)
            have f1 := hcl.out wr hB 5 (by have := h12'.out; omega)
            have e0 := hN_at (l := l) 2 (by have := h12'.out; omega)
            have y0 : (4 : Int) < l.length := by have := h12'.out; omega
            have y1 : (5 : Int) < l.length := by have := h12'.out; omega
            have ck : wr.cell? ⟨W.heap.size + 1 + 1, 0, none⟩ = some (.int .i64 0) := by rw [hD.out.cell, cnts_get l 0 (by decide)]
            have fk' : wr.frozen? ⟨W.heap.size + 1 + 1, 0, none⟩ = false := by rw [hD.out.frozen]; simp
            have l4 := (l[4]'(by have := h12'.out; omega)).toNat_lt
            have l5 := (l[5]'(by have := h12'.out; omega)).toNat_lt
            simp only [Nat.reduceMul, Nat.reduceAdd] at e0
            generalize (l[4]'(by have := h12'.out; omega)).toNat = v0 at *
            generalize (l[5]'(by have := h12'.out; omega)).toNat = v1 at *
            have hD6 : Hid (Blk ((wr.setCell ⟨W.heap.size + 1 + 1, 0, none⟩ (.int .i64 ((v0 : Int) * 256 + (v1 : Int)))).drew) (W.heap.size + 1 + 1) 29 (0, 0) (cnts l (0 + 1))) := Lib.hid (by
              have := hD.out.set 0 (.int .i64 (hN l (2 + 0)))
              rw [cnts_set l 0 (by decide)] at this
              have e2 : ((hN l (2 + 0) : Nat) : Int) = (v0 : Int) * 256 + (v1 : Int) := by
                have e3 : hN l (2 + 0) = hN l 2 := rfl
                rw [e3, e0]; omega
              rw [e2] at this
              exact this.drew)
            have hR6 : ∀ (j : Nat) (t : TypeId) (C : List Value), Blk wr j t (0, 0) C → W.heap.size + 1 + 1 ≠ j → Hid (Blk ((wr.setCell ⟨W.heap.size + 1 + 1, 0, none⟩ (.int .i64 ((v0 : Int) * 256 + (v1 : Int)))).drew) j t (0, 0) C) := fun _ _ _ h hne => Lib.hid ((Below.heap_setCell _ _ _ _ hne.symm).trans h)
            have hR6' := Lib.hid hR6
            have hB6 : Hid (Below W.heap.size W ((wr.setCell ⟨W.heap.size + 1 + 1, 0, none⟩ (.int .i64 ((v0 : Int) * 256 + (v1 : Int)))).drew)) := Lib.hid (hB.setCell (by simp only []; omega) _).drew
            clear e0 hR6 hB
            go_wp2_with fail
            go_region
            go_wp2_with fail
            go_roundw
            case rel => exact ⟨0 + 1, by omega, by go_num, hB6.out, by simpa using hz, hD6, hR6'.out _ _ _ hM.out (by omega), hR6'.out _ _ _ hC0.out (by omega), hR6'.out _ _ _ hN0.out (by omega)⟩
            case measure => simp [intOf]
          · have f0 := hcl.out wr hB 6 (by have := h12'.out; omega)
            have f1 := hcl.out wr hB 7 (by have := h12'.out; omega)
            have e0 := hN_at (l := l) 3 (by have := h12'.out; omega)
            have y0 : (6 : Int) < l.length := by have := h12'.out; omega
            have y1 : (7 : Int) < l.length := by have := h12'.out; omega
            have ck : wr.cell? ⟨W.heap.size + 1 + 1, 1, none⟩ = some (.int .i64 0) := by rw [hD.out.cell, cnts_get l 1 (by decide)]
            have fk' : wr.frozen? ⟨W.heap.size + 1 + 1, 1, none⟩ = false := by rw [hD.out.frozen]; simp
            have l4 := (l[6]'(by have := h12'.out; omega)).toNat_lt
            have l5 := (l[7]'(by have := h12'.out; omega)).toNat_lt
            simp only [Nat.reduceMul, Nat.reduceAdd] at e0
            generalize (l[6]'(by have := h12'.out; omega)).toNat = v0 at *
            generalize (l[7]'(by have := h12'.out; omega)).toNat = v1 at *
            have hD6 : Hid (Blk ((wr.setCell ⟨W.heap.size + 1 + 1, 1, none⟩ (.int .i64 ((v0 : Int) * 256 + (v1 : Int)))).drew) (W.heap.size + 1 + 1) 29 (0, 0) (cnts l (1 + 1))) := Lib.hid (by
              have := hD.out.set 1 (.int .i64 (hN l (2 + 1)))
              rw [cnts_set l 1 (by decide)] at this
              have e2 : ((hN l (2 + 1) : Nat) : Int) = (v0 : Int) * 256 + (v1 : Int) := by
                have e3 : hN l (2 + 1) = hN l 3 := rfl
                rw [e3, e0]; omega
              rw [e2] at this
              exact this.drew)
            have hR6 : ∀ (j : Nat) (t : TypeId) (C : List Value), Blk wr j t (0, 0) C → W.heap.size + 1 + 1 ≠ j → Hid (Blk ((wr.setCell ⟨W.heap.size + 1 + 1, 1, none⟩ (.int .i64 ((v0 : Int) * 256 + (v1 : Int)))).drew) j t (0, 0) C) := fun _ _ _ h hne => Lib.hid ((Below.heap_setCell _ _ _ _ hne.symm).trans h)
            have hR6' := Lib.hid hR6
            have hB6 : Hid (Below W.heap.size W ((wr.setCell ⟨W.heap.size + 1 + 1, 1, none⟩ (.int .i64 ((v0 : Int) * 256 + (v1 : Int)))).drew)) := Lib.hid (hB.setCell (by simp only []; omega) _).drew
            clear e0 hR6 hB
            go_wp2_with fail
            go_region
            go_wp2_with fail
            go_roundw
            case rel => exact ⟨1 + 1, by omega, by go_num, hB6.out, by simpa using hz, hD6, hR6'.out _ _ _ hM.out (by omega), hR6'.out _ _ _ hC0.out (by omega), hR6'.out _ _ _ hN0.out (by omega)⟩
            case measure => simp [intOf]
          · have f0 := hcl.out wr hB 8 (by have := h12'.out; omega)
            have f1 := hcl.out wr hB 9 (by have := h12'.out; omega)
            have e0 := hN_at (l := l) 4 (by have := h12'.out; omega)
            have y0 : (8 : Int) < l.length := by have := h12'.out; omega
            have y1 : (9 : Int) < l.length := by have := h12'.out; omega
            have ck : wr.cell? ⟨W.heap.size + 1 + 1, 2, none⟩ = some (.int .i64 0) := by rw [hD.out.cell, cnts_get l 2 (by decide)]
            have fk' : wr.frozen? ⟨W.heap.size + 1 + 1, 2, none⟩ = false := by rw [hD.out.frozen]; simp
            have l4 := (l[8]'(by have := h12'.out; omega)).toNat_lt
            have l5 := (l[9]'(by have := h12'.out; omega)).toNat_lt
            simp only [Nat.reduceMul, Nat.reduceAdd] at e0
            generalize (l[8]'(by have := h12'.out; omega)).toNat = v0 at *
            generalize (l[9]'(by have := h12'.out; omega)).toNat = v1 at *
            have hD6 : Hid (Blk ((wr.setCell ⟨W.heap.size + 1 + 1, 2, none⟩ (.int .i64 ((v0 : Int) * 256 + (v1 : Int)))).drew) (W.heap.size + 1 + 1) 29 (0, 0) (cnts l (2 + 1))) := Lib.hid (by
              have := hD.out.set 2 (.int .i64 (hN l (2 + 2)))
              rw [cnts_set l 2 (by decide)] at this
              have e2 : ((hN l (2 + 2) : Nat) : Int) = (v0 : Int) * 256 + (v1 : Int) := by
                have e3 : hN l (2 + 2) = hN l 4 := rfl
                rw [e3, e0]; omega
              rw [e2] at this
              exact this.drew)
            have hR6 : ∀ (j : Nat) (t : TypeId) (C : List Value), Blk wr j t (0, 0) C → W.heap.size + 1 + 1 ≠ j → Hid (Blk ((wr.setCell ⟨W.heap.size + 1 + 1, 2, none⟩ (.int .i64 ((v0 : Int) * 256 + (v1 : Int)))).drew) j t (0, 0) C) := fun _ _ _ h hne => Lib.hid ((Below.heap_setCell _ _ _ _ hne.symm).trans h)
            have hR6' := Lib.hid hR6
            have hB6 : Hid (Below W.heap.size W ((wr.setCell ⟨W.heap.size + 1 + 1, 2, none⟩ (.int .i64 ((v0 : Int) * 256 + (v1 : Int)))).drew)) := Lib.hid (hB.setCell (by simp only []; omega) _).drew
            clear e0 hR6 hB
            go_wp2_with fail
            go_region
            go_wp2_with fail
            go_roundw
            case rel => exact ⟨2 + 1, by omega, by go_num, hB6.out, by simpa using hz, hD6, hR6'.out _ _ _ hM.out (by omega), hR6'.out _ _ _ hC0.out (by omega), hR6'.out _ _ _ hN0.out (by omega)⟩
            case measure => simp [intOf]
          · have f0 := hcl.out wr hB 10 (by have := h12'.out; omega)
            have f1 := hcl.out wr hB 11 (by have := h12'.out; omega)
            have e0 := hN_at (l := l) 5 (by have := h12'.out; omega)
            have y0 : (10 : Int) < l.length := by have := h12'.out; omega
            have y1 : (11 : Int) < l.length := by have := h12'.out; omega
            have ck : wr.cell? ⟨W.heap.size + 1 + 1, 3, none⟩ = some (.int .i64 0) := by rw [hD.out.cell, cnts_get l 3 (by decide)]
            have fk' : wr.frozen? ⟨W.heap.size + 1 + 1, 3, none⟩ = false := by rw [hD.out.frozen]; simp
            have l4 := (l[10]'(by have := h12'.out; omega)).toNat_lt
            have l5 := (l[11]'(by have := h12'.out; omega)).toNat_lt
            simp only [Nat.reduceMul, Nat.reduceAdd] at e0
            generalize (l[10]'(by have := h12'.out; omega)).toNat = v0 at *
            generalize (l[11]'(by have := h12'.out; omega)).toNat = v1 at *
            have hD6 : Hid (Blk ((wr.setCell ⟨W.heap.size + 1 + 1, 3, none⟩ (.int .i64 ((v0 : Int) * 256 + (v1 : Int)))).drew) (W.heap.size + 1 + 1) 29 (0, 0) (cnts l (3 + 1))) := Lib.hid (by
              have := hD.out.set 3 (.int .i64 (hN l (2 + 3)))
              rw [cnts_set l 3 (by decide)] at this
              have e2 : ((hN l (2 + 3) : Nat) : Int) = (v0 : Int) * 256 + (v1 : Int) := by
                have e3 : hN l (2 + 3) = hN l 5 := rfl
                rw [e3, e0]; omega
              rw [e2] at this
              exact this.drew)
            have hR6 : ∀ (j : Nat) (t : TypeId) (C : List Value), Blk wr j t (0, 0) C → W.heap.size + 1 + 1 ≠ j → Hid (Blk ((wr.setCell ⟨W.heap.size + 1 + 1, 3, none⟩ (.int .i64 ((v0 : Int) * 256 + (v1 : Int)))).drew) j t (0, 0) C) := fun _ _ _ h hne => Lib.hid ((Below.heap_setCell _ _ _ _ hne.symm).trans h)
            have hR6' := Lib.hid hR6
            have hB6 : Hid (Below W.heap.size W ((wr.setCell ⟨W.heap.size + 1 + 1, 3, none⟩ (.int .i64 ((v0 : Int) * 256 + (v1 : Int)))).drew)) := Lib.hid (hB.setCell (by simp only []; omega) _).drew
            clear e0 hR6 hB
            go_wp2_with fail
            go_region
            go_wp2_with fail
            go_roundw
            case rel => exact ⟨3 + 1, by omega, by go_num, hB6.out, by simpa using hz, hD6, hR6'.out _ _ _ hM.out (by omega), hR6'.out _ _ _ hC0.out (by omega), hR6'.out _ _ _ hN0.out (by omega)⟩
            case measure => simp [intOf]
          · have hlM := hM.out.lt
            have hlC := hC0.out.lt
            have hbW9 := Lib.hid hB
            clear hB
            go_wp2_with fail
            have hS1 : ∀ u, (Blk u (W.heap.size + 3) 28 (0, 0) [.int .u16 x0, .bool (hasB b2 128), .int .i64 x1, .bool (hasB b2 4), .bool (hasB b2 2), .bool (hasB b2 1), .bool (hasB b3 128), .bool (hasB b3 32), .bool (hasB b3 16), .int .i64 x2, .slice none 0 0, .slice none 0 0, .slice none 0 0, .slice none 0 0] ∧ Blk u (W.heap.size + 1 + 1) 29 (0, 0) (cnts l 4)) → u.rangeAt (W.heap.size + 3) 0 [.int .u16 x0, .bool (hasB b2 128), .int .i64 x1, .bool (hasB b2 4), .bool (hasB b2 2), .bool (hasB b2 1), .bool (hasB b3 128), .bool (hasB b3 32), .bool (hasB b3 16), .int .i64 x2, .slice none 0 0, .slice none 0 0, .slice none 0 0, .slice none 0 0] := fun u h => range_of h.1
            have hS2 : ∀ u, (Blk u (W.heap.size + 3) 28 (0, 0) [.int .u16 x0, .bool (hasB b2 128), .int .i64 x1, .bool (hasB b2 4), .bool (hasB b2 2), .bool (hasB b2 1), .bool (hasB b3 128), .bool (hasB b3 32), .bool (hasB b3 16), .int .i64 x2, .slice none 0 0, .slice none 0 0, .slice none 0 0, .slice none 0 0] ∧ Blk u (W.heap.size + 1 + 1) 29 (0, 0) (cnts l 4)) → u.rangeAt (W.heap.size + 1 + 1) 0 (cnts l 4) := fun u h => range_of h.2
            refine wp_region_noPanic ?_
            refine wp_region_held_drew (S := fun u => (Blk u (W.heap.size + 3) 28 (0, 0) [.int .u16 x0, .bool (hasB b2 128), .int .i64 x1, .bool (hasB b2 4), .bool (hasB b2 2), .bool (hasB b2 1), .bool (hasB b3 128), .bool (hasB b3 32), .bool (hasB b3 16), .int .i64 x2, .slice none 0 0, .slice none 0 0, .slice none 0 0, .slice none 0 0] ∧ Blk u (W.heap.size + 1 + 1) 29 (0, 0) (cnts l 4))) (by kernel_rfl) ⟨hN0.out.drew, hD.out.drew⟩ (fun hHeld => ?_)
            refine wpAnyH_take (i := 0) (oi := { dst := some 91, op := Op.load 28 (Operand.tmp 6), type := 28, pos := _, after := #[], guard := none }) (v := _) rfl (by kernel_rfl) (by kernel_rfl) (by kernel_rfl) (fun _ _ _ h => h) (yieldsIf_load_mid (by rfl) 28 (.tmp 6) rfl (W.heap.size + 3) 0 rfl _ _ hS1 Try.underlying28 rfl (by kernel_rfl)) hHeld ?_
            try simp only [Act.put, List.setIfInBounds_toArray, List.set_cons_zero, List.set_cons_succ]
            refine wpAnyH_take (i := 1) (oi := { dst := some 92, op := Op.load 29 (Operand.tmp 5), type := 29, pos := _, after := #[{ on := 2, ground := Ground.gcOnly Departure.lateStores }], guard := none }) (v := _) rfl (by kernel_rfl) (by kernel_rfl) (by kernel_rfl) (fun _ _ _ h => h) (yieldsIf_load_mid (by rfl) 29 (.tmp 5) rfl (W.heap.size + 1 + 1) 0 rfl _ _ hS2 Try.underlying29 rfl (by kernel_rfl)) hHeld ?_
            try simp only [Act.put, List.setIfInBounds_toArray, List.set_cons_zero, List.set_cons_succ]
            refine wpAnyH_ready (rs := [2]) (by kernel_rfl) (by simp) ?_
            refine AllReadyH.cons (o := { dst := none, op := Op.store 28 (Operand.tmp 2) (Operand.tmp 91), type := 0, pos := _, after := _, guard := none }) rfl (fun K hK => ?_) AllReadyH.nil
            rw [if_pos (by rfl)]
            refine store_whole_op (b := W.heap.size) 28 (.tmp 2) (.tmp 91) rfl rfl rfl hM.out.drew (by rfl) (by kernel_rfl) (by kernel_rfl) ?_
            intro w11 hB11 hg11 hz11
            have hH11 : Blk w11 (W.heap.size + 3) 28 (0, 0) [.int .u16 x0, .bool (hasB b2 128), .int .i64 x1, .bool (hasB b2 4), .bool (hasB b2 2), .bool (hasB b2 1), .bool (hasB b3 128), .bool (hasB b3 32), .bool (hasB b3 16), .int .i64 x2, .slice none 0 0, .slice none 0 0, .slice none 0 0, .slice none 0 0] ∧ Blk w11 (W.heap.size + 1 + 1) 29 (0, 0) (cnts l 4) :=
              ⟨(keep1 hg11 hHeld.1.lt (by omega)).trans hHeld.1, (keep1 hg11 hHeld.2.lt (by omega)).trans hHeld.2⟩
            refine hK.out _ _ hH11 (fun _ => ?_)
            simp only [Act.put]
            refine wpAnyH_ready (rs := [3]) (by kernel_rfl) (by simp) ?_
            refine AllReadyH.cons (o := { dst := none, op := Op.store 29 (Operand.tmp 3) (Operand.tmp 92), type := 0, pos := _, after := _, guard := none }) rfl (fun K2 hK2 => ?_) AllReadyH.nil
            rw [if_pos (by rfl)]
            have hBr3 : Blk w11 (W.heap.size + 1) 29 (0, 0) [.int .i64 0, .int .i64 0, .int .i64 0, .int .i64 0] := (keep1 hg11 hC0.out.drew.lt (by omega)).trans hC0.out.drew
            refine store_whole_op (b := W.heap.size + 1) 29 (.tmp 3) (.tmp 92) rfl rfl rfl hBr3 (by rfl) (by kernel_rfl) (by kernel_rfl) ?_
            intro w12 hB12 hg12 hz12
            have hH12 : Blk w12 (W.heap.size + 3) 28 (0, 0) [.int .u16 x0, .bool (hasB b2 128), .int .i64 x1, .bool (hasB b2 4), .bool (hasB b2 2), .bool (hasB b2 1), .bool (hasB b3 128), .bool (hasB b3 32), .bool (hasB b3 16), .int .i64 x2, .slice none 0 0, .slice none 0 0, .slice none 0 0, .slice none 0 0] ∧ Blk w12 (W.heap.size + 1 + 1) 29 (0, 0) (cnts l 4) :=
              ⟨(keep1 hg12 hH11.1.lt (by omega)).trans hH11.1, (keep1 hg12 hH11.2.lt (by omega)).trans hH11.2⟩
            refine hK2.out _ _ hH12 (fun _ => ?_)
            simp only [Act.put]
            refine wpAnyH_take (i := 4) (oi := { dst := some 4, op := Op.assign (Operand.const (Value.int IntKind.i64 0)), type := 30, pos := _, after := _, guard := none }) (v := ?_) rfl (by kernel_rfl) (by kernel_rfl) (by kernel_rfl) (fun _ _ _ h => h) (Or.inl ⟨by rfl, ?_⟩) hH12 ?_
            rotate_left
            · intro w hSw
              go_simp
              first | done | with_reducible rfl
            try simp only [Act.put, List.setIfInBounds_toArray, List.set_cons_zero, List.set_cons_succ]
            refine wpAnyH_done (by kernel_rfl) ?_ _
            refine NoPanic.normal ?_
            have hB13 := (keep1 hg12 hB11.lt (by omega)).trans hB11
            have hE13 := below1 (below1 hbW9.out.drew (Nat.le_refl _) hbW9.out.size hg11) (Nat.le_succ _) (by have := hg11.size; have := hbW9.out.size; have e : wr.drew.heap.size = wr.heap.size := rfl; omega) hg12
            go_wp2_with fail
            refine bodyPost_ret (results_cct rfl _ rfl rfl hB13 hB12 Try.underlying28 rfl (by kernel_rfl) Try.underlying29 rfl (by kernel_rfl)) rfl ?_
            obtain rfl := hg0.out
            obtain rfl := hg1.out
            obtain rfl := hg2.out
            exact ⟨rfl, hE13⟩
end Go.Proofs.Ytbpkhnnfdjihdaa
