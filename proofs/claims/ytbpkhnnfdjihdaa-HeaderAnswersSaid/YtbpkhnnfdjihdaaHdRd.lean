/- header.Read 9. -/
import Derived.Test.YtbpkhnnfdjihdaaHdFl
import Derived.Test.YtbpkhnnfdjihdaaHdSt
namespace Go.Proofs.Ytbpkhnnfdjihdaa
open Go Go.RowKit Go.Maps
def hN (l : List UInt8) (k : Nat) : Nat := if 2 * (k + 1) ≤ l.length then numL ((l.drop (2 * k)).take 2) else 0
def RdrK (w : World) (lo g : Nat) (l : List UInt8) (k : Nat) : Prop := Rdr w lo g l (if 2 * k ≤ l.length then 2 * k else 0) (decide (l.length < 2 * k))
theorem tk_k (l : List UInt8) (k : Nat) : tk l (if 2 * k ≤ l.length then 2 * k else 0) (decide (l.length < 2 * k)) ((2 : Nat) : Int) = decide (2 * (k + 1) ≤ l.length) := by
  unfold tk
  by_cases h : l.length < 2 * k
  · rw [decide_eq_true h, Bool.not_true, Bool.false_and, eq_comm, decide_eq_false_iff_not]; omega
  · rw [decide_eq_false h, Bool.not_false, Bool.true_and, if_pos (by omega), decide_eq_decide]; omega
theorem hN_lt (l : List UInt8) (k : Nat) : hN l k < 65536 := by
  unfold hN
  split
  · rename_i h
    have e : ((l.drop (2 * k)).take 2).length = 2 := by simp; omega
    match (l.drop (2 * k)).take 2, e with
    | [a, b], _ => have := a.toNat_lt; have := b.toNat_lt; simp [numL]; omega
  · omega
set_option maxHeartbeats 2000000 in
theorem hd_u16 {w : World} {lo g : Nat} {l : List UInt8} {k : Nat} (h : RdrK w lo g l k) (hl : l.length ≤ 140737488355328) :
    Calls Try.prog 23 #[.pointer (some ⟨g, 0, none⟩)] w fun e w' => e = .returned (.int .i64 (hN l k)) ∧ RdrK w' lo g l (k + 1) ∧ w.grownBy w' (some g) := by
  refine (rdr_u16 h hl).mono ?_
  rintro e w' ⟨rfl, h1, h2⟩
  have ht := tk_k l k
  refine ⟨?_, ?_, h2⟩
  · congr 2
    unfold tkN tkL hN
    rw [ht]
    by_cases h2 : 2 * (k + 1) ≤ l.length
    · rw [if_pos h2, if_pos (by simpa using h2), if_pos (by omega)]; rfl
    · rw [if_neg h2, if_neg (by simpa using h2)]; rfl
  · unfold RdrK
    unfold tkAt at h1
    rw [show (2 : Int) = ((2 : Nat) : Int) from rfl, ht] at h1
    by_cases h2 : 2 * (k + 1) ≤ l.length
    · rw [if_pos h2]
      rw [if_pos (by simpa using h2), if_pos (by omega)] at h1
      have e : decide (l.length < 2 * (k + 1)) = (!decide (2 * (k + 1) ≤ l.length)) := by rw [decide_eq_true h2]; simp; omega
      rw [e]; exact h1
    · rw [if_neg h2]
      rw [if_neg (by simpa using h2)] at h1
      have e : decide (l.length < 2 * (k + 1)) = (!decide (2 * (k + 1) ≤ l.length)) := by rw [decide_eq_false h2]; simp; omega
      rw [e]; exact h1
theorem RdrK.keep {w w' : World} {lo g : Nat} {l : List UInt8} {k : Nat} (h : RdrK w lo g l k) (hk : ∀ b, lo ≤ b → b ≤ g → w'.heap[b]? = w.heap[b]?) (hlg : lo ≤ g) : RdrK w' lo g l k := Rdr.keep h hk hlg
theorem cellsH_ext (id op rc : Int) (S : List Value) {F G : Nat → Bool} (h : ∀ j, j < 7 → F j = G j) : cellsH id op rc F S = cellsH id op rc G S := by
  unfold cellsH; rw [h 0 (by decide), h 1 (by decide), h 2 (by decide), h 3 (by decide), h 4 (by decide), h 5 (by decide), h 6 (by decide)]
/-- a head's message -/
def msgV (id op rc : Int) (F : Nat → Bool) (S : List Value) : Value := .agg (cellsH id op rc F S).toArray
def nils : List Value := [.slice none 0 0, .slice none 0 0, .slice none 0 0, .slice none 0 0]
def cntV (a b c d : Nat) : Value := .agg #[.int .i64 a, .int .i64 b, .int .i64 c, .int .i64 d]
def cnts (l : List UInt8) (k : Nat) : List Value := [.int .i64 (if 0 < k then hN l 2 else 0 : Nat), .int .i64 (if 1 < k then hN l 3 else 0 : Nat), .int .i64 (if 2 < k then hN l 4 else 0 : Nat), .int .i64 (if 3 < k then hN l 5 else 0 : Nat)]
theorem cnts_set (l : List UInt8) (k : Nat) (hk : k < 4) : (cnts l k).set k (.int .i64 (hN l (2 + k))) = cnts l (k + 1) := by
  match k, hk with
  | 0, _ => rfl
  | 1, _ => rfl
  | 2, _ => rfl
  | 3, _ => rfl
theorem cnts_get (l : List UInt8) (k : Nat) (hk : k < 4) : (cnts l k)[k]? = some (.int .i64 0) := by
  match k, hk with
  | 0, _ => rfl
  | 1, _ => rfl
  | 2, _ => rfl
  | 3, _ => rfl
def hdBad (l : List UInt8) : Bool := decide (l.length < 12) || (hN l 1 &&& 64 != 0)
set_option maxHeartbeats 4000000 in
set_option maxRecDepth 100000 in
theorem read_any {W : World} {a : Option Addr} {n c : Nat} {l : List UInt8} (h : Rd byteE W a n c l) (hn : n ≤ 140737488355328) :
    Calls Try.prog 9 #[.slice a n c] W fun e w' => e = .returned (if hdBad l then .tuple #[msgV 0 0 0 (fun _ => false) nils, cntV 0 0 0 0, .int .i64 8] else
      .tuple #[msgV (hN l 0) ((hN l 1 / 2048 &&& 15 : Nat) : Int) ((hN l 1 &&& 15 : Nat) : Int) (tb (hN l 1)) nils, cntV (hN l 2) (hN l 3) (hN l 4) (hN l 5), .int .i64 0]) ∧ Below W.heap.size W w' := by
  have hl := h.len
  subst hl
  have hH := Lib.hid h; clear h
  go_enter Try.func9, Try.ntmps9
  go_wp2_with fail
  have hz0 : W.heap.size < ((W.alloc (.cells (cellsH 0 0 0 (fun _ => false) nils).toArray 28)).alloc (.cells #[.int .i64 0, .int .i64 0, .int .i64 0, .int .i64 0] 29)).heap.size := by simp; omega
  have hBm : Hid (Blk ((W.alloc (.cells (cellsH 0 0 0 (fun _ => false) nils).toArray 28)).alloc (.cells #[.int .i64 0, .int .i64 0, .int .i64 0, .int .i64 0] 29)) W.heap.size 28 (0, 0) (cellsH 0 0 0 (fun _ => false) nils)) :=
    Lib.hid ((Blk.new W 28 (0, 0) (cellsH 0 0 0 (fun _ => false) nils).toArray).below ((Below.refl _ _).alloc (Nat.le_refl _) _) (by simp))
  have hBc : Hid (Blk ((W.alloc (.cells (cellsH 0 0 0 (fun _ => false) nils).toArray 28)).alloc (.cells #[.int .i64 0, .int .i64 0, .int .i64 0, .int .i64 0] 29)) (W.heap.size + 1) 29 (0, 0) [.int .i64 0, .int .i64 0, .int .i64 0, .int .i64 0]) :=
    Lib.hid (by simpa using Blk.new (W.alloc (.cells (cellsH 0 0 0 (fun _ => false) nils).toArray 28)) 29 (0, 0) #[.int .i64 0, .int .i64 0, .int .i64 0, .int .i64 0])
  have hb1 : Below W.heap.size W ((W.alloc (.cells (cellsH 0 0 0 (fun _ => false) nils).toArray 28)).alloc (.cells #[.int .i64 0, .int .i64 0, .int .i64 0, .int .i64 0] 29)) := ((Below.refl _ _).alloc (Nat.le_refl _) _).alloc (by simp) _
  have hsz1 : ((W.alloc (.cells (cellsH 0 0 0 (fun _ => false) nils).toArray 28)).alloc (.cells #[.int .i64 0, .int .i64 0, .int .i64 0, .int .i64 0] 29)).heap.size = W.heap.size + 2 := by simp
  have hW1 : ∃ w1, w1 = ((W.alloc (.cells (cellsH 0 0 0 (fun _ => false) nils).toArray 28)).alloc (.cells #[.int .i64 0, .int .i64 0, .int .i64 0, .int .i64 0] 29)) := ⟨_, rfl⟩
  obtain ⟨w1, hW1⟩ := hW1
  rw [← hW1] at hBm hBc hb1 hsz1
  show Calls Try.prog 22 #[Value.slice a l.length c] ((W.alloc (.cells (cellsH 0 0 0 (fun _ => false) nils).toArray 28)).alloc (.cells #[.int .i64 0, .int .i64 0, .int .i64 0, .int .i64 0] 29)) _
  rw [← hW1]
  clear hW1 hz0
  refine (new_any (hH.out.ext hb1) hn).mono ?_
  rintro e w2 ⟨g, rfl, hg, hR, hb2⟩
  have hK := Lib.hid (show RdrK w2 w1.heap.size g l 0 from (by
    have := hR
    unfold RdrK
    simpa using this))
  clear hR
  go_wp2_with fail
  refine (hd_u16 hK.out hn).mono ?_
  rintro e w9 ⟨rfl, hK9, hg9⟩
  replace hK := Lib.hid hK9; clear hK9
  go_wp2_with fail
  refine (hd_u16 hK.out hn).mono ?_
  rintro e w3 ⟨rfl, hK3, hg3⟩
  replace hK := Lib.hid hK3; clear hK3
  have hb13 : Below w1.heap.size w1 w3 := (hb2.grown hg9 hb2.size (fun k hk => by cases hk; exact hg)).grown hg3 (Nat.le_trans hb2.size hg9.size) (fun k hk => by cases hk; exact hg)
  have hz3 := hb13.size
  have hgz : g < w3.heap.size := Rdr.lt hK.out
  clear hg9 hg3 hb2
  go_wp2_with fail
  go_loopw [19] (fun i wr => ∃ k : Nat, k ≤ 4 ∧ i = .int .i64 k ∧ Hid (RdrK wr w1.heap.size g l (2 + k)) ∧ Hid (Blk wr w3.heap.size 29 (0, 0) (cnts l k)) ∧ Below w1.heap.size w1 wr) (fun i _ => 4 - (intOf i).toNat)
  case atStart => exact ⟨0, by omega, rfl, Lib.hid (hK.out.keep (fun b h1 h2 => Below.heap_alloc _ _ _ (by omega)) hg), Lib.hid (Blk.new w3 29 (0, 0) #[.int .i64 0, .int .i64 0, .int .i64 0, .int .i64 0]), hb13.alloc hz3 _⟩
  case round =>
    obtain ⟨k, hk, rfl, hK, hC, hB⟩ := hrel
    by_cases hlt : k < 4
    · have hkI : (k : Int) < 4 := by omega
      go_wp2_with fail
      refine (hd_u16 hK.out hn).mono ?_
      rintro e w5 ⟨rfl, hK5, hg5⟩
      replace hK := Lib.hid hK5; clear hK5
      have hC5 : Hid (Blk w5 w3.heap.size 29 (0, 0) (cnts l k)) := Lib.hid ((hg5.block _ hC.out.lt (fun e => by cases e; omega)).trans hC.out)
      have hC6 : Hid (Blk (w5.setCell ⟨w3.heap.size, k, none⟩ (.int .i64 (hN l (2 + k)))) w3.heap.size 29 (0, 0) (cnts l (k + 1))) := Lib.hid (by
        have := hC5.out.set k (.int .i64 (hN l (2 + k)))
        rwa [cnts_set l k hlt] at this)
      have hK6 : Hid (RdrK (w5.setCell ⟨w3.heap.size, k, none⟩ (.int .i64 (hN l (2 + k)))) w1.heap.size g l (2 + k + 1)) := Lib.hid (hK.out.keep (fun b h1 h2 => Below.heap_setCell _ _ _ _ (by simp only [ne_eq]; omega)) hg)
      have hB6 : Below w1.heap.size w1 (w5.setCell ⟨w3.heap.size, k, none⟩ (.int .i64 (hN l (2 + k)))) := (hB.grown hg5 hB.size (fun k hk => by cases hk; exact hg)).setCell (by simpa using hz3) _
      have ck : w5.cell? ⟨w3.heap.size, k, none⟩ = some (.int .i64 0) := by rw [hC5.out.cell, cnts_get l k hlt]
      have fk' : w5.frozen? ⟨w3.heap.size, k, none⟩ = false := by rw [hC5.out.frozen]; simp
      clear hC5 hC hB
      go_wp2_with fail
      go_roundw
      case rel => exact ⟨k + 1, by omega, by go_num, hK6, hC6, hB6⟩
      case measure => simp [intOf]; omega
    · have hk4 : k = 4 := by omega
      subst hk4
      have hBm2 : Hid (Blk wr W.heap.size 28 (0, 0) (cellsH 0 0 0 (fun _ => false) nils)) := Lib.hid (hBm.out.below hB (by omega))
      have hBc2 : Hid (Blk wr (W.heap.size + 1) 29 (0, 0) [.int .i64 0, .int .i64 0, .int .i64 0, .int .i64 0]) := Lib.hid (hBc.out.below hB (by omega))
      have hbW : Below W.heap.size W wr := hb1.trans (hB.mono (by omega))
      clear hb1 hb13 hBm hBc
      go_wp2_with fail
      refine (rdr_bad hK.out).mono ?_
      rintro e wr2 ⟨rfl, rfl⟩
      by_cases h12 : l.length < 12
      · rw [show decide (l.length < 2 * (2 + 4)) = true from by simpa using h12]
        have hbad : hdBad l = true := by unfold hdBad; rw [decide_eq_true h12]; rfl
        go_wp2_with (first
          | (refine store_whole rfl 28 (.tmp 2) (.tmp 34) rfl rfl rfl hBm2.out (by rfl) (by kernel_rfl) (by kernel_rfl) ?_; intro w6 hB6 hg6 hz6; have hBm6 := Lib.hid hB6; have hBc6 : Hid (Blk w6 (W.heap.size + 1) 29 (0, 0) [.int .i64 0, .int .i64 0, .int .i64 0, .int .i64 0]) := Lib.hid ((hg6.block _ hBc2.out.lt (fun e => by simp at e)).trans hBc2.out); clear hB6)
          | (refine store_whole rfl 29 (.tmp 3) (.tmp 35) rfl rfl rfl hBc6.out (by rfl) (by kernel_rfl) (by kernel_rfl) ?_; intro w7 hB7 hg7 hz7; have hBc7 := Lib.hid hB7; have hBm7 : Hid (Blk w7 W.heap.size 28 (0, 0) (cellsH 0 0 0 (fun _ => false) nils)) := Lib.hid ((hg7.block _ hBm6.out.lt (fun e => by simp at e)).trans hBm6.out); clear hB7))
        refine bodyPost_ret (results_cct rfl _ rfl rfl hBm7.out hBc7.out Try.underlying28 rfl (by kernel_rfl) Try.underlying29 rfl (by kernel_rfl)) rfl ?_
        exact ⟨rfl, (hbW.grown hg6 hbW.size (fun k hk => by cases hk; exact Nat.le_refl _)).grown hg7 (Nat.le_trans hbW.size hg6.size) (fun k hk => by cases hk; exact Nat.le_succ _)⟩
      · rw [show decide (l.length < 2 * (2 + 4)) = false from by simpa using h12]
        have e64 : bits .and .i64 (hN l 1 : Int) 64 = ((hN l 1 &&& 64 : Nat) : Int) := and_i64 _ 64 (hN_lt l 1) (by decide)
        by_cases hb64 : hN l 1 &&& 64 = 0
        · rw [hb64] at e64
          have hbad : hdBad l = false := by unfold hdBad; rw [decide_eq_false h12, hb64]; rfl
          have e15 : ∀ x : Nat, x < 65536 → bits .and .i64 (x : Int) 15 = ((x &&& 15 : Nat) : Int) := fun x hx => and_i64 _ 15 hx (by decide)
          have hlt1 := hN_lt l 1
          have ea := e15 (hN l 1) hlt1
          have eb : bits .and .i64 ((hN l 1 : Int) / 2048) 15 = ((hN l 1 / 2048 &&& 15 : Nat) : Int) := by
            have := e15 (hN l 1 / 2048) (by omega)
            simpa using this
          have hlt0 := hN_lt l 0
          clear e15
          obtain ⟨w0, rfl⟩ : ∃ w0, w0 = wr := ⟨_, rfl⟩
          go_wp2_with fail
          refine flags_any.mono ?_
          rintro e w5 ⟨rfl, ⟨D, hown, hD⟩, hb5⟩
          have hB5 : Hid (Blk w5 w0.heap.size 28 (0, 0) (cellsH (hN l 0) ((hN l 1 / 2048 &&& 15 : Nat) : Int) ((hN l 1 &&& 15 : Nat) : Int) (fun _ => false) nils)) :=
            Lib.hid ((Blk.new w0 28 (0, 0) (cellsH (hN l 0) ((hN l 1 / 2048 &&& 15 : Nat) : Int) ((hN l 1 &&& 15 : Nat) : Int) (fun _ => false) nils).toArray).below hb5 (by simp))
          have hb05 : Below w0.heap.size w0 w5 := ((Below.refl _ w0).alloc (Nat.le_refl _) _).trans (hb5.mono (by simp))
          have hz5 : w0.heap.size + 1 ≤ w5.heap.size := by have := hb5.size; simpa using this
          have hol := hown.lt
          have hD' := Lib.hid hD
          clear hD hb5
          simp only [World.size_alloc] at *
          go_wp2_with (at_range; refine wpList_range_own _ rfl (.tmp 44) 56 rfl 3 59 key3 Try.underlying56 (ptrR w0.heap.size) (w0.heap.size + 1) 7 D rfl hown ?_; intro w6 hrg6 hg6 hs6)
          have hall : ∀ j, j < 7 → Maps.has D (.int .i64 (fk j)) = true := fun j hj => by
            rcases hD'.out (fk j) (fk_wf j) with ⟨q, _⟩ | ⟨_, _, _, _, q, _⟩
            · exact absurd rfl (q j hj trivial)
            · exact q
          have hB6 : Hid (Blk w6 w0.heap.size 28 (0, 0) (cellsH (hN l 0) ((hN l 1 / 2048 &&& 15 : Nat) : Int) ((hN l 1 &&& 15 : Nat) : Int) (fun j => !Maps.has D (.int .i64 (fk j)) && tb (hN l 1) j) nils)) := Lib.hid (by
            have := (hg6.block _ hB5.out.lt (fun e => by cases e)).trans hB5.out
            rw [cellsH_ext _ _ _ _ (F := fun _ => false) (G := fun j => !Maps.has D (.int .i64 (fk j)) && tb (hN l 1) j) (fun j hj => by simp [hall j hj])] at this
            exact this)
          have hb06 : Below w0.heap.size w0 w6 := hb05.grown hg6 (by omega) (fun k hk => by cases hk)
          clear hB5 hb05 hown
          go_frame
          go_loopw [11] (fun _ wr => ∃ left cnt, Hid (wr.ranges Try.prog 3 (ptrR w0.heap.size) (w0.heap.size + 1) w5.heap.size 7 D left cnt) ∧ Hid (Blk wr w0.heap.size 28 (0, 0) (cellsH (hN l 0) ((hN l 1 / 2048 &&& 15 : Nat) : Int) ((hN l 1 &&& 15 : Nat) : Int) (fun j => !left (.int .i64 (fk j)) && tb (hN l 1) j) nils)) ∧ Below w0.heap.size w0 wr) (fun _ wr => wr.rangeLeft (w0.heap.size + 1) w5.heap.size)
          case atStart => exact ⟨_, _, Lib.hid hrg6, hB6, hb06⟩
          case round =>
            obtain ⟨left, cnt, hrg, hBm, hb0⟩ := hrel
            clear hrg6 hB6 hb06 hg6
            go_wp2_with (at_next; refine wpList_next_ranges _ rfl (.tmp 45) rfl 3 key3 (ptrR w0.heap.size) (Value.int .i64) (fun o : Nat => Value.pointer (some ⟨w0.heap.size, o, none⟩)) (fun key kl hkey => by obtain ⟨x, rfl, _⟩ := Maps.keyOf_int_inv Try.underlying3 hkey; exact ⟨x, rfl⟩) (fun v y h => by obtain ⟨o, h1, _⟩ := ptrR_inv h; exact ⟨o, h1⟩) (w0.heap.size + 1) w5.heap.size 7 D _ _ rfl hrg.out ?_ ?_)
            · intro hc0 hl0
              have hBm9 : Hid (Blk wr w0.heap.size 28 (0, 0) (cellsH (hN l 0) ((hN l 1 / 2048 &&& 15 : Nat) : Int) ((hN l 1 &&& 15 : Nat) : Int) (tb (hN l 1)) nils)) := Lib.hid (by
                have := hBm.out
                rw [cellsH_ext _ _ _ _ (G := tb (hN l 1)) (fun j hj => by simp [hl0])] at this
                exact this)
              have hB10 : Hid (Blk wr w3.heap.size 29 (0, 0) (cnts l 4)) := Lib.hid (hC.out.below hb0 hC.out.lt)
              have hBr1 : Hid (Blk wr W.heap.size 28 (0, 0) (cellsH 0 0 0 (fun _ => false) nils)) := Lib.hid (hBm2.out.below hb0 hBm2.out.lt)
              have hBr2 : Hid (Blk wr (W.heap.size + 1) 29 (0, 0) [.int .i64 0, .int .i64 0, .int .i64 0, .int .i64 0]) := Lib.hid (hBc2.out.below hb0 hBc2.out.lt)
              have hbW9 : Below W.heap.size W wr := hbW.trans (hb0.mono (hbW.size))
              have hzz := hBm2.out.lt
              have hzc := hBc2.out.lt
              clear hBm hC hBm2 hBc2 hbW hb0 hB hK
              go_wp2_with fail
              have hS1 : ∀ u, (Blk u w0.heap.size 28 (0, 0) (cellsH (hN l 0) ((hN l 1 / 2048 &&& 15 : Nat) : Int) ((hN l 1 &&& 15 : Nat) : Int) (tb (hN l 1)) nils) ∧ Blk u w3.heap.size 29 (0, 0) (cnts l 4)) → u.rangeAt w0.heap.size 0 (cellsH (hN l 0) ((hN l 1 / 2048 &&& 15 : Nat) : Int) ((hN l 1 &&& 15 : Nat) : Int) (tb (hN l 1)) nils) := fun u h => range_of h.1
              have hS2 : ∀ u, (Blk u w0.heap.size 28 (0, 0) (cellsH (hN l 0) ((hN l 1 / 2048 &&& 15 : Nat) : Int) ((hN l 1 &&& 15 : Nat) : Int) (tb (hN l 1)) nils) ∧ Blk u w3.heap.size 29 (0, 0) (cnts l 4)) → u.rangeAt w3.heap.size 0 (cnts l 4) := fun u h => range_of h.2
              refine wp_region_held_drew (S := fun u => (Blk u w0.heap.size 28 (0, 0) (cellsH (hN l 0) ((hN l 1 / 2048 &&& 15 : Nat) : Int) ((hN l 1 &&& 15 : Nat) : Int) (tb (hN l 1)) nils) ∧ Blk u w3.heap.size 29 (0, 0) (cnts l 4))) (by kernel_rfl) ⟨hBm9.out, hB10.out⟩ (fun hHeld => ?_)
              refine wpAnyH_take (i := 0) (oi := { dst := some 57, op := Op.load 28 (Operand.tmp 10), type := 28, pos := _, after := #[], guard := none }) (v := _) rfl (by kernel_rfl) (by kernel_rfl) (by kernel_rfl) (fun _ _ _ h => h) (yieldsIf_load_mid (by rfl) 28 (.tmp 10) rfl w0.heap.size 0 rfl _ _ hS1 Try.underlying28 rfl (by kernel_rfl)) hHeld ?_
              try simp only [Act.put, List.setIfInBounds_toArray, List.set_cons_zero, List.set_cons_succ]
              refine wpAnyH_take (i := 1) (oi := { dst := some 58, op := Op.load 29 (Operand.tmp 8), type := 29, pos := _, after := #[{ on := 2, ground := Ground.gcOnly Departure.lateStores }], guard := none }) (v := _) rfl (by kernel_rfl) (by kernel_rfl) (by kernel_rfl) (fun _ _ _ h => h) (yieldsIf_load_mid (by rfl) 29 (.tmp 8) rfl w3.heap.size 0 rfl _ _ hS2 Try.underlying29 rfl (by kernel_rfl)) hHeld ?_
              try simp only [Act.put, List.setIfInBounds_toArray, List.set_cons_zero, List.set_cons_succ]
              refine wpAnyH_ready (rs := [2]) (by kernel_rfl) (by simp) ?_
              refine AllReadyH.cons (o := { dst := none, op := Op.store 28 (Operand.tmp 2) (Operand.tmp 57), type := 0, pos := _, after := _, guard := none }) rfl (fun K hK => ?_) AllReadyH.nil
              rw [if_pos (by rfl)]
              refine store_whole_op (b := W.heap.size) 28 (.tmp 2) (.tmp 57) rfl rfl rfl hBr1.out (by rfl) (by kernel_rfl) (by kernel_rfl) ?_
              intro w11 hB11 hg11 hz11
              have hH11 : Blk w11 w0.heap.size 28 (0, 0) (cellsH (hN l 0) ((hN l 1 / 2048 &&& 15 : Nat) : Int) ((hN l 1 &&& 15 : Nat) : Int) (tb (hN l 1)) nils) ∧ Blk w11 w3.heap.size 29 (0, 0) (cnts l 4) :=
                ⟨(hg11.block _ hHeld.1.lt (fun e => by simp at e; omega)).trans hHeld.1, (hg11.block _ hHeld.2.lt (fun e => by simp at e; omega)).trans hHeld.2⟩
              refine hK.out _ _ hH11 (fun _ => ?_)
              simp only [Act.put]
              refine wpAnyH_ready (rs := [3]) (by kernel_rfl) (by simp) ?_
              refine AllReadyH.cons (o := { dst := none, op := Op.store 29 (Operand.tmp 3) (Operand.tmp 58), type := 0, pos := _, after := _, guard := none }) rfl (fun K2 hK2 => ?_) AllReadyH.nil
              rw [if_pos (by rfl)]
              have hBr3 : Blk w11 (W.heap.size + 1) 29 (0, 0) [.int .i64 0, .int .i64 0, .int .i64 0, .int .i64 0] := (hg11.block _ hBr2.out.lt (fun e => by simp at e)).trans hBr2.out
              refine store_whole_op (b := W.heap.size + 1) 29 (.tmp 3) (.tmp 58) rfl rfl rfl hBr3 (by rfl) (by kernel_rfl) (by kernel_rfl) ?_
              intro w12 hB12 hg12 hz12
              have hH12 : Blk w12 w0.heap.size 28 (0, 0) (cellsH (hN l 0) ((hN l 1 / 2048 &&& 15 : Nat) : Int) ((hN l 1 &&& 15 : Nat) : Int) (tb (hN l 1)) nils) ∧ Blk w12 w3.heap.size 29 (0, 0) (cnts l 4) :=
                ⟨(hg12.block _ hH11.1.lt (fun e => by simp at e; omega)).trans hH11.1, (hg12.block _ hH11.2.lt (fun e => by simp at e; omega)).trans hH11.2⟩
              refine hK2.out _ _ hH12 (fun _ => ?_)
              simp only [Act.put]
              refine wpAnyH_take (i := 4) (oi := { dst := some 4, op := Op.assign (Operand.const (Value.int IntKind.i64 0)), type := 30, pos := _, after := _, guard := none }) (v := ?_) rfl (by kernel_rfl) (by kernel_rfl) (by kernel_rfl) (fun _ _ _ h => h) (Or.inl ⟨by rfl, ?_⟩) hH12 ?_
              rotate_left
              · intro w hSw
                go_simp
                first | done | with_reducible rfl
              try simp only [Act.put, List.setIfInBounds_toArray, List.set_cons_zero, List.set_cons_succ]
              refine wpAnyH_done (by kernel_rfl) ?_ _
              have hB13 : Blk w12 W.heap.size 28 (0, 0) (cellsH (hN l 0) ((hN l 1 / 2048 &&& 15 : Nat) : Int) ((hN l 1 &&& 15 : Nat) : Int) (tb (hN l 1)) nils) := (hg12.block _ hB11.lt (fun e => by simp at e)).trans hB11
              have hE13 := (hbW9.drew.grown hg11 hbW9.size (fun k hk => by cases hk; exact Nat.le_refl _)).grown hg12 (Nat.le_trans hbW9.size hg11.size) (fun k hk => by cases hk; exact Nat.le_succ _)
              go_wp2_with fail
              refine bodyPost_ret (results_cct rfl _ rfl rfl hB13 hB12 Try.underlying28 rfl (by kernel_rfl) Try.underlying29 rfl (by kernel_rfl)) rfl ?_
              exact ⟨rfl, hE13⟩
            · intro x o kl yd yp w7 cnt7 hkey hlx hR hat hrg7 hlt7 hg7 hs7 hen
              obtain ⟨x', ex, rfl, hwx⟩ := Maps.keyOf_int_inv Try.underlying3 hkey
              cases ex
              rw [ptrR_mk] at hR
              obtain rfl : yd = .lit (.int .i64 o) := by simp at hR; exact hR.1.symm
              obtain ⟨j, hj, rfl, rfl⟩ : ∃ j, j < 7 ∧ x = fk j ∧ o = fo j := by
                rcases hD'.out x hwx with ⟨_, q⟩ | ⟨j, hj, _, q1, _, q2⟩
                · have := hat .nil; rw [atKey_of_not_has q] at this; cases this
                · have := (hat .nil).symm.trans (q2 .nil)
                  simp at this
                  exact ⟨j, hj, q1, by omega⟩
              have hB7 : Hid (Blk w7 w0.heap.size 28 (0, 0) (cellsH (hN l 0) ((hN l 1 / 2048 &&& 15 : Nat) : Int) ((hN l 1 &&& 15 : Nat) : Int) (fun j => !left (.int .i64 (fk j)) && tb (hN l 1) j) nils)) :=
                Lib.hid ((hg7.block _ hBm.out.lt (fun e => by simp at e; omega)).trans hBm.out)
              have cj : w7.cell? ⟨w0.heap.size, fo j, none⟩ = some (.bool (!left (.int .i64 (fk j)) && tb (hN l 1) j)) := by rw [hB7.out.cell]; exact cellsH_get _ _ _ _ _ j hj
              have fj : w7.frozen? ⟨w0.heap.size, fo j, none⟩ = false := by rw [hB7.out.frozen]; simp
              have ej : bits .and .i64 (hN l 1 : Int) (fk j : Int) = ((hN l 1 &&& fk j : Nat) : Int) := and_i64 _ _ hlt1 (fk_lt j)
              have hB8 : Hid (Blk (w7.setCell ⟨w0.heap.size, fo j, none⟩ (.bool (((hN l 1 &&& fk j : Nat) : Int) != 0))) w0.heap.size 28 (0, 0) (cellsH (hN l 0) ((hN l 1 / 2048 &&& 15 : Nat) : Int) ((hN l 1 &&& 15 : Nat) : Int) (fun i => !(left (.int .i64 (fk i)) && !(Lit.int .i64 (fk i)).sameKey (.int .i64 (fk j))) && tb (hN l 1) i) nils)) := Lib.hid (by
                have e1 : (((hN l 1 &&& fk j : Nat) : Int) != 0) = tb (hN l 1) j := by
                  unfold tb
                  by_cases h0 : hN l 1 &&& fk j = 0
                  · rw [h0]; rfl
                  · rw [bne_iff_ne.2 h0, bne_iff_ne]; omega
                rw [e1]
                have := hB7.out.set (fo j) (.bool (tb (hN l 1) j))
                rw [cellsH_set _ _ _ _ _ j hj] at this
                rw [cellsH_ext _ _ _ _ (G := fun i => !(left (.int .i64 (fk i)) && !(Lit.int .i64 (fk i)).sameKey (.int .i64 (fk j))) && tb (hN l 1) i) (fun i hi => ?_)] at this
                · exact this
                · by_cases hij : i = j
                  · subst hij; simp [Lit.sameKey]
                  · have : fk i ≠ fk j := fun e => hij (fk_inj hi hj e)
                    have t2 : ¬ (fk i : Int) = (fk j : Int) := by omega
                    simp [hij, Lit.sameKey, t2])
              have hrg8 := hrg7.kept (w' := w7.setCell ⟨w0.heap.size, fo j, none⟩ (.bool (((hN l 1 &&& fk j : Nat) : Int) != 0))) (grown_set _ _ _ _) (by simp) (by simp; omega)
              have hb8 : Below w0.heap.size w0 (w7.setCell ⟨w0.heap.size, fo j, none⟩ (.bool (((hN l 1 &&& fk j : Nat) : Int) != 0))) := (hb0.grown hg7 hb0.size (fun k hk => by cases hk; omega)).setCell (Nat.le_refl _) _
              have hm : (w7.setCell ⟨w0.heap.size, fo j, none⟩ (.bool (((hN l 1 &&& fk j : Nat) : Int) != 0))).rangeLeft (w0.heap.size + 1) w5.heap.size < wr.rangeLeft (w0.heap.size + 1) w5.heap.size := by rw [hrg8.left_eq, hrg.out.left_eq]; exact hlt7
              have hrg9 := Lib.hid hrg8
              clear hrg8 hrg7 hrg hB7 hBm
              go_wp2_with fail
              go_roundw
              case rel => exact ⟨_, _, hrg9, hB8, hb8⟩
              case measure => exact hm
        · have hbad : hdBad l = true := by unfold hdBad; rw [bne_iff_ne.2 hb64, Bool.or_true]
          have hne : ((hN l 1 &&& 64 : Nat) : Int) ≠ 0 := by omega
          have hne2 : (((hN l 1 &&& 64 : Nat) : Int) != 0) = true := bne_iff_ne.2 hne
          go_wp2_with (first
            | (refine store_whole rfl 28 (.tmp 2) (.tmp 34) rfl rfl rfl hBm2.out (by rfl) (by kernel_rfl) (by kernel_rfl) ?_; intro w6 hB6 hg6 hz6; have hBm6 := Lib.hid hB6; have hBc6 : Hid (Blk w6 (W.heap.size + 1) 29 (0, 0) [.int .i64 0, .int .i64 0, .int .i64 0, .int .i64 0]) := Lib.hid ((hg6.block _ hBc2.out.lt (fun e => by simp at e)).trans hBc2.out); clear hB6)
            | (refine store_whole rfl 29 (.tmp 3) (.tmp 35) rfl rfl rfl hBc6.out (by rfl) (by kernel_rfl) (by kernel_rfl) ?_; intro w7 hB7 hg7 hz7; have hBc7 := Lib.hid hB7; have hBm7 : Hid (Blk w7 W.heap.size 28 (0, 0) (cellsH 0 0 0 (fun _ => false) nils)) := Lib.hid ((hg7.block _ hBm6.out.lt (fun e => by simp at e)).trans hBm6.out); clear hB7))
          refine bodyPost_ret (results_cct rfl _ rfl rfl hBm7.out hBc7.out Try.underlying28 rfl (by kernel_rfl) Try.underlying29 rfl (by kernel_rfl)) rfl ?_
          exact ⟨rfl, (hbW.grown hg6 hbW.size (fun k hk => by cases hk; exact Nat.le_refl _)).grown hg7 (Nat.le_trans hbW.size hg6.size) (fun k hk => by cases hk; exact Nat.le_succ _)⟩
end Go.Proofs.Ytbpkhnnfdjihdaa
