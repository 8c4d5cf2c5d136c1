/- plain: a remark that it takes has at most 300 bytes and no byte 10. -/
import Derived.Test.YtojdjhicjhhblaaDoorPlA
import Derived.Test.YtojdjhicjhhblaaDoorPlP
namespace Go.Proofs.YtojdjhicjhhblaaDoor
open Go Go.RowKit
def IaP (s : List UInt8) (w : World) (e : Ending) (w' : World) : Prop := ∃ k : Int, e = .returned (.int .i64 k) ∧ (k < 0 → ∀ b ∈ s, ¬ b = 10) ∧ Below w.heap.size w w'
set_option maxHeartbeats 4000000 in
set_option maxRecDepth 100000 in
theorem iany_short (w : World) (s : List UInt8) (h8 : s.length ≤ 8) : Calls Tryd.prog 24 #[.string (mk s), .string ⟨#[10, 34, 92]⟩] w (IaP s w) := by
  have h8z : decide ((8 : Int) < (s.length : Int)) = false := decide_eq_false (by omega)
  have h8I : (s.length : Int) ≤ 8 := by omega
  go_enter Tryd.func24, Tryd.ntmps24
  go_wp2_with (go_at_call 38; refine (Tryd.strings_shouldUseASCIISet _ _).mono ?_; rintro e w' ⟨rfl, hw⟩; rw [hw, h8z])
  go_loopg [9, 10] s.length (fun g _ _ wx => ∃ i : Nat, i ≤ s.length ∧ s.length ≤ i + g ∧ wx.heap[w.heap.size]? = some (.stringIter (mk s) i) ∧ Below w.heap.size w wx ∧ No10 s i)
  case atStart => exact ⟨0, Nat.zero_le _, by omega, World.iter_heap w (mk s) 0, (Below.refl _ _).alloc (Nat.le_refl _) _, fun j b hj => absurd hj (Nat.not_lt_zero _)⟩
  case round =>
    obtain ⟨i, hi1, hi2, hit, hb, hno⟩ := hrel
    by_cases hlt : i < s.length
    · obtain ⟨g, rfl⟩ : ∃ g, gk = g + 1 := ⟨gk - 1, by omega⟩
      have hnx : ∀ ty, (Instr.next (.pointer (some ⟨w.heap.size, 0, none⟩)) true ty).run Tryd.prog wr = _ := fun ty => Lib.run_next_any_at wr w.heap.size (mk s) i ty hit (by rw [size_mk]; exact hlt)
      obtain ⟨d1, d2, d3⟩ := dec_bounds s i hlt
      have hstep := fun hr => hno.step (i := i) hr
      obtain ⟨R, hR⟩ : ∃ R, (Utf8.decode (mk s) i).1 = R := ⟨_, rfl⟩
      obtain ⟨K, hK⟩ : ∃ K, (Utf8.decode (mk s) i).2 = K := ⟨_, rfl⟩
      rw [hK] at d1 d2
      rw [hR] at d3
      simp only [hR, hK] at hnx hstep
      have hit2 := Lib.iterAt_heap wr w.heap.size (mk s) i (i + K) hit
      have hb2 := Lib.below_iterAt hb (k := w.heap.size) (Nat.le_refl _) (mk s) (i + K)
      obtain ⟨W, hW⟩ : ∃ W, wr.iterAt w.heap.size (mk s) (i + K) = W := ⟨_, rfl⟩
      rw [hW] at hnx hit2 hb2
      have hc := irune_any W R d3
      have hs2 := Lib.hid hstep
      have hit3 := Lib.hid hit2
      have hb3 := Lib.hid hb2
      have hlt2 : w.heap.size < W.heap.size := (Array.getElem?_eq_some_iff.1 hit2).1
      have hn := Lib.hid hno
      have d3' := Lib.hid d3
      have d1' := Lib.hid d1
      have d2' := Lib.hid d2
      have hlt3 := Lib.hid hlt2
      have hi2' := Lib.hid hi2
      have hx : i < 8 := by omega
      have hxI : (i : Int) < 8 := by omega
      clear hR hK hstep hit2 hb2 hW hit hb hno d3 d1 d2 hlt2 hi2 hi1
      by_cases h10 : R = 10 ∨ R = 34 ∨ R = 92
      · have e0 : (0 : Int) ≤ irk R := by unfold irk; rcases h10 with rfl | rfl | rfl <;> decide
        obtain ⟨k, hk⟩ : ∃ k, irk R = k := ⟨_, rfl⟩
        rw [hk] at e0 hc
        clear hk h10
        go_wp2_with (go_at_call 37; refine hc.mono ?_; rintro e w' ⟨rfl, k1⟩)
        go_ret
        exact ⟨i, rfl, fun h => absurd h (by omega), hb3.out.trans (k1.mono (by have := hlt3.out; omega))⟩
      · have e0 : irk R = -1 := by unfold irk; rw [if_neg (fun e => h10 (.inl e)), if_neg (fun e => h10 (.inr (.inl e))), if_neg (fun e => h10 (.inr (.inr e)))]
        have hne := Lib.hid (hs2.out (fun e => h10 (.inl e)))
        rw [e0] at hc
        clear e0 h10 hs2
        go_wp2_with (go_at_call 37; refine hc.mono ?_; rintro e w' ⟨rfl, k1⟩)
        go_roundg g
        case measure => omega
        case rel => exact ⟨i + K, d2'.out, by have := hi2'.out; have := d1'.out; omega, (k1.block _ hlt3.out).trans hit3.out, hb3.out.trans (k1.mono (by have := hlt3.out; omega)), hne.out⟩
    · obtain rfl : i = s.length := by omega
      have hnx : ∀ ty, (Instr.next (.pointer (some ⟨w.heap.size, 0, none⟩)) true ty).run Tryd.prog wr = .ok (.tuple #[.bool false]) wr := fun ty => Lib.run_next_end_at wr w.heap.size (mk s) s.length ty hit (by rw [size_mk]; omega)
      have hn := Lib.hid hno
      have hb3 := Lib.hid hb
      clear hno hb hit hi1 hi2
      go_wp2
      go_ret
      exact ⟨-1, rfl, fun _ => hn.out.all (Nat.le_refl _), hb3.out⟩
theorem ascii3 : ∀ (j : Nat) b, (⟨#[10, 34, 92]⟩ : ByteArray).data.toList[j]? = some b → b.toNat < 128
  | 0, b, h => by cases h; decide
  | 1, b, h => by cases h; decide
  | 2, b, h => by cases h; decide
  | j + 3, b, h => by cases h
theorem iany_any (w : World) (s : List UInt8) (hs : s.length ≤ 1048576) : Calls Tryd.prog 24 #[.string (mk s), .string ⟨#[10, 34, 92]⟩] w (IaP s w) := by
  by_cases h8 : s.length ≤ 8
  · exact iany_short w s h8
  refine (Tryd.strings_IndexAny_long (fun _ => by kernel_rfl) (mk s) ⟨#[10, 34, 92]⟩ w (by decide) (by rw [size_mk]; omega) (by rw [size_mk]; omega) (by decide) ascii3).mono ?_
  rintro e w' ⟨rfl, rfl⟩
  exact ⟨_, rfl, fun h => ia_no s h, ((Below.refl _ w).alloc (Nat.le_refl _) _).alloc (by simp) _⟩
def CaP (s : List UInt8) (w : World) (e : Ending) (w' : World) : Prop := ∃ bv : Bool, e = .returned (.bool bv) ∧ (bv = false → ∀ b ∈ s, ¬ b = 10) ∧ Below w.heap.size w w'
set_option maxHeartbeats 4000000 in
set_option maxRecDepth 100000 in
theorem cany_any (w : World) (s : List UInt8) (hs : s.length ≤ 1048576) : Calls Tryd.prog 14 #[.string (mk s), .string ⟨#[10, 34, 92]⟩] w (CaP s w) := by
  have hc := iany_any w s hs
  clear hs
  go_enter Tryd.func14, Tryd.ntmps14
  go_wp2_with fail
  refine hc.mono ?_
  rintro e w1 ⟨k, rfl, hk, k1⟩
  have hk2 := Lib.hid hk
  have hb := Lib.hid k1
  clear hk k1 hc
  by_cases h0 : k < 0
  · have e0 : decide ((0 : Int) ≤ k) = false := decide_eq_false (by omega)
    have hk3 := Lib.hid (hk2.out h0)
    clear hk2
    go_wp2_with fail
    go_ret
    exact ⟨_, rfl, fun _ => hk3.out, hb.out⟩
  · have e0 : decide ((0 : Int) ≤ k) = true := decide_eq_true (by omega)
    clear hk2
    go_wp2_with fail
    go_ret
    exact ⟨true, rfl, fun h => absurd h (by decide), hb.out⟩
def PlainP (s : List UInt8) (w : World) (e : Ending) (w' : World) : Prop := ∃ bv : Bool, e = .returned (.bool bv) ∧ (bv = true → s.length ≤ 300 ∧ ∀ b ∈ s, ¬ b = 10) ∧ Below w.heap.size w w'
set_option maxHeartbeats 4000000 in
set_option maxRecDepth 100000 in
theorem plain_any (w : World) (s : List UInt8) (hs : s.length ≤ 1048576) : Calls Tryd.prog 6 #[.string (mk s)] w (PlainP s w) := by
  have hc := cany_any w s hs
  have hsI : (s.length : Int) ≤ 1048576 := by omega
  clear hs
  go_enter Tryd.func6, Tryd.ntmps6
  go_wp2_with fail
  refine hc.mono ?_
  rintro e w1 ⟨bv, rfl, hk, k1⟩
  have hk2 := Lib.hid hk
  have hb := Lib.hid k1
  clear hk k1 hc
  cases bv with
  | true =>
    clear hk2
    go_wp2_with fail
    go_ret
    exact ⟨false, rfl, fun h => absurd h (by decide), hb.out⟩
  | false =>
    have hk3 := Lib.hid (hk2.out rfl)
    clear hk2
    by_cases h3 : s.length ≤ 300
    · have e0 : decide ((s.length : Int) ≤ 300) = true := decide_eq_true (by omega)
      have h3' := Lib.hid h3
      clear h3
      go_wp2_with fail
      go_ret
      exact ⟨true, rfl, fun _ => ⟨h3'.out, hk3.out⟩, hb.out⟩
    · have e0 : decide ((s.length : Int) ≤ 300) = false := decide_eq_false (by omega)
      clear h3
      go_wp2_with fail
      go_ret
      exact ⟨false, rfl, fun h => absurd h (by decide), hb.out⟩
end Go.Proofs.YtojdjhicjhhblaaDoor
