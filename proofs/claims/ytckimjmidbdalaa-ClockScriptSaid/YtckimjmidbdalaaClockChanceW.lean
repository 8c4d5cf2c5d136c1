/- ClockChance: the walk. -/
import Derived.Test.YtckimjmidbdalaaChR
import Derived.Test.YtckimjmidbdalaaOpenB
namespace Go.Proofs.Ytckimjmidbdalaa
open Go.RowKit Go.ChangeShapes Go.WideShapes
def u64E : Enc Int := ⟨22, 1, fun n => [.int .u64 n], 0, fun _ => rfl, fun x v hv => by simp at hv; subst hv; rfl, by decide⟩
theorem wf_u64 {q : Int} (h : (Lit.int .u64 q).wf = true) : 0 ≤ q ∧ q < 18446744073709551616 := by
  simp [Lit.wf, IntKind.min, IntKind.max, IntKind.signed, IntKind.bits] at h
  omega
section
variable {H : Type} {enc : TypeId × Value → H} {w : World}
theorem open_u64s {v : Value} {d : DataW H} {p : List MemPlace} {r : Reach} {b0 : Nat} (hv : Value.okWide Try.prog w r b0 23 v) (h : DataW.Trod enc Try.prog w 0 (fun _ => true) true 23 v d p) :
    ∃ a n c l, v = .slice a n c ∧ Rd u64E w a n c l ∧ ∀ x ∈ l, 0 ≤ x ∧ x < 18446744073709551616 := by
  obtain ⟨a0, n0, c0, rfl⟩ := okWide_slice Try.underlying23 hv
  obtain ⟨fuel, hf⟩ := h
  rcases open_ints Try.underlying23 Try.underlying22 (by kernel_rfl) hf with ⟨hcs, _⟩ | ⟨x, len, cap, zs, hcs, _, hl, hm, hz, hx, hcell, hwz⟩
  · simp [Value.cells] at hcs
    obtain ⟨rfl, rfl, rfl⟩ := hcs
    exact ⟨none, 0, 0, [], rfl, Rd.nil _ _, by simp⟩
  · simp [Value.cells] at hcs
    obtain ⟨rfl, rfl, rfl⟩ := hcs
    have hz' : zs.length = c0 := by simpa using hz
    refine ⟨_, n0, c0, _, rfl, rd_of (E := u64E) rfl (g := fun i => zs.getD i 0) (f := fun c => .int .u64 c) (fun _ => rfl) (m := c0) hl hl hm (fun i hi => hcell i (by omega)), ?_⟩
    intro x hx
    simp only [List.mem_map, List.mem_range] at hx
    obtain ⟨i, hi, rfl⟩ := hx
    refine wf_u64 (hwz _ ?_)
    rw [List.getD_eq_getElem?_getD, List.getElem?_eq_getElem (by omega : i < zs.length)]
    exact List.getElem_mem _
end
theorem rd_u64 {w : World} {a : Option Addr} {n c : Nat} {l : List Int} (h : Rd u64E w a n c l) (h0 : 0 < n) : ∃ b o, a = some ⟨b, o, none⟩ ∧ b < w.heap.size ∧ ∀ j (hj : j < l.length), w.cell? ⟨b, o + j, none⟩ = some (.int .u64 l[j]) := by
  obtain ⟨b, o, h1, h3, h2⟩ := h.addr h0
  exact ⟨b, o, h1, h3, fun j hj => by have := h2 j hj 0 (by decide); simpa [u64E] using this⟩
theorem below_drewN {B : Nat} {w w' : World} (h : Below B w w') (n : Nat) : Below B w (w'.drewN n) := ⟨h.os, h.tape, h.output, h.size, h.block⟩
theorem cell_below {w0 w' : World} {p : Addr} {v : Value} (hb : Below w0.heap.size w0 w') (h : w0.cell? p = some v) : w'.cell? p = some v :=
  (World.cell?_of_block (hb.block _ (World.block_lt_of_cell? w0 _ h))).trans h
theorem below_grown {B g : Nat} {w0 w w' : World} (h : Below B w0 w) (hg : w.grownBy w' (some g)) (hB : B ≤ w.heap.size) (hle : B ≤ g) : Below B w0 w' := h.grown hg hB fun k hk => by cases hk; exact hle
theorem blk_same {w w' : World} {g e : Nat} {fz : Nat × Nat} {C : List Value} (h : Blk w g e fz C) (hh : w'.heap = w.heap) : Blk w' g e fz C := (congrArg (·[g]?) hh).trans h
theorem blk_keep {w0 w w' : World} {g g' e : Nat} {fz : Nat × Nat} {C : List Value} (hg : w.grownBy w' (some g')) (h : Blk w0 g e fz C) (hh : w.heap = w0.heap) (hne : g ≠ g') : Blk w' g e fz C :=
  (hg.block g (blk_same h hh).lt (fun e => hne (by cases e; rfl))).trans (blk_same h hh)
theorem nextS_in (s n : Int) (h0 : 0 ≤ s) (h1 : s < 18446744073709551616) : 0 ≤ nextS s n ∧ nextS s n < 18446744073709551616 := by
  unfold nextS; split
  · exact ⟨h0, h1⟩
  · exact xs_in s

set_option maxHeartbeats 4000000 in
set_option maxRecDepth 100000 in
theorem clockChance_walk {W : World} (s m : Int) {a : Option Addr} {n c : Nat} {l : List Int} (h : Rd u64E W a n c l) :
    Calls Try.prog 3 #[.int .u64 s, .slice a n c, .int .u32 m] W fun e w' => e = .returned (.bool true) ∧ Below W.heap.size W w' := by
  have hl := h.len
  subst hl
  have hH := Lib.hid h; clear h
  by_cases h60 : l.length ≤ 100
  · go_enter Try.func3, Try.ntmps3
    generalize hS : (if s = 0 then 11400714819323198485 else s) = S0
    have n1 := fun w => new_chance s (w := w)
    have n2 := fun w => rnew_chance s (w := w)
    rw [hS] at n1 n2
    go_wp2_with (first | (go_at_call 10; refine (n1 _).mono ?_; rintro e w1 ⟨rfl, hw1⟩) | (go_at_call 11; refine (n2 _).mono ?_; rintro e w2 ⟨rfl, hw2⟩))
    have hb2 : Below W.heap.size W w2 := by rw [hw2]; exact ((Below.refl _ W).alloc (Nat.le_refl _) _).alloc (by simp) _
    have hP : Hid (Blk w2 W.heap.size 62 (0, 0) [.int .u64 S0]) := Lib.hid (by rw [hw2]; exact (Blk.new W 62 (0, 0) #[.int .u64 S0]).alloc _)
    have hQ : Hid (Blk w2 (W.heap.size + 1) 65 (0, 0) [.int .u64 S0]) := Lib.hid (by rw [hw2]; have := Blk.new (W.alloc (.cells #[.int .u64 S0] 62)) 65 (0, 0) #[.int .u64 S0]; simpa using this)
    rw [← hw2]
    clear hw1 hw2 n1 n2 hS
    go_loopw [9] (fun i wr => ∃ k : Nat, k ≤ l.length ∧ i = .int .i64 k ∧ Below W.heap.size W wr ∧ ∃ S1, Blk wr W.heap.size 62 (0, 0) [.int .u64 S1] ∧ Blk wr (W.heap.size + 1) 65 (0, 0) [.int .u64 S1])
      (fun i _ => l.length - (intOf i).toNat)
    case atStart => exact ⟨0, Nat.zero_le _, rfl, hb2, _, hP.out, hQ.out⟩
    case round =>
      obtain ⟨k, hk, rfl, hb, S1, hP1, hQ1⟩ := hrel
      clear hP hQ
      by_cases hlt : k < l.length
      · obtain ⟨b, o, rfl, hbl, hcs⟩ := rd_u64 hH.out (by omega)
        have hc := hcs k hlt
        generalize hx : l[k] = x at *
        have hc' := cell_below hb hc
        have hP := Lib.hid hP1
        have hQ := Lib.hid hQ1
        have hsz := hb.size
        have hsz2 := hQ1.lt
        clear hP1 hQ1 hcs
        go_wp2_with fail
        go_region_held3 (fun w' => Below W.heap.size W w' ∧ w'.cell? ⟨b, o + k, none⟩ = some (.int .u64 x))
          (first | assumption | exact (fun hb => ⟨hb, cell_below hb hc⟩) (below_drewN hb _).drew | exact (fun hb => ⟨hb, cell_below hb hc⟩) (by assumption) | exact (fun hb => ⟨hb, cell_below hb hc⟩) (below_drewN (by assumption) _))
          (first | (go_at_call 12; refine (chance_draw (blk_same hP.out (by rfl)) x).mono ?_; rintro en w3 ⟨rfl, hB1, hg1⟩; have hPn := Lib.hid hB1; have hQn := Lib.hid (blk_keep hg1 hQ.out rfl (by omega)); have hb1 := below_grown (And.left (by assumption)) hg1 (by simp; omega) (Nat.le_refl _)) | (go_at_call 13; refine (rchance_draw (blk_same hQn.out (by rfl)) x).mono ?_; rintro en w4 ⟨rfl, hB2, hg2⟩; have hQm := Lib.hid hB2; have hPm := Lib.hid (blk_keep hg2 hPn.out rfl (by omega)); have hb2 := below_grown (And.left (by assumption)) hg2 (by have := hb1.size; simp; omega) (by omega)))
        go_wp2_with fail
        go_roundw
        case rel => exact ⟨k + 1, by omega, by go_num, by assumption, _, hPm.out, hQm.out⟩
        case measure => simp [intOf]; omega
      · have hP := Lib.hid hP1
        have hQ := Lib.hid hQ1
        clear hP1 hQ1
        have m1 := fun w => mix_any m (w := w)
        have m2 := fun w => rmix_any m (w := w)
        go_wp2_with (first | (go_at_call 14; refine (m1 _).mono ?_; rintro e w1 ⟨rfl, rfl⟩) | (go_at_call 15; refine (m2 _).mono ?_; rintro e w2 ⟨rfl, rfl⟩))
        go_ret
        exact ⟨by apply ret_bool; simp, hb⟩
  · go_enter Try.func3, Try.ntmps3
    go_wp2
    go_ret
    exact ⟨rfl, Below.refl _ _⟩
section
variable {H : Type} {enc : TypeId × Value → H}
theorem clockChance_law {W : World} {ts : List TypeId} {ds : List (DataW H)} (s : Int) (_ : (Lit.int .u64 s).wf = true) (v : Value) (d : DataW H) (p : List MemPlace) (h : DataW.Trod enc Try.prog W 0 (fun _ => true) true 23 v d p) {r : Reach} {b0 : Nat} (hv : Value.okWide Try.prog W r b0 23 v) (_ : (DataW.weightsEach Try.prog ts ds).all (· ≤ reachBytes) = true) (m : Int) (_ : (Lit.int .u32 m).wf = true) (_ : World) :
    Calls Try.prog 3 #[.int .u64 s, v, .int .u32 m] W fun e w' => e = .returned (.bool true) ∧ Below W.heap.size W w' := by
  obtain ⟨a, n, c, l, rfl, hr, _⟩ := open_u64s hv h
  exact clockChance_walk s m hr
end
end Go.Proofs.Ytckimjmidbdalaa
