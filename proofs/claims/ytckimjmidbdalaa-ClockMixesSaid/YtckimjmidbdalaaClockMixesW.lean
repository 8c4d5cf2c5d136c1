/- ClockMixes: the walk. -/
import Derived.Test.YtckimjmidbdalaaAwk
namespace Go.Proofs.Ytckimjmidbdalaa
open Go.RowKit Go.ChangeShapes Go.WideShapes
theorem mix_eq (a b : Int) (ha0 : 0 ≤ a) (ha : a < 4294967296) (hb0 : 0 ≤ b) (hb : b < 4294967296) : (mixB (mixA a) == mixB (mixA b)) = (a == b) := by
  by_cases h : a = b
  · subst h; simp
  · have : ¬ mixB (mixA a) = mixB (mixA b) := fun e => h (mix_inj a b ha0 ha hb0 hb e)
    rw [beq_eq_false_iff_ne.2 h, beq_eq_false_iff_ne.2 this]
theorem drawS_lt (s x : Int) (h : 0 < x) : drawS s x < x := by
  unfold drawS; rw [if_neg (by omega)]; exact Int.tmod_lt_of_pos _ h
set_option maxHeartbeats 4000000 in
set_option maxRecDepth 100000 in
theorem clockMixes_walk {W : World} (p q s : Int) (hp0 : 0 ≤ p) (hp1 : p < 4294967296) (hq0 : 0 ≤ q) (hq1 : q < 4294967296) {a : Option Addr} {n c : Nat} {l : List Int} (h : Rd u64E W a n c l) (hwf : ∀ x ∈ l, 0 ≤ x ∧ x < 18446744073709551616) :
    Calls Try.prog 4 #[.int .u32 p, .int .u32 q, .int .u64 s, .slice a n c] W fun e w' => e = .returned (.bool true) ∧ Below W.heap.size W w' := by
  have hl := h.len
  subst hl
  have hH := Lib.hid h; clear h
  have hWf := Lib.hid hwf; clear hwf
  have hme := mix_eq p q hp0 hp1 hq0 hq1
  by_cases h60 : l.length ≤ 50
  · go_enter Try.func4, Try.ntmps4
    go_wp2_with fail
    refine awake_any.mono ?_
    rintro e W1 ⟨rfl, hb0⟩
    have hb1 := Lib.hid hb0
    have hz0 := hb0.size
    clear hb0
    generalize hS : (if s = 0 then 11400714819323198485 else s) = S0
    have n1 := fun w => new_chance s (w := w)
    rw [hS] at n1
    go_wp2_with (first | (go_at_call 14; refine (mix_any _).mono ?_; rintro e w1 ⟨rfl, rfl⟩) | (go_at_call 10; refine (n1 _).mono ?_; rintro e w1 ⟨rfl, hw1⟩))
    have hb2 : Below W.heap.size W w1 := by rw [hw1]; exact (hb1.out.alloc hz0 _).alloc (by simp; omega) _
    have hP : Hid (Blk w1 W1.heap.size 62 (0, 0) [.int .u64 S0]) := Lib.hid (by rw [hw1]; exact (Blk.new W1 62 (0, 0) #[.int .u64 S0]).alloc _)
    have hQ : Hid (Blk w1 (W1.heap.size + 1) 62 (0, 0) [.int .u64 S0]) := Lib.hid (by rw [hw1]; have := Blk.new (W1.alloc (.cells #[.int .u64 S0] 62)) 62 (0, 0) #[.int .u64 S0]; simpa using this)
    rw [← hw1]
    clear hw1 n1 hS
    go_loopw [12] (fun i wr => ∃ k : Nat, k ≤ l.length ∧ i = .int .i64 k ∧ Below W.heap.size W wr ∧ ∃ S1, Blk wr W1.heap.size 62 (0, 0) [.int .u64 S1] ∧ Blk wr (W1.heap.size + 1) 62 (0, 0) [.int .u64 S1])
      (fun i _ => l.length - (intOf i).toNat)
    case atStart => exact ⟨0, Nat.zero_le _, rfl, hb2, _, hP.out, hQ.out⟩
    case round =>
      obtain ⟨k, hk, rfl, hb, S1, hP1, hQ1⟩ := hrel
      clear hP hQ
      by_cases hlt : k < l.length
      · obtain ⟨b, o, rfl, hbl, hcs⟩ := rd_u64 hH.out (by omega)
        have hc := hcs k hlt
        have hx0 := (hWf.out l[k] (List.getElem_mem _)).1
        generalize hx : l[k] = x at *
        have hc' := cell_below hb hc
        have hP := Lib.hid hP1
        have hQ := Lib.hid hQ1
        have hsz := hb.size
        have hsz2 := hQ1.lt
        clear hP1 hQ1 hcs hx
        go_wp2_with fail
        go_region_held3 (fun w' => Below W.heap.size W w' ∧ w'.cell? ⟨b, o + k, none⟩ = some (.int .u64 x))
          (first | assumption | exact (fun hb => ⟨hb, cell_below hb hc⟩) (below_drewN hb _).drew | exact (fun hb => ⟨hb, cell_below hb hc⟩) (by assumption) | exact (fun hb => ⟨hb, cell_below hb hc⟩) (below_drewN (by assumption) _))
          (first | (go_at_call 12; refine (chance_draw (blk_same hP.out (by rfl)) x).mono ?_; rintro en w3 ⟨rfl, hB1, hg1⟩; have hPn := Lib.hid hB1; have hQn := Lib.hid (blk_keep hg1 hQ.out rfl (by omega)); have hb1 := below_grown (And.left (by assumption)) hg1 (by simp; omega) hz0; clear hP) | (go_at_call 12; refine (chance_draw (blk_same hQn.out (by rfl)) x).mono ?_; rintro en w4 ⟨rfl, hB2, hg2⟩; have hQm := Lib.hid hB2; have hPm := Lib.hid (blk_keep hg2 hPn.out rfl (by omega)); have hb2 := below_grown (And.left (by assumption)) hg2 (by have := hb1.size; simp; omega) (by omega)))
        have hc4 := And.right (show Below W.heap.size W w4 ∧ w4.cell? ⟨b, o + k, none⟩ = some (.int .u64 x) by assumption)
        by_cases hxz : x = 0
        · subst hxz
          have hd : drawS S1 0 = 0 := by unfold drawS; rfl
          go_wp2_with fail
          go_roundw
          case rel => exact ⟨k + 1, by omega, by go_num, by assumption, _, hPm.out, hQm.out⟩
          case measure => simp [intOf]; omega
        · have hd : decide (x ≤ drawS S1 x) = false := decide_eq_false (by have := drawS_lt S1 x (by omega); omega)
          have hx1 : 0 < x := by omega
          have hx2 : (x == 0) = false := beq_eq_false_iff_ne.2 hxz
          generalize drawS S1 x = d at *
          go_wp2_with fail
          go_roundw
          case rel => exact ⟨k + 1, by omega, by go_num, by assumption, _, hPm.out, hQm.out⟩
          case measure => simp [intOf]; omega
      · clear hP1 hQ1
        have hkk : k = l.length := by omega
        subst hkk
        go_wp2_with fail
        go_ret
        exact ⟨rfl, hb⟩
  · go_enter Try.func4, Try.ntmps4
    go_wp2_with fail
    refine awake_any.mono ?_
    rintro e W1 ⟨rfl, hb0⟩
    have hb1 := Lib.hid hb0
    clear hb0
    go_wp2_with (go_at_call 14; refine (mix_any _).mono ?_; rintro e w1 ⟨rfl, rfl⟩)
    all_goals go_ret
    all_goals exact ⟨by apply ret_bool; simp, hb1.out⟩
section
variable {H : Type} {enc : TypeId × Value → H}
theorem wf_u32 {q : Int} (h : (Lit.int .u32 q).wf = true) : 0 ≤ q ∧ q < 4294967296 := by
  simp [Lit.wf, IntKind.min, IntKind.max, IntKind.signed, IntKind.bits] at h
  omega
theorem clockMixes_law {W : World} {ts : List TypeId} {ds : List (DataW H)} (a : Int) (ha : (Lit.int .u32 a).wf = true) (b : Int) (hb : (Lit.int .u32 b).wf = true) (s : Int) (_ : (Lit.int .u64 s).wf = true) (v : Value) (d : DataW H) (p : List MemPlace) (h : DataW.Trod enc Try.prog W 0 (fun _ => true) true 23 v d p) {r : Reach} {b0 : Nat} (hv : Value.okWide Try.prog W r b0 23 v) (_ : (DataW.weightsEach Try.prog ts ds).all (· ≤ reachBytes) = true) (_ : World) :
    Calls Try.prog 4 #[.int .u32 a, .int .u32 b, .int .u64 s, v] W fun e w' => e = .returned (.bool true) ∧ Below W.heap.size W w' := by
  obtain ⟨ad, n, c, l, rfl, hr, hw⟩ := open_u64s hv h
  exact clockMixes_walk a b s (wf_u32 ha).1 (wf_u32 ha).2 (wf_u32 hb).1 (wf_u32 hb).2 hr hw
end
end Go.Proofs.Ytckimjmidbdalaa
