/- StreamBreaks: the walk. -/
import Derived.Test.YtmimbfikjnfhdaaStreamNoneW
namespace Go.Proofs.Ytmimbfikjnfhdaa
open Go.RowKit
theorem frames_alone (l : List UInt8) (h : 12 ≤ l.length) (h2 : l.length ≤ 65535) : frames ([] ++ frm l) = ([l], [], false) := by
  have := frames_frm l [] h h2
  rw [List.append_nil] at this
  rw [List.nil_append, this, frames_nil]
theorem frames_short (s : Nat) (h : s < 12) : frames ([] ++ [0, UInt8.ofNat s]) = ([], [0, UInt8.ofNat s], true) := by
  refine frames_bad (by simp) ?_
  have : numL (([] ++ [0, UInt8.ofNat s]).take 2) = s := by
    simp [numL]
    omega
  omega
set_option maxHeartbeats 16000000 in
set_option maxRecDepth 100000 in
theorem streamBreaks_walk {W : World} {a a' : Option Addr} {n c n' c' : Nat} {l l' : List UInt8} (h : Rd byteE W a n c l) (h' : Rd byteE W a' n' c' l') (short : Int) (hc48 : n ≤ 140737488355328) (hc48' : n' ≤ 140737488355328) :
    Calls Try.prog 6 #[.slice a n c, .int .i64 short, .slice a' n' c'] W fun e w' => e = .returned (.bool true) ∧ Below W.heap.size W w' := by
  have hl := h.len
  have hl' := h'.len
  have hH := Lib.hid h
  have hH' := Lib.hid h'
  clear h h'
  by_cases h300 : 300 < n
  · have hI : (300 : Int) < n := by omega
    go_enter Try.func6, Try.ntmps6
    go_wp2_with (go_at_call 32; refine (awake_any _).mono ?_; rintro e w1 ⟨rfl, k1⟩)
    go_ret
    exact ⟨rfl, k1⟩
  by_cases h300' : 300 < n'
  · have hI : (300 : Int) < n' := by omega
    have hI2 : ¬ ((300 : Int) < n) := by omega
    go_enter Try.func6, Try.ntmps6
    go_wp2_with (go_at_call 32; refine (awake_any _).mono ?_; rintro e w1 ⟨rfl, k1⟩)
    go_ret
    exact ⟨rfl, k1⟩
  have hI1 : ¬ ((300 : Int) < n') := by omega
  have hI2 : ¬ ((300 : Int) < n) := by omega
  by_cases h12 : n < 12
  · go_enter Try.func6, Try.ntmps6
    go_wp2_with (first | (go_at_call 32; refine (awake_any _).mono ?_; rintro e w1 ⟨rfl, k1⟩) | (go_at_call 19; refine (frame_short h12).mono ?_; rintro e w2 ⟨rfl, rfl⟩))
    go_ret
    exact ⟨rfl, k1⟩
  subst hl
  have hf1 := Lib.hid (frames_alone l (by omega) (by omega))
  obtain ⟨s, hs⟩ : ∃ s : Nat, short % 12 = s := ⟨(short % 12).toNat, by omega⟩
  have hs12 : s < 12 := by omega
  have hsI : (s : Int) < 12 := by omega
  have hsw : IntKind.u8.wrap (s : Int) = s := by rw [IntKind.wrap_u8]; omega
  go_enter Try.func6, Try.ntmps6
  go_wp2_with (go_at_call 32; refine (awake_any _).mono ?_; rintro e w1 ⟨rfl, k1⟩)
  refine (frame_ok (hH.out.ext k1) (by omega) (by omega)).mono ?_
  rintro e w2 ⟨⟨v2, rfl, hO2⟩, k2⟩
  have hk2 : Below W.heap.size W w2 := k1.trans (k2.mono k1.size)
  change Own byteE w2 w1.heap.size v2 (frm l) at hO2
  obtain ⟨a2, c2, e2, hR2⟩ := hO2.rd
  rw [frm_len] at e2 hR2
  subst e2
  have hR2' := Lib.hid hR2
  clear hR2 hO2
  go_wp2_with fail
  refine (new_any w2).mono ?_
  rintro e w3 ⟨rfl, hS3, k3⟩
  have hS3' := Lib.hid hS3
  clear hS3
  have hk3 : Below W.heap.size W w3 := hk2.trans (k3.mono hk2.size)
  go_wp2_with fail
  refine (feed_ok hS3'.out (hR2'.out.ext k3) (by rw [frm_len]; simp; omega) hf1.out).mono ?_
  rintro e w4 ⟨⟨a4, c4, rfl, hO4⟩, hS4, g4⟩
  rw [show [l].length = 1 from rfl] at hO4
  have hO4' := Lib.hid hO4
  have hS4' := Lib.hid hS4
  have hk4 : Below W.heap.size W w4 := below_grown hk3 g4 hk2.size (Nat.le_refl _)
  have k24 : Below w2.heap.size w2 w4 := below_grown k3 g4 (Nat.le_refl _) (Nat.le_refl _)
  clear hO4 hS4
  go_wp2_with fail
  refine (pick_any short 12 _ (by omega) (by omega)).mono ?_
  rw [hs]
  rintro e w5 ⟨rfl, rfl⟩
  go_wp2_with fail
  have kn : Below w4.heap.size w4 (w4.alloc (.cells #[.int .u8 0, .int .u8 s] 5)) := (Below.refl _ _).alloc (Nat.le_refl _) _
  have hrow : [Value.int .u8 0, .int .u8 s] = u8s [0, UInt8.ofNat s] := by rw [u8_lit s (by omega)]; rfl
  have hRd : Hid (Rd byteE (w4.alloc (.cells #[.int .u8 0, .int .u8 s] 5)) (some ⟨w4.heap.size, 0, none⟩) 2 2 [0, UInt8.ofNat s]) := Lib.hid (rd_blk (E := byteE) (X := [0, UInt8.ofNat s]) (by rw [rowOf_byte, ← hrow]; exact Blk.new w4 5 (0, 0) #[.int .u8 0, .int .u8 s]) 2 rfl (by decide))
  have hS5 := Lib.hid (hS4'.out.ext kn)
  have hM5 := Lib.hid (hO4'.out.ext kn)
  have hk5 : Below W.heap.size W (w4.alloc (.cells #[.int .u8 0, .int .u8 s] 5)) := hk4.trans (kn.mono hk4.size)
  generalize w4.alloc (.cells #[.int .u8 0, .int .u8 s] 5) = w5 at *
  have hlt3 : w2.heap.size < w3.heap.size := hS3'.out.lt
  refine (feed_bad hS5.out hRd.out (by simp) (frames_short s hs12)).mono ?_
  rintro e w6 ⟨rfl, hS6, g6⟩
  have hS6' := Lib.hid hS6
  have hk6 : Below W.heap.size W w6 := below_grown hk5 g6 hk2.size (Nat.le_refl _)
  have hM6 : Hid (OwnL w6 w3.heap.size (.slice a4 1 c4) [l]) := Lib.hid (hM5.out.keep (fun b hb hlt => g6.block b hlt (fun e => by cases e; omega)) g6.size)
  clear hS6 hrow
  go_wp2_with fail
  refine (feed_broken hS6'.out).mono ?_
  rintro e w7 ⟨rfl, rfl⟩
  go_wp2_with fail
  refine (feed_broken hS6'.out).mono ?_
  rintro e w7 ⟨rfl, rfl⟩
  go_wp2_with fail
  have kn6 : Below w6.heap.size w6 (w6.alloc (.cells #[.slice a l.length c] 41)) := (Below.refl _ _).alloc (Nat.le_refl _) _
  have hk7 : Below W.heap.size W (w6.alloc (.cells #[.slice a l.length c] 41)) := hk6.trans (kn6.mono hk6.size)
  have hL7 : Hid (RdL (w6.alloc (.cells #[.slice a l.length c] 41)) (some ⟨w6.heap.size, 0, none⟩) 1 1 [l]) := Lib.hid (by
    refine ⟨[(a, l.length, c)], rd_blk (E := slE) (Blk.new w6 41 (0, 0) #[.slice a l.length c]) 1 rfl (by decide), rfl, fun j p X hp hX => ?_⟩
    cases j with
    | succ j => simp at hp
    | zero =>
      simp only [List.getElem?_cons_zero, Option.some.injEq] at hp hX
      subst hp
      subst hX
      exact hH.out.ext hk7)
  have hM7 := Lib.hid (hM6.out.rdL.ext kn6)
  have hS7 := Lib.hid (hS6'.out.ext kn6)
  generalize w6.alloc (.cells #[.slice a l.length c] 41) = w7 at *
  refine (lists_any hM7.out hL7.out (by omega) (by omega)).mono ?_
  rw [show decide ([l] = [l]) = true by simp]
  rintro e w8 ⟨rfl, k8⟩
  have hS8 := Lib.hid (hS7.out.ext k8)
  have hk8 : Below W.heap.size W w8 := hk7.trans (k8.mono hk7.size)
  go_wp2_with fail
  refine (broken_any hS8.out).mono ?_
  rintro e w9 ⟨rfl, rfl⟩
  go_wp2_with fail
  refine (waiting_any hS8.out).mono ?_
  rw [show ([] : List UInt8).length = 0 from rfl]
  rintro e w9 ⟨rfl, rfl⟩
  go_wp2_with fail
  go_ret
  exact ⟨rfl, hk8⟩
theorem streamBreaks_law {W : World} (a : Option Addr) (n c : Nat) (l : List UInt8) (h : RB W a n c l) (x : Int) (_ : (Lit.int .i64 x).wf = true) (a' : Option Addr) (n' c' : Nat) (l' : List UInt8) (h' : RB W a' n' c' l') (_ : World) :
    Calls Try.prog 6 #[.slice a n c, .int .i64 x, .slice a' n' c'] W fun e w' => e = .returned (.bool true) ∧ Below W.heap.size W w' := by
  have h1 := h.rd.cap
  have h2 := h.most
  have h3 := h'.rd.cap
  have h4 := h'.most
  simp only [reachBytes] at h2 h4
  exact streamBreaks_walk h.rd h'.rd x (by omega) (by omega)
end Go.Proofs.Ytmimbfikjnfhdaa
