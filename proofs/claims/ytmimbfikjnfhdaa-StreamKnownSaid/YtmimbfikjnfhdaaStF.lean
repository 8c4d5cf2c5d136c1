/- Feed, case by case; awake 32. -/
import Derived.Test.YtmimbfikjnfhdaaStE
namespace Go.Proofs.Ytmimbfikjnfhdaa
open Go.RowKit
theorem below_grown {B r : Nat} {W u v : World} (h : Below B W u) (g : u.grownBy v (some r)) (hr : B ≤ r) (hB : B ≤ W.heap.size) : Below B W v :=
  ⟨g.os.trans h.os, g.tape.trans h.tape, g.output.trans h.output, Nat.le_trans h.size g.size, fun i hi => (g.block i (by have := h.size; omega) (fun e => by cases e; omega)).trans (h.block i hi)⟩
theorem feed_ok {w : World} {g : Nat} {buf b r : List UInt8} {O : List (List UInt8)} {a : Option Addr} {n c : Nat} (hS : StR w g buf false) (h : Rd byteE w a n c b) (hlen : buf.length + b.length ≤ 57000) (hF : frames (buf ++ b) = (O, r, false)) :
    Calls Try.prog 24 #[.pointer (some ⟨g, 0, none⟩), .slice a n c] w fun e w' => (∃ a' c', e = .returned (.tuple #[.slice a' O.length c', .int .i64 0]) ∧ OwnL w' w.heap.size (.slice a' O.length c') O) ∧ StR w' g r false ∧ w.grownBy w' (some g) := by
  refine (feed_any hS h hlen).mono ?_
  rintro e w' ⟨h1, hg⟩
  rw [hF] at h1
  rcases h1 with ⟨h1, _⟩ | ⟨_, ⟨v, rfl, ho⟩, hs⟩
  · cases h1
  · obtain ⟨a', c', rfl⟩ := ho.shape
    exact ⟨⟨a', c', rfl, ho⟩, hs.toR, hg⟩
theorem feed_okL {w : World} {g : Nat} {buf b r : List UInt8} {O : List (List UInt8)} {a : Option Addr} {n c : Nat} (hS : StR w g buf false) (h : Rd byteE w a n c b) (hlen : buf.length + b.length ≤ 57000) (hF : frames (buf ++ b) = (O, r, false)) :
    Calls Try.prog 24 #[.pointer (some ⟨g, 0, none⟩), .slice a n c] w fun e w' => (∃ a' c', e = .returned (.tuple #[.slice a' O.length c', .int .i64 0]) ∧ OwnL w' w.heap.size (.slice a' O.length c') O) ∧ StRL w' g r false w.heap.size ∧ w.grownBy w' (some g) := by
  refine (feed_any hS h hlen).mono ?_
  rintro e w' ⟨h1, hg⟩
  rw [hF] at h1
  rcases h1 with ⟨h1, _⟩ | ⟨_, ⟨v, rfl, ho⟩, hs⟩
  · cases h1
  · obtain ⟨a', c', rfl⟩ := ho.shape
    exact ⟨⟨a', c', rfl, ho⟩, hs, hg⟩
theorem feed_bad {w : World} {g : Nat} {buf b r : List UInt8} {O : List (List UInt8)} {a : Option Addr} {n c : Nat} (hS : StR w g buf false) (h : Rd byteE w a n c b) (hlen : buf.length + b.length ≤ 57000) (hF : frames (buf ++ b) = (O, r, true)) :
    Calls Try.prog 24 #[.pointer (some ⟨g, 0, none⟩), .slice a n c] w fun e w' => e = .returned (.tuple #[.slice none 0 0, .int .i64 340]) ∧ StR w' g [] true ∧ w.grownBy w' (some g) := by
  refine (feed_any hS h hlen).mono ?_
  rintro e w' ⟨h1, hg⟩
  rw [hF] at h1
  rcases h1 with ⟨_, rfl, hs⟩ | ⟨h1, _⟩
  · exact ⟨rfl, hs, hg⟩
  · cases h1
theorem feed_broken {w : World} {g : Nat} {a : Option Addr} {n c : Nat} (hS : StR w g [] true) :
    Calls Try.prog 24 #[.pointer (some ⟨g, 0, none⟩), .slice a n c] w fun e w' => e = .returned (.tuple #[.slice none 0 0, .int .i64 340]) ∧ w = w' := by
  obtain ⟨a0, c0, hB, _, _⟩ := hS
  have k1 : w.cell? ⟨g, 1, none⟩ = some (.bool true) := by rw [hB.cell]; rfl
  have k2 : w.cell? ⟨g, 2, none⟩ = some (.bool true) := by rw [hB.cell]; rfl
  clear hB
  go_enter Try.func24, Try.ntmps24
  go_wp2_with fail
  ((try simp only [Exit.inBlock, Exit.then]); refine bodyPost_ret (results_tmp2 rfl _ _ _) rfl ?_)
  exact ⟨rfl, rfl⟩
def twl : List UInt8 := List.replicate 12 7
def frm (l : List UInt8) : List UInt8 := be16 l.length ++ l
theorem frm_len (l : List UInt8) : (frm l).length = l.length + 2 := by rw [frm, List.length_append, Nat.add_comm]; rfl
theorem frm_two (l r : List UInt8) : (frm l ++ r).take 2 = be16 l.length := by simp [frm, be16]
theorem frm_num (l r : List UInt8) (h : l.length ≤ 65535) : numL ((frm l ++ r).take 2) = l.length := by rw [frm_two, numL_be16 _ h]
/-- a frame and what stands behind it -/
theorem frames_frm (l r : List UInt8) (h : 12 ≤ l.length) (h2 : l.length ≤ 65535) : frames (frm l ++ r) = (l :: (frames r).1, (frames r).2) := by
  have hn := frm_num l r h2
  have hl : (frm l ++ r).length = l.length + 2 + r.length := by rw [List.length_append, frm_len]
  rw [frames_one (by omega) (by omega) (by omega), hn]
  have e1 : (frm l ++ r).drop (2 + l.length) = r := List.drop_left' (by rw [frm_len]; omega)
  have e2 : ((frm l ++ r).drop 2).take l.length = l := by
    rw [frm, List.append_assoc, List.drop_left' (by simp [be16]), List.take_left' rfl]
  rw [e1, e2]
theorem frames_nil : frames [] = ([], [], false) := frames_few (by simp)
theorem frames_zero : frames [0] = ([], [0], false) := frames_few (by simp)
theorem frm_twl : frm twl = [0, 12, 7, 7, 7, 7, 7, 7, 7, 7, 7, 7, 7, 7] := by decide
theorem frames_five : frames ([] ++ (frm twl).take 5) = ([], (frm twl).take 5, false) := by
  rw [frm_twl]
  exact frames_wait (by decide) (by decide) (by decide)
theorem frames_rest : frames ((frm twl).take 5 ++ ((frm twl).drop 5 ++ [0])) = ([twl], [0], false) := by
  rw [← List.append_assoc, List.take_append_drop, frames_frm _ _ (by decide) (by decide), frames_zero]
theorem copy_cb {w : World} {a : Option Addr} {n c : Nat} {l : List UInt8} (h : Rd byteE w a n c l) (hn : n ≤ 140737488355328) :
    Calls Try.prog 44 #[.slice a n c] w fun e w' => (∃ a' c', e = .returned (.slice a' l.length c') ∧ Own byteE w' w.heap.size (.slice a' l.length c') l) ∧ Below w.heap.size w w' := by
  refine (copy_bytes h hn).mono ?_
  rintro e w' ⟨⟨v, rfl, ho⟩, hb⟩
  obtain ⟨a', c', rfl⟩ := ho.shape
  exact ⟨⟨a', c', rfl, ho⟩, hb⟩
set_option maxHeartbeats 16000000 in
set_option maxRecDepth 100000 in
theorem awake_any (w : World) : Calls Try.prog 32 #[] w fun e w' => e = .returned (.bool true) ∧ Below w.heap.size w w' := by
  obtain ⟨i0, hi, hz0, hz1, hz2⟩ := info_parts Try.info5
  go_enter Try.func32, Try.ntmps32
  go_wp2_with fail
  refine (twelve_any 12 7 w (by omega)).mono ?_
  rintro e w1 ⟨rfl, hB1, k1⟩
  have hX1 : Hid (Rd byteE w1 (some ⟨w.heap.size, 0, none⟩) 12 12 twl) := Lib.hid (rd_blk (E := byteE) (X := twl) (by rw [rowOf_byte]; exact hB1) 12 rfl (by decide))
  clear hB1
  go_wp2_with fail
  refine (frame_ok hX1.out (by omega) (by omega)).mono ?_
  rintro e w2 ⟨⟨v2, rfl, hO2⟩, k2⟩
  have hk2 : Below w.heap.size w w2 := k1.trans (k2.mono k1.size)
  change Own byteE w2 w1.heap.size v2 (frm twl) at hO2
  obtain ⟨a2, c2, e2, hR2⟩ := hO2.rd
  rw [show (frm twl).length = 14 from rfl] at e2 hR2
  subst e2
  have hR2' := Lib.hid hR2
  clear hR2 hO2
  go_wp2_with fail
  refine (new_any w2).mono ?_
  rintro e w3 ⟨rfl, hS3, k3⟩
  have hS3' := Lib.hid hS3
  clear hS3
  have hk3 : Below w.heap.size w w3 := hk2.trans (k3.mono hk2.size)
  obtain ⟨b2, o2, e2, _, hc2⟩ := (hR2'.out.ext k3).addr (by omega)
  subst e2
  have hcell : w3.cell? ⟨b2, o2 + 1, none⟩ = some (.int .u8 12) := by
    have := hc2 1 (by decide) 0 (by decide)
    exact this
  clear hc2
  obtain ⟨a5, hs5, hr5⟩ := cut_h (P := Try.prog) (hR2'.out.ext k3) 41 Try.underlying41 (by kernel_rfl) .i64 5 5 rfl (by omega)
  have hr5' := Lib.hid hr5
  clear hr5
  go_wp2_with fail
  refine (feed_ok hS3'.out hr5'.out (by decide) frames_five).mono ?_
  rintro e w4 ⟨⟨a4, c4, rfl, hO4⟩, hS4, g4⟩
  have hS4' := Lib.hid hS4
  have hk4 : Below w.heap.size w w4 := below_grown hk3 g4 hk2.size (Nat.le_refl _)
  have k24 : Below w2.heap.size w2 w4 := below_grown k3 g4 (Nat.le_refl _) (Nat.le_refl _)
  clear hO4 hS4
  go_wp2_with fail
  refine (waiting_any hS4'.out).mono ?_
  rw [show ((frm twl).take 5).length = 5 from rfl]
  rintro e w5 ⟨rfl, rfl⟩
  obtain ⟨a6, hs6, hr6⟩ := cut_l (P := Try.prog) (hR2'.out.ext k24) 41 Try.underlying41 (by kernel_rfl) .i64 5 5 rfl (by omega)
  have hr6' := Lib.hid hr6
  clear hr6
  go_wp2_with fail
  refine (copy_cb hr6'.out (by omega)).mono ?_
  rw [show ((frm twl).drop 5).length = 9 from rfl]
  rintro e w5 ⟨⟨a7, c7, rfl, hO7⟩, k7⟩
  have kn : Below w5.heap.size w5 (w5.alloc (.cells #[.int .u8 0] 5)) := (Below.refl _ _).alloc (Nat.le_refl _) _
  have k45 : Below w4.heap.size w4 (w5.alloc (.cells #[.int .u8 0] 5)) := k7.trans (kn.mono k7.size)
  have ho7 := Lib.hid (hO7.ext kn)
  have hsrc := Lib.hid ((rd_blk (E := byteE) (X := [0]) (Blk.new w5 5 (0, 0) #[.int .u8 0]) 1 rfl (by decide)).src (P := Try.prog) (tx := 41) Try.underlying41)
  have hsz5 := k45.size
  clear hO7
  generalize hW5 : w5.alloc (.cells #[.int .u8 0] 5) = w6 at *
  go_wp2_with (at_builtin; refine app_own (E := byteE) rfl (.tmp 41) (.tmp 42) 41 41 rfl Try.underlying41 hi hz0 hz1 hz2 rfl rfl ho7.out rfl hsrc.out ?c1 ?c2 ?c3 ?_)
  case c1 => simp [maxLen, frm_twl]
  case c2 => simp [frm_twl]
  case c3 => exact hsz5
  intro v8 w8 h8 hg8 _
  have k48 : Below w4.heap.size w4 w8 := own_below k45 hg8 ho7.out hsz5 (Nat.le_refl _)
  obtain ⟨a8, c8, e8, hr8⟩ := h8.rd
  have hl10 : List.length ((frm twl).drop 5 ++ ([0] : List UInt8)) = 10 := rfl
  rw [hl10] at e8 hr8
  subst e8
  have hr8' := Lib.hid hr8
  have hS8 := Lib.hid (hS4'.out.ext k48)
  have hk8 : Below w.heap.size w w8 := hk4.trans (k48.mono hk4.size)
  clear h8 hr8 hg8 ho7 hsrc
  go_wp2_with fail
  refine (feed_ok hS8.out hr8'.out (by decide) frames_rest).mono ?_
  rintro e w9 ⟨⟨a9, c9, rfl, hO9⟩, hS9, g9⟩
  rw [show [twl].length = 1 from rfl] at hO9
  have hO9' := Lib.hid hO9
  have hS9' := Lib.hid hS9
  have hk9 : Below w.heap.size w w9 := below_grown hk8 g9 hk2.size (Nat.le_refl _)
  clear hO9 hS9
  go_wp2_with fail
  refine (twelve_any 12 7 w9 (by omega)).mono ?_
  rintro e w10 ⟨rfl, hB10, k10⟩
  have hX10 := Lib.hid hB10
  clear hB10
  have kn10 : Below w10.heap.size w10 (w10.alloc (.cells #[.slice (some ⟨w9.heap.size, 0, none⟩) 12 12] 41)) := (Below.refl _ _).alloc (Nat.le_refl _) _
  have k11 : Below w9.heap.size w9 (w10.alloc (.cells #[.slice (some ⟨w9.heap.size, 0, none⟩) 12 12] 41)) := k10.trans (kn10.mono k10.size)
  have hL10 : Hid (RdL (w10.alloc (.cells #[.slice (some ⟨w9.heap.size, 0, none⟩) 12 12] 41)) (some ⟨w10.heap.size, 0, none⟩) 1 1 [twl]) := Lib.hid (by
    refine ⟨[(some ⟨w9.heap.size, 0, none⟩, 12, 12)], rd_blk (E := slE) (Blk.new w10 41 (0, 0) #[.slice (some ⟨w9.heap.size, 0, none⟩) 12 12]) 1 rfl (by decide), rfl, fun j p X hp hX => ?_⟩
    cases j with
    | succ j => simp at hp
    | zero =>
      simp only [List.getElem?_cons_zero, Option.some.injEq] at hp hX
      subst hp
      subst hX
      exact rd_blk (E := byteE) (X := twl) (by rw [rowOf_byte]; exact hX10.out.below kn10 hX10.out.lt) 12 rfl (by decide))
  have hM : Hid (RdL (w10.alloc (.cells #[.slice (some ⟨w9.heap.size, 0, none⟩) 12 12] 41)) a9 1 c9 [twl]) := Lib.hid (hO9'.out.rdL.ext k11)
  have hS11 := Lib.hid (hS9'.out.ext k11)
  have hk11 : Below w.heap.size w (w10.alloc (.cells #[.slice (some ⟨w9.heap.size, 0, none⟩) 12 12] 41)) := hk9.trans (k11.mono hk9.size)
  generalize hW11 : w10.alloc (.cells #[.slice (some ⟨w9.heap.size, 0, none⟩) 12 12] 41) = w11 at *
  clear kn10 k11
  go_wp2_with fail
  refine (lists_any hM.out hL10.out (by omega) (by omega)).mono ?_
  rw [show decide ([twl] = [twl]) = true by simp]
  rintro e w12 ⟨rfl, k12⟩
  have hS12 := Lib.hid (hS11.out.ext k12)
  have hk12 : Below w.heap.size w w12 := hk11.trans (k12.mono hk11.size)
  go_wp2_with fail
  refine (waiting_any hS12.out).mono ?_
  rw [show ([0] : List UInt8).length = 1 from rfl]
  rintro e w13 ⟨rfl, rfl⟩
  go_wp2_with fail
  go_ret
  exact ⟨rfl, hk12⟩
end Go.Proofs.Ytmimbfikjnfhdaa
