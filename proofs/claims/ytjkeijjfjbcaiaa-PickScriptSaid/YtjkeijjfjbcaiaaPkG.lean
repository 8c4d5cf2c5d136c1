/- The program's picker: Wait 21, Lame 20, Good 18, Bad 19. -/
import Derived.Test.YtjkeijjfjbcaiaaPkF
namespace Go.Proofs.Ytjkeijjfjbcaiaa
open Go.RowKit
/-- what is known has round trips and fails within their bounds -/
def KB (k : Kn) : Prop := 0 ≤ k.t ∧ k.t ≤ 10000 ∧ 0 ≤ k.f ∧ k.f ≤ 10
theorem KnOk.kb {lo hi : Int} {k : Kn} (h : KnOk lo hi k) : KB k := ⟨h.t0, h.t1, h.f0, h.f1⟩
theorem ofD_kb {L : List Kn} (hL : ∀ k ∈ L, KB k) (a : Int) : KB (ofD L a) := by
  rcases ofD_cases L a with h | h
  · rw [h]; exact (by decide : (0:Int) ≤ 200 ∧ (200:Int) ≤ 10000 ∧ (0:Int) ≤ 0 ∧ (0:Int) ≤ 10)
  · exact hL _ h
set_option maxHeartbeats 4000000 in
set_option maxRecDepth 100000 in
theorem wait21 {w : World} {p : Nat} {room : Int} {v : Value} {L : List Kn} (h : Pk w p room v L) (h1 : 1 ≤ room) (hl : L.length ≤ 100000) (hL : ∀ k ∈ L, KB k) (a : Int) :
    Calls Try.prog 21 #[.pointer (some ⟨p, 0, none⟩), .int .u32 a] w fun e w' => e = .returned (.int .i64 (waitK L a)) ∧ Below w.heap.size w w' := by
  have z0 : w.cell? ⟨p, 0, none⟩ = some (.int .i64 room) := h.blk.cell 0
  have h' := Lib.hid h
  have hl' := Lib.hid hl
  obtain ⟨t0, t1, f0, f1⟩ := ofD_kb hL a
  clear h hl hL
  go_enter Try.func21, Try.ntmps21
  go_wp2_with fail
  refine (none_ok z0 h1).mono ?_
  rintro e w1 ⟨rfl, rfl⟩
  go_wp2_with fail
  refine (of26 h'.out (by have := hl'.out; omega) a).mono ?_
  rintro e w1 ⟨rfl, hb1⟩
  have hW : Hid (waitK L a = mn (mx ((2 * (ofD L a).t + 999) / 1000) 1) 8) := Lib.hid rfl
  generalize ofD L a = k at *
  generalize (ofK L a).isSome = was at *
  obtain ⟨ka, kt, kf, kg⟩ := k
  unfold knV
  dsimp only at *
  go_wp2_with fail
  all_goals
    go_ret
    refine ⟨?_, hb1.alloc hb1.size _⟩
    have e := hW.out
    unfold mn mx at e
    refine ret_int ?_
    rw [e]
    (repeat' split) <;> omega
set_option maxHeartbeats 4000000 in
set_option maxRecDepth 100000 in
theorem lame20 {w : World} {p : Nat} {room : Int} {v : Value} {L : List Kn} (h : Pk w p room v L) (h1 : 1 ≤ room) (hl : L.length ≤ 100000) (a now : Int) (hm : momB now = true) :
    Calls Try.prog 20 #[.pointer (some ⟨p, 0, none⟩), .int .u32 a, .int .i64 now] w fun e w' => e = .returned (.int .i64 0) ∧ ∃ v', Pk w' p room v' (hrd room L (knLame L a now)) ∧ Hd w w' p v v' := by
  have z0 : w.cell? ⟨p, 0, none⟩ = some (.int .i64 room) := h.blk.cell 0
  have h' := Lib.hid h
  have hl' := Lib.hid hl
  obtain ⟨m0, m1⟩ := mom_ok hm
  have hc := check34 z0 h1 now
  rw [hm, if_pos rfl] at hc
  have hc' := Lib.hid hc
  clear h hl hm hc
  go_enter Try.func20, Try.ntmps20
  go_wp2_with fail
  refine hc'.out.mono ?_
  rintro e w1 ⟨rfl, rfl⟩
  go_wp2_with fail
  refine (of26 h'.out (by have := hl'.out; omega) a).mono ?_
  rintro e w1 ⟨rfl, hb1⟩
  have hW : Hid (knLame L a now = ⟨(ofD L a).a, (ofD L a).t, (ofD L a).f, now + 900⟩) := Lib.hid (by unfold knLame; rw [ofD_a])
  generalize ofD L a = k at *
  generalize (ofK L a).isSome = was at *
  obtain ⟨ka, kt, kf, kg⟩ := k
  unfold knV
  dsimp only at *
  go_wp2_with fail
  have hb2 := hb1.alloc hb1.size (.cells #[.int .u32 ka, .int .i64 kt, .int .i64 kf, .int .i64 (now + 900)] 34)
  refine (heard35 (h'.out.ext hb2) h1 hl'.out ⟨ka, kt, kf, now + 900⟩).mono ?_
  rintro e w2 ⟨rfl, v', hP, hH⟩
  rw [← hW.out] at hP
  have hP' := Lib.hid hP
  have hH' := Lib.hid ((Hd.ext (p := p) (x := v) hb2).trans hH)
  clear hP hH
  go_wp2_with fail
  go_ret
  exact ⟨rfl, _, hP'.out, hH'.out⟩
theorem Pk.cast {w : World} {p : Nat} {room : Int} {v : Value} {L L' : List Kn} (h : Pk w p room v L) (e : L = L') : Pk w p room v L' := e ▸ h
theorem wrap_small {n : Int} (h0 : 0 ≤ n) (h1 : n < 9223372036854775808) : wrap64 n = n := by unfold wrap64; omega
theorem bad_eq (ka kt kf kg now x y z : Int) (m0 : 0 ≤ now) (m1 : now ≤ 1099511627776) (hx : x = mn (2 * kt) 10000) (hy : y = mn (kf + 1) 10) (hz : z = wrap64 (now + wrap64 (2 ^ y.toNat))) : bad1 ⟨ka, kt, kf, kg⟩ now = ⟨ka, x, y, z⟩ := by
  subst hx hy hz
  have hf1 := mn_le2 (kf + 1) 10
  have p1 := pow_pos' (mn (kf + 1) 10).toNat
  have p2 := pow_le (n := (mn (kf + 1) 10).toNat) (by omega)
  rw [wrap_small (n := 2 ^ (mn (kf + 1) 10).toNat) (by omega) (by omega), wrap_small (by omega) (by omega)]
  rfl
set_option maxHeartbeats 4000000 in
set_option maxRecDepth 100000 in
theorem bad19 {w : World} {p : Nat} {room : Int} {v : Value} {L : List Kn} (h : Pk w p room v L) (h1 : 1 ≤ room) (hl : L.length ≤ 100000) (hL : ∀ k ∈ L, KB k) (a now : Int) (hm : momB now = true) :
    Calls Try.prog 19 #[.pointer (some ⟨p, 0, none⟩), .int .u32 a, .int .i64 now] w fun e w' => e = .returned (.int .i64 0) ∧ ∃ v', Pk w' p room v' (hrd room L (knBad L a now)) ∧ Hd w w' p v v' := by
  have z0 : w.cell? ⟨p, 0, none⟩ = some (.int .i64 room) := h.blk.cell 0
  have h' := Lib.hid h
  have hl' := Lib.hid hl
  obtain ⟨m0, m1⟩ := mom_ok hm
  have hc := check34 z0 h1 now
  rw [hm, if_pos rfl] at hc
  have hc' := Lib.hid hc
  clear h hl hm hc
  obtain ⟨t0, t1, f0, f1⟩ := ofD_kb hL a
  have hbb : knBad L a now = bad1 (ofD L a) now := rfl
  have hW := Lib.hid hbb
  clear hL hbb
  go_enter Try.func19, Try.ntmps19
  go_wp2_with fail
  refine hc'.out.mono ?_
  rintro e w1 ⟨rfl, rfl⟩
  go_wp2_with fail
  refine (of26 h'.out (by have := hl'.out; omega) a).mono ?_
  rintro e w1 ⟨rfl, hb1⟩
  generalize ofD L a = k at *
  generalize (ofK L a).isSome = was at *
  obtain ⟨ka, kt, kf, kg⟩ := k
  unfold knV
  dsimp only at *
  go_wp2_with fail
  all_goals
    refine (heard35 (k := ⟨_, _, _, _⟩) (h'.out.ext (hb1.alloc hb1.size _)) h1 hl'.out).mono ?_
    rintro e w2 ⟨rfl, v', hP, hH⟩
    have hP' := Lib.hid hP
    have hH' := Lib.hid ((Hd.ext (p := p) (x := v) (hb1.alloc hb1.size _)).trans hH)
    clear hP hH
    go_wp2_with fail
    go_ret
    refine ⟨rfl, _, hP'.out.cast ?_, hH'.out⟩
    rw [hW.out]
    refine congrArg (hrd room L) (bad_eq ka kt kf kg now _ _ _ m0 m1 ?_ ?_ ?_).symm
    · unfold mn; split <;> omega
    · unfold mn; split <;> omega
    · first
        | rfl
        | decide
set_option maxHeartbeats 4000000 in
set_option maxRecDepth 100000 in
theorem good18 {w : World} {p : Nat} {room : Int} {v : Value} {L : List Kn} (h : Pk w p room v L) (h1 : 1 ≤ room) (hl : L.length ≤ 100000) (hL : ∀ k ∈ L, KB k) (a trip now : Int) (ht : 0 ≤ trip) (hm : momB now = true) :
    Calls Try.prog 18 #[.pointer (some ⟨p, 0, none⟩), .int .u32 a, .int .i64 trip, .int .i64 now] w fun e w' => e = .returned (.int .i64 0) ∧ ∃ v', Pk w' p room v' (hrd room L (knGood L a trip now)) ∧ Hd w w' p v v' := by
  have z0 : w.cell? ⟨p, 0, none⟩ = some (.int .i64 room) := h.blk.cell 0
  have h' := Lib.hid h
  have hl' := Lib.hid hl
  obtain ⟨m0, m1⟩ := mom_ok hm
  have hc := check34 z0 h1 now
  rw [hm, if_pos rfl] at hc
  have hc' := Lib.hid hc
  clear h hl hm hc
  have ht0 : ¬ trip < 0 := by omega
  have hL' := Lib.hid hL
  clear hL
  go_enter Try.func18, Try.ntmps18
  go_wp2_with fail
  refine (none_ok z0 h1).mono ?_
  rintro e w1 ⟨rfl, rfl⟩
  go_wp2_with fail
  refine hc'.out.mono ?_
  rintro e w1 ⟨rfl, rfl⟩
  go_wp2_with fail
  all_goals
    refine (of26 h'.out (by have := hl'.out; omega) a).mono ?_
    rintro e w1 ⟨rfl, hb1⟩
    have t0 := ofD_kb hL'.out a
    have hW : Hid (knGood L a trip now = ⟨a, if (ofK L a).isSome = true then (7 * (ofD L a).t + mn trip 10000) / 8 else mn trip 10000, 0, now⟩) := Lib.hid (by
      unfold knGood ofD
      cases ofK L a <;> rfl)
    generalize ofD L a = k at *
    generalize (ofK L a).isSome = was at *
    obtain ⟨ka, kt, kf, kg⟩ := k
    obtain ⟨t0, t1, f0, f1⟩ := t0
    unfold knV
    dsimp only at *
    cases was
    all_goals
      go_wp2_with fail
      refine (heard35 (k := ⟨_, _, _, _⟩) (h'.out.ext (hb1.alloc hb1.size _)) h1 hl'.out).mono ?_
      rintro e w2 ⟨rfl, v', hP, hH⟩
      have hP' := Lib.hid hP
      have hH' := Lib.hid ((Hd.ext (p := p) (x := v) (hb1.alloc hb1.size _)).trans hH)
      clear hP hH
      go_wp2_with fail
      go_ret
      refine ⟨rfl, _, hP'.out.cast ?_, hH'.out⟩
      rw [hW.out]
      refine congrArg (hrd room L) ?_
      simp only [Bool.false_eq_true, if_false, if_true, Kn.mk.injEq, true_and, and_true]
      unfold mn
      split <;> omega
end Go.Proofs.Ytjkeijjfjbcaiaa
