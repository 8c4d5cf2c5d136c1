/- The document's picker: Good 30, Bad 31, Lame 32. -/
import Derived.Test.YtjkeijjfjbcaiaaPkQ
namespace Go.Proofs.Ytjkeijjfjbcaiaa
open Go.RowKit
/-- the document's picker once it heard -/
def Rn (w w' : World) (p : Nat) (room : Int) (L : List Kn) : Prop := ∃ a c, Rk w' p room a c L ∧ Tch (fun b => b = p) w w' ∧ ∀ b o s, a = some ⟨b, o, s⟩ → w.heap.size ≤ b
theorem Rn.cast {w w' : World} {p : Nat} {room : Int} {L L' : List Kn} (h : Rn w w' p room L) (e : L = L') : Rn w w' p room L' := e ▸ h
theorem Rn.from {u w w' : World} {p : Nat} {room : Int} {L : List Kn} (hb : Below u.heap.size u w) (h : Rn w w' p room L) : Rn u w' p room L := by
  obtain ⟨a, c, h1, h2, h3⟩ := h
  exact ⟨a, c, h1, (Tch.of_below hb).trans h2 (fun _ _ h => h), fun b o s e => Nat.le_trans hb.size (h3 b o s e)⟩
section
variable {w : World} {p : Nat} {room : Int} {a : Option Addr} {c : Nat} {L : List Kn}
theorem good30_no (y trip now : Int) (hb : trip < 0 ∨ momB now = false) (w : World) : Calls Try.prog 30 #[.pointer (some ⟨p, 0, none⟩), .int .u32 y, .int .i64 trip, .int .i64 now] w fun e w' => e = .returned (.int .i64 2) ∧ w = w' := by
  by_cases ht : trip < 0
  · clear hb
    go_enter Try.func30, Try.ntmps30
    go_wp2_with fail
    go_ret
    exact ⟨rfl, rfl⟩
  · have hm := Lib.hid (hb.resolve_left ht)
    clear hb
    go_enter Try.func30, Try.ntmps30
    go_wp2_with fail
    refine (moment42 now w).mono ?_
    rintro e w1 ⟨rfl, rfl⟩
    rw [hm.out]
    go_wp2_with fail
    go_ret
    exact ⟨rfl, rfl⟩
theorem bad31_no (y now : Int) (hm : momB now = false) (w : World) : Calls Try.prog 31 #[.pointer (some ⟨p, 0, none⟩), .int .u32 y, .int .i64 now] w fun e w' => e = .returned (.int .i64 2) ∧ w = w' := by
  have hm' := Lib.hid hm
  clear hm
  go_enter Try.func31, Try.ntmps31
  go_wp2_with fail
  refine (moment42 now w).mono ?_
  rintro e w1 ⟨rfl, rfl⟩
  rw [hm'.out]
  go_wp2_with fail
  go_ret
  exact ⟨rfl, rfl⟩
theorem lame32_no (y now : Int) (hm : momB now = false) (w : World) : Calls Try.prog 32 #[.pointer (some ⟨p, 0, none⟩), .int .u32 y, .int .i64 now] w fun e w' => e = .returned (.int .i64 2) ∧ w = w' := by
  have hm' := Lib.hid hm
  clear hm
  go_enter Try.func32, Try.ntmps32
  go_wp2_with fail
  refine (moment42 now w).mono ?_
  rintro e w1 ⟨rfl, rfl⟩
  rw [hm'.out]
  go_wp2_with fail
  go_ret
  exact ⟨rfl, rfl⟩
set_option maxHeartbeats 4000000 in
set_option maxRecDepth 100000 in
theorem lame32 (h : Rk w p room a c L) (h1 : 1 ≤ room) (hl : L.length ≤ 100000) (y now : Int) (hm : momB now = true) :
    Calls Try.prog 32 #[.pointer (some ⟨p, 0, none⟩), .int .u32 y, .int .i64 now] w fun e w' => e = .returned (.int .i64 0) ∧ Rn w w' p room (hrd room L (knLame L y now)) := by
  have h' := Lib.hid h
  have hl' := Lib.hid hl
  have hm' := Lib.hid hm
  obtain ⟨m0, m1⟩ := mom_ok hm
  clear h hl hm
  go_enter Try.func32, Try.ntmps32
  go_wp2_with fail
  refine (moment42 now w).mono ?_
  rintro e w1 ⟨rfl, rfl⟩
  rw [hm'.out]
  go_wp2_with fail
  refine (of39 h'.out hl'.out y).mono ?_
  rintro e w1 ⟨rfl, hb1⟩
  have hW : Hid (knLame L y now = ⟨(ofD L y).a, (ofD L y).t, (ofD L y).f, now + 900⟩) := Lib.hid (by unfold knLame; rw [ofD_a])
  generalize ofD L y = k at *
  generalize (ofK L y).isSome = was at *
  obtain ⟨ka, kt, kf, kg⟩ := k
  unfold knV
  dsimp only at *
  go_wp2_with fail
  have hb2 := hb1.alloc hb1.size (.cells #[.int .u32 ka, .int .i64 kt, .int .i64 kf, .int .i64 (now + 900)] 34)
  refine (hear43 (h'.out.ext hb2) h1 hl'.out ⟨ka, kt, kf, now + 900⟩).mono ?_
  rintro e w2 ⟨rfl, hP⟩
  have hP' := Lib.hid ((Rn.from hb2 hP).cast (congrArg (hrd room L) hW.out.symm))
  clear hP
  go_wp2_with fail
  go_ret
  exact ⟨rfl, hP'.out⟩
set_option maxHeartbeats 4000000 in
set_option maxRecDepth 100000 in
theorem bad31 (h : Rk w p room a c L) (h1 : 1 ≤ room) (hl : L.length ≤ 100000) (hL : ∀ k ∈ L, KB k) (y now : Int) (hm : momB now = true) :
    Calls Try.prog 31 #[.pointer (some ⟨p, 0, none⟩), .int .u32 y, .int .i64 now] w fun e w' => e = .returned (.int .i64 0) ∧ Rn w w' p room (hrd room L (knBad L y now)) := by
  have h' := Lib.hid h
  have hl' := Lib.hid hl
  have hm' := Lib.hid hm
  obtain ⟨m0, m1⟩ := mom_ok hm
  obtain ⟨t0, t1, f0, f1⟩ := ofD_kb hL y
  have hbb : knBad L y now = bad1 (ofD L y) now := rfl
  have hW := Lib.hid hbb
  clear h hl hm hL hbb
  go_enter Try.func31, Try.ntmps31
  go_wp2_with fail
  refine (moment42 now w).mono ?_
  rintro e w1 ⟨rfl, rfl⟩
  rw [hm'.out]
  go_wp2_with fail
  refine (of39 h'.out hl'.out y).mono ?_
  rintro e w1 ⟨rfl, hb1⟩
  generalize ofD L y = k at *
  generalize (ofK L y).isSome = was at *
  obtain ⟨ka, kt, kf, kg⟩ := k
  unfold knV
  dsimp only at *
  go_wp2_with fail
  all_goals
    refine (hear43 (x := ⟨_, _, _, _⟩) (h'.out.ext (hb1.alloc hb1.size _)) h1 hl'.out).mono ?_
    rintro e w2 ⟨rfl, hP⟩
    have hP' := Lib.hid (Rn.from (hb1.alloc hb1.size _) hP)
    clear hP
    go_wp2_with fail
    go_ret
    refine ⟨rfl, hP'.out.cast ?_⟩
    rw [hW.out]
    refine congrArg (hrd room L) (bad_eq ka kt kf kg now _ _ _ m0 m1 ?_ ?_ ?_).symm
    · unfold mn; split <;> omega
    · unfold mn; split <;> omega
    · first
        | rfl
        | decide
set_option maxHeartbeats 4000000 in
set_option maxRecDepth 100000 in
theorem good30 (h : Rk w p room a c L) (h1 : 1 ≤ room) (hl : L.length ≤ 100000) (hL : ∀ k ∈ L, KB k) (y trip now : Int) (ht : 0 ≤ trip) (hm : momB now = true) :
    Calls Try.prog 30 #[.pointer (some ⟨p, 0, none⟩), .int .u32 y, .int .i64 trip, .int .i64 now] w fun e w' => e = .returned (.int .i64 0) ∧ Rn w w' p room (hrd room L (knGood L y trip now)) := by
  have h' := Lib.hid h
  have hl' := Lib.hid hl
  have hm' := Lib.hid hm
  have hL' := Lib.hid hL
  have ht0 : ¬ trip < 0 := by omega
  obtain ⟨m0, m1⟩ := mom_ok hm
  clear h hl hm hL
  go_enter Try.func30, Try.ntmps30
  go_wp2_with fail
  refine (moment42 now w).mono ?_
  rintro e w1 ⟨rfl, rfl⟩
  rw [hm'.out]
  go_wp2_with fail
  all_goals
    refine (of39 h'.out hl'.out y).mono ?_
    rintro e w1 ⟨rfl, hb1⟩
    have t0 := ofD_kb hL'.out y
    have hW : Hid (knGood L y trip now = ⟨y, if (ofK L y).isSome = true then (7 * (ofD L y).t + mn trip 10000) / 8 else mn trip 10000, 0, now⟩) := Lib.hid (by
      unfold knGood ofD
      cases ofK L y <;> rfl)
    generalize ofD L y = k at *
    generalize (ofK L y).isSome = was at *
    obtain ⟨ka, kt, kf, kg⟩ := k
    obtain ⟨t0, t1, f0, f1⟩ := t0
    unfold knV
    dsimp only at *
    cases was
    all_goals
      go_wp2_with fail
      refine (hear43 (x := ⟨_, _, _, _⟩) (h'.out.ext (hb1.alloc hb1.size _)) h1 hl'.out).mono ?_
      rintro e w2 ⟨rfl, hP⟩
      have hP' := Lib.hid (Rn.from (hb1.alloc hb1.size _) hP)
      clear hP
      go_wp2_with fail
      go_ret
      refine ⟨rfl, hP'.out.cast ?_⟩
      rw [hW.out]
      refine congrArg (hrd room L) ?_
      simp only [Bool.false_eq_true, if_false, if_true, Kn.mk.injEq, true_and, and_true]
      unfold mn
      split <;> omega
end
end Go.Proofs.Ytjkeijjfjbcaiaa
