/- The program's network: Next 15, Counts 17. Printed by gen_nte.py. -/
import Derived.Test.YthdnbipfdahnlaaNtD
namespace Go.Proofs.Ythdnbipfdahnlaa
open Go Go.RowKit
theorem results_tmp4 {fn : Func} {t u v x : Tmp} (h : fn.results = #[.tmp t, .tmp u, .tmp v, .tmp x]) (tmps : Array Value) (P : Program) (w : World) :
    (results fn tmps).run P w = .ok (.tuple #[tmps.getD t undef, tmps.getD u undef, tmps.getD v undef, tmps.getD x undef]) w := by
  simp [results, h]
def nextS (s : NS) : Int × Bool := match s.A with
  | [] => (0, false)
  | x :: _ => (x.at_, true)
set_option maxHeartbeats 8000000 in
set_option maxRecDepth 100000 in
theorem next_any {w : World} {n : Nat} {S : Nat → Prop} {s : NS} (hP : NetP w n S s) :
    Calls Try.prog 15 #[.pointer (some ⟨n, 0, none⟩)] w fun e w' => e = .returned (.tuple #[.int .i64 (nextS s).1, .bool (nextS s).2]) ∧ w = w' := by
  obtain ⟨fa, fn, fc, v, ob, FL, hQ⟩ := hP
  obtain ⟨F, at_, A, c⟩ := s
  obtain ⟨sent, lost, forged, taken⟩ := c
  dsimp only at hQ
  obtain ⟨va, vc, rfl, hR⟩ := hQ.own.rd
  have hno := Lib.hid (none_ok hQ)
  have c2 : w.cell? ⟨n, 2, none⟩ = some (.slice va FL.length vc) := (hQ.blk.cell 2).trans rfl
  have hlen := hQ.rep.len
  cases A with
  | nil =>
    have hFL : FL = [] := List.eq_nil_of_length_eq_zero (by rw [hlen]; rfl)
    subst hFL
    clear hQ hR
    go_enter Try.func15, Try.ntmps15
    go_wp2_with fail
    refine hno.out.mono ?_
    rintro e w1 ⟨rfl, rfl⟩
    go_wp2_with fail
    refine bodyPost_ret (results_tmp2 rfl _ _ _) rfl ?_
    exact ⟨rfl, rfl⟩
  | cons x r =>
    have hl1 : FL.length = r.length + 1 := hlen
    obtain ⟨q, FR, rfl⟩ : ∃ q FR, FL = q :: FR := by
      cases FL with
      | nil => simp at hl1
      | cons q FR => exact ⟨q, FR, rfl⟩
    have ha := (hQ.rep.rep 0 q x rfl rfl).1
    obtain ⟨b, o, rfl, _, hc⟩ := rd_fl hR (by simp)
    have c0 : w.cell? ⟨b, o, none⟩ = some (.int .i64 q.at_) := hc 0 (by simp) 0 _ rfl
    rw [ha] at c0
    obtain ⟨m, hm⟩ : ∃ m, (q :: FR).length = m := ⟨_, rfl⟩
    have hm1 : 1 ≤ m := by rw [← hm]; simp
    have hm2 : (0 : Int) < m := by omega
    have hm3 : ¬ ((m : Int) = 0) := by omega
    rw [hm] at c2
    clear hQ hR hc ha hl1 hlen
    go_enter Try.func15, Try.ntmps15
    go_wp2_with fail
    refine hno.out.mono ?_
    rintro e w1 ⟨rfl, rfl⟩
    go_wp2_with fail
    refine bodyPost_ret (results_tmp2 rfl _ _ _) rfl ?_
    exact ⟨rfl, rfl⟩
set_option maxHeartbeats 8000000 in
set_option maxRecDepth 100000 in
theorem counts_any {w : World} {n : Nat} {S : Nat → Prop} {s : NS} (hP : NetP w n S s) :
    Calls Try.prog 17 #[.pointer (some ⟨n, 0, none⟩)] w fun e w' => e = .returned (.tuple #[.int .i64 s.c.sent, .int .i64 s.c.lost, .int .i64 s.c.forged, .int .i64 s.c.taken]) ∧ ∃ q, w' = w.drewN q := by
  obtain ⟨fa, fn, fc, v, ob, FL, hQ⟩ := hP
  obtain ⟨F, at_, A, c⟩ := s
  obtain ⟨sent, lost, forged, taken⟩ := c
  dsimp only at hQ
  obtain ⟨va, vc, rfl, hR⟩ := hQ.own.rd
  have hno := Lib.hid (none_ok hQ)
  have c3 : w.cell? ⟨n, 3, none⟩ = some (.int .i64 sent) := (hQ.blk.cell 3).trans rfl
  have c4 : w.cell? ⟨n, 4, none⟩ = some (.int .i64 lost) := (hQ.blk.cell 4).trans rfl
  have c5 : w.cell? ⟨n, 5, none⟩ = some (.int .i64 forged) := (hQ.blk.cell 5).trans rfl
  have c6 : w.cell? ⟨n, 6, none⟩ = some (.int .i64 taken) := (hQ.blk.cell 6).trans rfl
  clear hQ hR
  go_enter Try.func17, Try.ntmps17
  go_wp2_with fail
  refine hno.out.mono ?_
  rintro e w1 ⟨rfl, rfl⟩
  go_wp2_with fail
  go_quiet (fail)
  rename_i nq _
  go_wp2_with fail
  refine bodyPost_ret (results_tmp4 rfl _ _ _) rfl ?_
  exact ⟨rfl, nq, rfl⟩
end Go.Proofs.Ythdnbipfdahnlaa
