/- The document's network: Due 33. Printed by gen_nub.py. -/
import Derived.Test.YthdnbipfdahnlaaNuA
namespace Go.Proofs.Ythdnbipfdahnlaa
open Go Go.RowKit
theorem rep_srt {P : FD → Fl → Prop} {FL : List FD} {L : List Fl} (hl : FL.length = L.length) (h : ∀ (j : Nat) (q : FD) (f : Fl), FL[j]? = some q → L[j]? = some f → P q f) (hk : ∀ q f, P q f → q.at_ = f.at_) (j : Nat) (q : FD) (f : Fl) (hq : (srtD FL)[j]? = some q) (hf : (srtL L)[j]? = some f) : P q f := by
  have hm : ∀ z ∈ FL.zip L, P z.1 z.2 := fun z hz => by
    obtain ⟨i, hi, rfl⟩ := List.getElem_of_mem hz
    rw [List.length_zip] at hi
    rw [List.getElem_zip]
    exact h i _ _ (List.getElem?_eq_getElem (by omega)) (List.getElem?_eq_getElem (by omega))
  have e1 : (srtK (fun z : FD × Fl => z.1.at_) (FL.zip L)).map Prod.fst = srtD FL := by
    unfold srtD
    rw [srtK_map (key' := fun q : FD => q.at_) Prod.fst (FL.zip L) (fun z _ => rfl), List.map_fst_zip (by omega)]
  have e2 : (srtK (fun z : FD × Fl => z.1.at_) (FL.zip L)).map Prod.snd = srtL L := by
    unfold srtL
    rw [srtK_map (key' := fun f : Fl => f.at_) Prod.snd (FL.zip L) (fun z hz => (hk _ _ (hm z hz)).symm), List.map_snd_zip (by omega)]
  rw [← e1, List.getElem?_map] at hq
  rw [← e2, List.getElem?_map] at hf
  cases hz : (srtK (fun z : FD × Fl => z.1.at_) (FL.zip L))[j]? with
  | none => rw [hz] at hq; cases hq
  | some z =>
    rw [hz] at hq hf
    simp only [Option.map_some, Option.some.injEq] at hq hf
    subst hq hf
    exact hm z ((srtK_mem _ _ z).1 (List.mem_of_getElem? hz))
/-- what the document's Due does -/
def rdueS (L : List Fl) (c : Cn) (y : Int) : List Fl × Int × List Fl × Cn :=
  if y < 0 ∨ 1099511627776 < y then ([], 2, L, c) else
    ((srtL L).takeWhile (fun f => decide (f.at_ ≤ y)), 0, (srtL L).dropWhile (fun f => decide (f.at_ ≤ y)), { c with taken := c.taken + ((srtL L).takeWhile (fun f => decide (f.at_ ≤ y))).length })
def RDB (w : World) (S : Nat → Prop) (r : Nat) (F : List Fate) (x : List Fl × Int × List Fl × Cn) (e : Ending) (w' : World) : Prop :=
  ∃ a n c, e = .returned (.tuple #[.slice a n c, .int .i64 x.2.1]) ∧ RdP w' a n c (x.1.map fun f => (f.h, f.d)) ∧ RefP w' S r F x.2.2.1 x.2.2.2 ∧ Tch (fun g => g = r) w w'
set_option maxHeartbeats 8000000 in
set_option maxRecDepth 100000 in
theorem rdue_any {w : World} {S : Nat → Prop} {r : Nat} {F : List Fate} {L : List Fl} {c : Cn} (hP : RefP w S r F L c) (hL : L.length ≤ 16384) (hc : 0 ≤ c.taken ∧ c.taken ≤ 1000000000000) (hSw : ∀ g, S g → g < w.heap.size) (y : Int) :
    Calls Try.prog 33 #[.pointer (some ⟨r, 0, none⟩), .int .i64 y] w fun e w' => RDB w S r F (rdueS L c y) e w' := by
  obtain ⟨fa, fn, fc, la, ln, lc, FL, hQ⟩ := hP
  obtain ⟨sent, lost, forged, taken⟩ := c
  dsimp only at hc
  obtain ⟨s0, s1⟩ := hc
  have hlL1 : ln ≤ 16384 := by have h1 := hQ.ls.len; have h2 := hQ.len; omega
  obtain ⟨X, hX⟩ : ∃ X, rdueS L ⟨sent, lost, forged, taken⟩ y = X := ⟨_, rfl⟩
  rw [hX]
  unfold rdueS at hX
  replace hX := Lib.hid hX
  have hS := Lib.hid hSw
  clear hSw
  have HQ := Lib.hid hQ
  have hrl : Hid (r < w.heap.size) := Lib.hid hQ.blk.lt
  have hfly := Lib.hid (rflying_any hQ hlL1)
  have hln := Lib.hid hQ.ls.len
  have hlL := Lib.hid hQ.len
  clear hQ
  by_cases hy : y < 0
  · have hX1 : Hid (X = ([], 2, L, ⟨sent, lost, forged, taken⟩)) := Lib.hid (by rw [← hX.out, if_pos (.inl hy)])
    go_enter Try.func33, Try.ntmps33
    go_wp2_with fail
    refine bodyPost_ret (results_tmp2 rfl _ _ _) rfl ?_
    unfold RDB
    rw [hX1.out]
    exact ⟨none, 0, 0, rfl, ⟨[], Rd.zero _ _ _ _ (Nat.zero_le _), rfl, fun j q x h => by simp at h⟩, ⟨_, _, _, _, _, _, _, HQ.out⟩, Tch.refl _ _⟩
  have hy0 := hy
  clear hy
  by_cases hy : 1099511627776 < y
  · have hX1 : Hid (X = ([], 2, L, ⟨sent, lost, forged, taken⟩)) := Lib.hid (by rw [← hX.out, if_pos (.inr hy)])
    go_enter Try.func33, Try.ntmps33
    go_wp2_with fail
    refine bodyPost_ret (results_tmp2 rfl _ _ _) rfl ?_
    unfold RDB
    rw [hX1.out]
    exact ⟨none, 0, 0, rfl, ⟨[], Rd.zero _ _ _ _ (Nat.zero_le _), rfl, fun j q x h => by simp at h⟩, ⟨_, _, _, _, _, _, _, HQ.out⟩, Tch.refl _ _⟩
  have hX1 : Hid (X = ((srtL L).takeWhile (fun f => decide (f.at_ ≤ y)), 0, (srtL L).dropWhile (fun f => decide (f.at_ ≤ y)), (⟨sent, lost, forged, taken + ((srtL L).takeWhile (fun f => decide (f.at_ ≤ y))).length⟩ : Cn))) := Lib.hid (by rw [← hX.out, if_neg (by omega)])
  clear hX
  go_enter Try.func33, Try.ntmps33
  go_wp2_with fail
  refine hfly.out.mono ?_
  rintro e w1 ⟨⟨v, rfl, ho⟩, hb⟩
  obtain ⟨va, vc, rfl⟩ := ho.shape
  obtain ⟨D, hD⟩ : ∃ D, srtD FL = D := ⟨_, rfl⟩
  rw [hD] at ho ⊢
  have hDl : D.length = ln := by rw [← hD, srtD_len, hln.out]
  rw [hDl] at ho ⊢
  have hD' := Lib.hid hD
  have hDl' := Lib.hid hDl
  have O1 := Lib.hid ho
  have k1 := Lib.hid hb
  clear hD hDl ho hb hfly
  have hrep : Hid (∀ (j : Nat) (q : FD) (f : Fl), D[j]? = some q → (srtL L)[j]? = some f → RepR w q f) := Lib.hid (fun j q f hq hf => rep_srt (P := RepR w) HQ.out.len HQ.out.rep (fun q f h => h.1) j q f (by rw [hD'.out]; exact hq) hf)
  have hsl : Hid ((srtL L).length = ln) := Lib.hid (by unfold srtL; rw [srtK_len, ← hlL.out, hln.out])
  go_wp2_with fail
  go_loopw [7, 8] (fun v i wr => ∃ k : Nat, k ≤ ln ∧ i = .int .i64 k ∧ Hid (Own pkE wr w1.heap.size v ((D.take k).map (·.p))) ∧ Hid (Below w1.heap.size w1 wr) ∧ Hid (∀ f ∈ (srtL L).take k, decide (f.at_ ≤ y) = true)) (fun _ i _ => ln - (intOf i).toNat)
  case atStart => exact ⟨0, Nat.zero_le _, rfl, Lib.hid (Own.nil _ _ _), Lib.hid (Below.refl _ _), Lib.hid (fun f hf => by simp at hf)⟩
  case round =>
    obtain ⟨k, hk, rfl, hO, hb, hle⟩ := hrel
    obtain ⟨oa, oc, rfl⟩ := hO.out.shape
    obtain ⟨P, hP⟩ : ∃ P, (D.take k).map (fun x : FD => x.p) = P := ⟨_, rfl⟩
    rw [hP] at hO ⊢
    have hPl : P.length = k := by rw [← hP, List.length_map, List.length_take, hDl'.out]; omega
    rw [hPl] at hO ⊢
    have hP' := Lib.hid hP
    have hPl' := Lib.hid hPl
    clear hP hPl
    have kb := Lib.hid (k1.out.trans (hb.out.mono k1.out.size))
    by_cases hlt : k < ln
    case neg =>
      have hkI : ¬ (k : Int) < ln := by omega
      have htw : Hid ((srtL L).takeWhile (fun f => decide (f.at_ ≤ y)) = (srtL L).take k ∧ (srtL L).dropWhile (fun f => decide (f.at_ ≤ y)) = (srtL L).drop k) := Lib.hid (takeWhile_eq (srtL L) k (by rw [hsl.out]; exact hk) hle.out (fun x hx => by rw [List.getElem?_eq_none (by rw [hsl.out]; omega)] at hx; cases hx))
      have B1 := Lib.hid (HQ.out.blk.below kb.out HQ.out.blk.lt)
      have OX := Lib.hid (own_rd_at (O1.out.ext hb.out)).1
      obtain ⟨al, hcL, hRL, hab⟩ := cut_l2 (P := Try.prog) OX.out 61 Try.underlying61 (by kernel_rfl) .i64 (k : Int) k rfl hk
      have RL := Lib.hid hRL
      have hab' := Lib.hid hab
      obtain ⟨kl, hkl⟩ : ∃ x, ln - k = x := ⟨_, rfl⟩
      obtain ⟨cl, hcl⟩ : ∃ x, vc - k = x := ⟨_, rfl⟩
      rw [hkl, hcl] at hcL RL
      clear hRL hab hkl hcl
      have hk0 : (0 : Int) ≤ k := by omega
      have hkn : (k : Int) ≤ ln := by omega
      have z1 : wr.frozen? ⟨r, 1, none⟩ = false := by rw [B1.out.frozen]; try simp
      have z5 : wr.frozen? ⟨r, 5, none⟩ = false := by rw [B1.out.frozen]; try simp
      have c1 : wr.cell? ⟨r, 1, none⟩ = some (.slice la ln lc) := (B1.out.cell 1).trans rfl
      have c5 : wr.cell? ⟨r, 5, none⟩ = some (.int .i64 taken) := (B1.out.cell 5).trans rfl
      go_upto_region 11 with (fail)
      obtain ⟨Z1, hZ⟩ : ∃ Z, wr.setCell ⟨r, 1, none⟩ (.slice al kl cl) = Z := ⟨_, rfl⟩
      rw [hZ]
      have T1 : Hid (Tch (fun g => g = r) wr Z1) := Lib.hid (by rw [← hZ]; exact Tch.setCell (S := fun g => g = r) wr (p := ⟨r, 1, none⟩) rfl _)
      have BZ1 : Hid (Blk Z1 r 75 (0, 0) [.slice fa fn fc, .slice al kl cl, .int .i64 sent, .int .i64 lost, .int .i64 forged, .int .i64 taken]) := Lib.hid (by rw [← hZ]; exact B1.out.set 1 _)
      clear hZ c1 z1 c5 z5 hcL
      obtain ⟨Z2, hZ⟩ : ∃ Z, Z1.setCell ⟨r, 5, none⟩ (.int .i64 (taken + k)) = Z := ⟨_, rfl⟩
      rw [hZ]
      have T2 : Hid (Tch (fun g => g = r) Z1 Z2) := Lib.hid (by rw [← hZ]; exact Tch.setCell (S := fun g => g = r) Z1 (p := ⟨r, 5, none⟩) rfl _)
      have BZ2 : Hid (Blk Z2 r 75 (0, 0) [.slice fa fn fc, .slice al kl cl, .int .i64 sent, .int .i64 lost, .int .i64 forged, .int .i64 (taken + k)]) := Lib.hid (by rw [← hZ]; exact BZ1.out.set 5 _)
      clear hZ
      have T := Lib.hid (T1.out.trans T2.out (fun _ _ e => e))
      have TW := Lib.hid ((Tch.of_below (S := fun g => g = r) kb.out).trans T.out (fun _ _ e => e))
      go_wp2_with fail
      refine bodyPost_ret (results_tmp2 rfl _ _ _) rfl ?_
      unfold RDB
      rw [hX1.out]
      dsimp only
      rw [htw.out.1, htw.out.2]
      refine ⟨oa, k, oc, rfl, ⟨P, T.out.rdn (own_rd_at hO.out).1 (fun b o s h0 e e2 => ?_), ?_, fun j q x hq hx => ?_⟩, ⟨fa, fn, fc, al, kl, cl, D.drop k, ?_, TW.out.rdn HQ.out.fates (fun b o s h0 e => (HQ.out.fo b o s h0 e).2), T.out.rdn RL.out (fun b o s h0 e e2 => ?_), ?_, fun j q f hq hf => ?_, HQ.out.rn, HQ.out.fo, fun b o s h0 e => ?_, fun q hq => HQ.out.do_ q ((srtK_mem _ _ q).1 (by have h9 := hD'.out; unfold srtD at h9; rw [h9]; exact List.mem_of_mem_drop hq))⟩, TW.out⟩
      · have h1 := (hO.out.lt b (by rw [e]; first | rfl | (rcases hO.out with ⟨e3, _⟩ | ⟨g, cap, Y, e3, _⟩; cases e3; cases e; injection e3 with e4; rw [e4] at e; cases e; rfl))).1
        have h2 := hrl.out
        have h3 := k1.out.size
        omega
      · rw [hPl'.out, List.length_map, List.length_take, hsl.out]; omega
      · rw [← hP'.out, List.getElem?_map, List.getElem?_take] at hq
        rw [List.getElem?_map, List.getElem?_take] at hx
        split at hq
        · rename_i hjk
          rw [if_pos hjk] at hx
          cases hd : D[j]? with
          | none => rw [hd] at hq; cases hq
          | some q0 =>
            cases hs : (srtL L)[j]? with
            | none => rw [hs] at hx; cases hx
            | some f0 =>
              rw [hd] at hq
              rw [hs] at hx
              cases hq
              cases hx
              have h1 := hrep.out j q0 f0 hd hs
              have hqm : q0 ∈ FL := (srtK_mem _ _ q0).1 (by have h9 := hD'.out; unfold srtD at h9; rw [h9]; exact List.mem_of_getElem? hd)
              exact ⟨h1.2.1, TW.out.rdn h1.2.2 (fun b o s h0 e => (HQ.out.do_ q0 hqm b o s h0 e).2)⟩
        · cases hq
      · rw [List.length_take, hsl.out, Nat.min_eq_left hk]; exact BZ2.out
      · obtain ⟨o2, s2, e3⟩ := hab'.out b o s e
        have h1 := (O1.out.lt b (by rw [e3]; first | rfl | (rcases O1.out with ⟨e5, _⟩ | ⟨g, cap, Y, e5, _⟩; cases e5; cases e3; injection e5 with e4; rw [e4] at e3; cases e3; rfl))).1
        have h2 := hrl.out
        omega
      · rw [List.length_drop, List.length_drop, hDl'.out, hsl.out]
      · rw [List.getElem?_drop] at hq hf
        have h1 := hrep.out _ q f hq hf
        have hqm : q ∈ FL := (srtK_mem _ _ q).1 (by have h9 := hD'.out; unfold srtD at h9; rw [h9]; exact List.mem_of_getElem? hq)
        exact ⟨h1.1, h1.2.1, TW.out.rdn h1.2.2 (fun b o s h0 e => (HQ.out.do_ q hqm b o s h0 e).2)⟩
      · obtain ⟨o2, s2, e3⟩ := hab'.out b o s e
        have h1 := (O1.out.lt b (by rw [e3]; first | rfl | (rcases O1.out with ⟨e5, _⟩ | ⟨g, cap, Y, e5, _⟩; cases e5; cases e3; injection e5 with e4; rw [e4] at e3; cases e3; rfl))).1
        have h2 := hrl.out
        exact ⟨fun h3 => by have h4 := hS.out b h3; omega, by omega⟩
    case pos =>
      have hkI : (k : Int) < ln := by omega
      have hk0 : (0 : Int) ≤ k := by omega
      obtain ⟨q, hq⟩ : ∃ q, D[k]? = some q := ⟨D[k]'(by rw [hDl'.out]; exact hlt), List.getElem?_eq_getElem _⟩
      obtain ⟨f, hf⟩ : ∃ f, (srtL L)[k]? = some f := ⟨(srtL L)[k]'(by rw [hsl.out]; exact hlt), List.getElem?_eq_getElem _⟩
      have hq' := Lib.hid hq
      have hf' := Lib.hid hf
      have hqf : Hid (q.at_ = f.at_) := Lib.hid (hrep.out k q f hq hf).1
      obtain ⟨b1, o1, e1, d0, d1, d2, d3, d4, d5, d6⟩ := fd_cells ((own_rd_at O1.out).1.ext hb.out) hq
      subst e1
      clear hq hf
      by_cases hat : q.at_ ≤ y
      case neg =>
        skip
        clear hk0
        have htw : Hid ((srtL L).takeWhile (fun f => decide (f.at_ ≤ y)) = (srtL L).take k ∧ (srtL L).dropWhile (fun f => decide (f.at_ ≤ y)) = (srtL L).drop k) := Lib.hid (takeWhile_eq (srtL L) k (by rw [hsl.out]; exact hk) hle.out (fun x hx => by rw [hf'.out] at hx; cases hx; have h1 := hqf.out; exact decide_eq_false (by omega)))
        have B1 := Lib.hid (HQ.out.blk.below kb.out HQ.out.blk.lt)
        have OX := Lib.hid (own_rd_at (O1.out.ext hb.out)).1
        obtain ⟨al, hcL, hRL, hab⟩ := cut_l2 (P := Try.prog) OX.out 61 Try.underlying61 (by kernel_rfl) .i64 (k : Int) k rfl hk
        have RL := Lib.hid hRL
        have hab' := Lib.hid hab
        obtain ⟨kl, hkl⟩ : ∃ x, ln - k = x := ⟨_, rfl⟩
        obtain ⟨cl, hcl⟩ : ∃ x, vc - k = x := ⟨_, rfl⟩
        rw [hkl, hcl] at hcL RL
        clear hRL hab hkl hcl
        have hk0 : (0 : Int) ≤ k := by omega
        have hkn : (k : Int) ≤ ln := by omega
        have z1 : wr.frozen? ⟨r, 1, none⟩ = false := by rw [B1.out.frozen]; try simp
        have z5 : wr.frozen? ⟨r, 5, none⟩ = false := by rw [B1.out.frozen]; try simp
        have c1 : wr.cell? ⟨r, 1, none⟩ = some (.slice la ln lc) := (B1.out.cell 1).trans rfl
        have c5 : wr.cell? ⟨r, 5, none⟩ = some (.int .i64 taken) := (B1.out.cell 5).trans rfl
        go_upto_region 11 with (fail)
        obtain ⟨Z1, hZ⟩ : ∃ Z, wr.setCell ⟨r, 1, none⟩ (.slice al kl cl) = Z := ⟨_, rfl⟩
        rw [hZ]
        have T1 : Hid (Tch (fun g => g = r) wr Z1) := Lib.hid (by rw [← hZ]; exact Tch.setCell (S := fun g => g = r) wr (p := ⟨r, 1, none⟩) rfl _)
        have BZ1 : Hid (Blk Z1 r 75 (0, 0) [.slice fa fn fc, .slice al kl cl, .int .i64 sent, .int .i64 lost, .int .i64 forged, .int .i64 taken]) := Lib.hid (by rw [← hZ]; exact B1.out.set 1 _)
        clear hZ c1 z1 c5 z5 hcL
        obtain ⟨Z2, hZ⟩ : ∃ Z, Z1.setCell ⟨r, 5, none⟩ (.int .i64 (taken + k)) = Z := ⟨_, rfl⟩
        rw [hZ]
        have T2 : Hid (Tch (fun g => g = r) Z1 Z2) := Lib.hid (by rw [← hZ]; exact Tch.setCell (S := fun g => g = r) Z1 (p := ⟨r, 5, none⟩) rfl _)
        have BZ2 : Hid (Blk Z2 r 75 (0, 0) [.slice fa fn fc, .slice al kl cl, .int .i64 sent, .int .i64 lost, .int .i64 forged, .int .i64 (taken + k)]) := Lib.hid (by rw [← hZ]; exact BZ1.out.set 5 _)
        clear hZ
        have T := Lib.hid (T1.out.trans T2.out (fun _ _ e => e))
        have TW := Lib.hid ((Tch.of_below (S := fun g => g = r) kb.out).trans T.out (fun _ _ e => e))
        go_wp2_with fail
        refine bodyPost_ret (results_tmp2 rfl _ _ _) rfl ?_
        unfold RDB
        rw [hX1.out]
        dsimp only
        rw [htw.out.1, htw.out.2]
        refine ⟨oa, k, oc, rfl, ⟨P, T.out.rdn (own_rd_at hO.out).1 (fun b o s h0 e e2 => ?_), ?_, fun j q x hq hx => ?_⟩, ⟨fa, fn, fc, al, kl, cl, D.drop k, ?_, TW.out.rdn HQ.out.fates (fun b o s h0 e => (HQ.out.fo b o s h0 e).2), T.out.rdn RL.out (fun b o s h0 e e2 => ?_), ?_, fun j q f hq hf => ?_, HQ.out.rn, HQ.out.fo, fun b o s h0 e => ?_, fun q hq => HQ.out.do_ q ((srtK_mem _ _ q).1 (by have h9 := hD'.out; unfold srtD at h9; rw [h9]; exact List.mem_of_mem_drop hq))⟩, TW.out⟩
        · have h1 := (hO.out.lt b (by rw [e]; first | rfl | (rcases hO.out with ⟨e3, _⟩ | ⟨g, cap, Y, e3, _⟩; cases e3; cases e; injection e3 with e4; rw [e4] at e; cases e; rfl))).1
          have h2 := hrl.out
          have h3 := k1.out.size
          omega
        · rw [hPl'.out, List.length_map, List.length_take, hsl.out]; omega
        · rw [← hP'.out, List.getElem?_map, List.getElem?_take] at hq
          rw [List.getElem?_map, List.getElem?_take] at hx
          split at hq
          · rename_i hjk
            rw [if_pos hjk] at hx
            cases hd : D[j]? with
            | none => rw [hd] at hq; cases hq
            | some q0 =>
              cases hs : (srtL L)[j]? with
              | none => rw [hs] at hx; cases hx
              | some f0 =>
                rw [hd] at hq
                rw [hs] at hx
                cases hq
                cases hx
                have h1 := hrep.out j q0 f0 hd hs
                have hqm : q0 ∈ FL := (srtK_mem _ _ q0).1 (by have h9 := hD'.out; unfold srtD at h9; rw [h9]; exact List.mem_of_getElem? hd)
                exact ⟨h1.2.1, TW.out.rdn h1.2.2 (fun b o s h0 e => (HQ.out.do_ q0 hqm b o s h0 e).2)⟩
          · cases hq
        · rw [List.length_take, hsl.out, Nat.min_eq_left hk]; exact BZ2.out
        · obtain ⟨o2, s2, e3⟩ := hab'.out b o s e
          have h1 := (O1.out.lt b (by rw [e3]; first | rfl | (rcases O1.out with ⟨e5, _⟩ | ⟨g, cap, Y, e5, _⟩; cases e5; cases e3; injection e5 with e4; rw [e4] at e3; cases e3; rfl))).1
          have h2 := hrl.out
          omega
        · rw [List.length_drop, List.length_drop, hDl'.out, hsl.out]
        · rw [List.getElem?_drop] at hq hf
          have h1 := hrep.out _ q f hq hf
          have hqm : q ∈ FL := (srtK_mem _ _ q).1 (by have h9 := hD'.out; unfold srtD at h9; rw [h9]; exact List.mem_of_getElem? hq)
          exact ⟨h1.1, h1.2.1, TW.out.rdn h1.2.2 (fun b o s h0 e => (HQ.out.do_ q hqm b o s h0 e).2)⟩
        · obtain ⟨o2, s2, e3⟩ := hab'.out b o s e
          have h1 := (O1.out.lt b (by rw [e3]; first | rfl | (rcases O1.out with ⟨e5, _⟩ | ⟨g, cap, Y, e5, _⟩; cases e5; cases e3; injection e5 with e4; rw [e4] at e3; cases e3; rfl))).1
          have h2 := hrl.out
          exact ⟨fun h3 => by have h4 := hS.out b h3; omega, by omega⟩
      case pos =>
        obtain ⟨q0, q1⟩ := q
        obtain ⟨h, da, dn, dc⟩ := q1
        dsimp only at d0 d1 d2 d3 d4 d5 d6 hat hqf
        obtain ⟨W2, hW2⟩ : ∃ W, wr.alloc (.cells #[.int .u32 h.from_, .int .u16 h.fport, .int .u32 h.to_, .int .u16 h.tport, .bool h.stream, .slice da dn dc] 32) = W := ⟨_, rfl⟩
        have B2 : Hid (Blk W2 wr.heap.size 32 (0, 0) [.int .u32 h.from_, .int .u16 h.fport, .int .u32 h.to_, .int .u16 h.tport, .bool h.stream, .slice da dn dc]) := Lib.hid (by rw [← hW2]; exact Blk.new wr 32 (0, 0) #[.int .u32 h.from_, .int .u16 h.fport, .int .u32 h.to_, .int .u16 h.tport, .bool h.stream, .slice da dn dc])
        have k2 : Hid (Below wr.heap.size wr W2) := Lib.hid (by rw [← hW2]; exact alloc_bel _ _)
        obtain ⟨i0, hi0, hz0, hz1, hz2⟩ := info_parts Try.info32
        have hsrc : Hid (Src Try.prog pkE.k 35 (.slice (some ⟨wr.heap.size, 0, none⟩) 1 1) 1 (rowOf pkE [(⟨h, da, dn, dc⟩ : PD)]) W2) := Lib.hid ((rd_blk (E := pkE) (X := [(⟨h, da, dn, dc⟩ : PD)]) (fz := (0, 0)) B2.out 1 rfl (by decide)).src (P := Try.prog) (tx := 35) Try.underlying35)
        have O2 := Lib.hid (hO.out.ext k2.out)
        have K2 := Lib.hid (hb.out.trans (k2.out.mono hb.out.size))
        have hd1 : Hid (P.length + [(⟨h, da, dn, dc⟩ : PD)].length ≤ maxLen) := Lib.hid (by rw [hPl'.out]; simp [maxLen]; omega)
        have hd2 : Hid ((P.length + [(⟨h, da, dn, dc⟩ : PD)].length) * 40 ≤ 140737488355328) := Lib.hid (by rw [hPl'.out]; simp; omega)
        have hlt2 : Hid (wr.heap.size < W2.heap.size) := Lib.hid B2.out.lt
        have htk : Hid (P ++ [(⟨h, da, dn, dc⟩ : PD)] = (D.take (k + 1)).map (fun x : FD => x.p)) := Lib.hid (by rw [List.take_add_one, hq'.out, ← hP'.out]; simp)
        have hle2 : Hid (∀ f ∈ (srtL L).take (k + 1), decide (f.at_ ≤ y) = true) := Lib.hid (fun g hg => by
          rw [List.take_add_one, hf'.out] at hg
          rcases List.mem_append.1 hg with hg | hg
          · exact hle.out g hg
          · have h2 : g = f := by simpa using hg
            subst h2
            have h1 := hqf.out
            exact decide_eq_true (by omega))
        clear B2
        go_wp2_with (at_builtin; refine app_own (E := pkE) (l := P) (news := [(⟨h, da, dn, dc⟩ : PD)]) (base := w1.heap.size) rfl (.tmp 30) (.tmp 36) 35 35 rfl Try.underlying35 hi0 hz0 hz1 hz2 rfl rfl O2.out rfl hsrc.out hd1.out hd2.out K2.out.size ?_)
        intro v9 w9 ho9 hg9 _
        rw [htk.out] at ho9
        have O9 := Lib.hid ho9
        have kk := Lib.hid (own_below K2.out hg9 O2.out K2.out.size (Nat.le_refl _))
        clear ho9 hg9 O2 hsrc hd1 hd2 hW2 k2 d0 d1 d2 d3 d4 d5 d6
        go_wp2_with fail
        go_roundw
        case rel => exact ⟨k + 1, by omega, by go_num, O9, kk, hle2⟩
        case measure => simp [intOf]; omega
end Go.Proofs.Ythdnbipfdahnlaa
