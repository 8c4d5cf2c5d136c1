/- The document's network: Send 31. Printed by gen_nty.py. -/
import Derived.Test.YthdnbipfdahnlaaNtX
namespace Go.Proofs.Ythdnbipfdahnlaa
open Go Go.RowKit
/-- s[lo:], and which block it lies in -/
theorem cut_l2 {α : Type} {P : Program} {E : Enc α} {w : World} {a : Option Addr} {n c : Nat} {l : List α} (h : Rd E w a n c l) (t : TypeId) (ht : P.underlying t = some (.slice E.e)) (hs : (P.info? E.e).map (·.size) = some E.k)
    (kl : IntKind) (lo : Int) (lo' : Nat) (e1 : lo = lo') (h1 : lo' ≤ n) :
    ∃ a', (∀ u, (Instr.slice t (.slice a n c) (some (.int kl lo)) none none).run P u = .ok (.slice a' (n - lo') (c - lo')) u) ∧ Rd E w a' (n - lo') (c - lo') (l.drop lo') ∧ ∀ b o s, a' = some ⟨b, o, s⟩ → ∃ o2 s2, a = some ⟨b, o2, s2⟩ := by
  subst e1
  have hc := h.cap
  have hl := h.len
  have hcut := h.cut lo' n c h1 (Nat.le_refl _) hc (Nat.le_refl _)
  rw [List.take_of_length_le (by omega)] at hcut
  refine ⟨_, fun u => ?_, hcut, fun b o s e => ?_⟩
  · have ee := elem_of ht
    rw [run_slice_l u t a n c (by rw [ee]; exact ht) kl lo' (by omega) (by omega), ee, run_sizeOf_info hs]
    simp [Result.andThen, sliced]
  · split at e
    · exact ⟨_, _, e⟩
    · cases a with
      | none => cases e
      | some x =>
        simp only [Option.map_some, Option.some.injEq] at e
        obtain ⟨xb, xo, xs⟩ := x
        have e2 : (Addr.add ⟨xb, xo, xs⟩ (lo' * E.k)).block = xb := by unfold Addr.add; split <;> rfl
        rw [e] at e2
        have e3 : b = xb := e2
        subst e3
        exact ⟨_, _, rfl⟩
theorem RepN.mono {w : World} {base base' : Nat} {FN : List FD} {L : List Fl} (h : RepN w base FN L) (hb : base' ≤ base) : RepN w base' FN L := ⟨h.1, fun j q f hq hf => ⟨(h.2 j q f hq hf).1, (h.2 j q f hq hf).2.1, (h.2 j q f hq hf).2.2.mono hb⟩⟩
theorem RepN.tch {w w' : World} {base : Nat} {FN : List FD} {L : List Fl} {T : Nat → Prop} (h : RepN w base FN L) (t : Tch T w w') (hT : ∀ g, T g → g < base) : RepN w' base FN L := ⟨h.1, fun j q f hq hf => ⟨(h.2 j q f hq hf).1, (h.2 j q f hq hf).2.1, t.own (h.2 j q f hq hf).2.2 (fun b hb e => by have h1 := ((h.2 j q f hq hf).2.2.lt b hb).1; have h2 := hT b e; omega)⟩⟩
/-- flights are laid behind the others -/
theorem ref_app {w V : World} {S : Nat → Prop} {r : Nat} {fa : Option Addr} {fn fc : Nat} {F : List Fate} {la : Option Addr} {ln lc : Nat} {FL : List FD} {L : List Fl} {c : Cn} (hQ : RefQ w S r fa fn fc F la ln lc FL L c) (t : Tch (fun g => g = r) w V) {B : Nat} (hS : ∀ g, S g → g < B) (hr : r < B) {fa' : Option Addr} {fn' fc' : Nat} {F' : List Fate} (hf : Rd fateE V fa' fn' fc' F')
    (hfo : ∀ b o s, 0 < fn' → fa' = some ⟨b, o, s⟩ → ¬ S b ∧ b ≠ r) {va : Option Addr} {n c2 : Nat} {FN : List FD} {LN : List Fl} (ho : Own flE V B (.slice va n c2) (FL ++ FN)) (hN : RepN V B FN LN) {c' : Cn}
    (hB : Blk V r 75 (0, 0) [.slice fa' fn' fc', .slice va n c2, .int .i64 c'.sent, .int .i64 c'.lost, .int .i64 c'.forged, .int .i64 c'.taken]) : RefP V S r F' (L ++ LN) c' := by
  have hnew : ∀ b, B ≤ b → ¬ S b ∧ b ≠ r := fun b hb => ⟨fun e => by have := hS b e; omega, by omega⟩
  have hold : ∀ q ∈ FL, ∀ f, RepR w q f → RepR V q f := fun q hq f hr => ⟨hr.1, hr.2.1, t.rdn hr.2.2 (fun b o s h0 e => (hQ.do_ q hq b o s h0 e).2)⟩
  refine ⟨fa', fn', fc', va, n, c2, FL ++ FN, hB, hf, (own_rd_at ho).1, ?_, fun j q f hq hf => ?_, hQ.rn, hfo, fun b o s h0 e => ?_, fun q hq b o s h0 e => ?_⟩
  · rw [List.length_append, List.length_append, hQ.len, hN.1]
  · by_cases hj : j < FL.length
    · rw [List.getElem?_append_left hj] at hq
      rw [List.getElem?_append_left (by rw [← hQ.len]; exact hj)] at hf
      exact hold q (List.mem_of_getElem? hq) f (hQ.rep j q f hq hf)
    · rw [List.getElem?_append_right (by omega)] at hq
      rw [List.getElem?_append_right (by rw [← hQ.len]; omega), ← hQ.len] at hf
      have h1 := hN.2 _ q f hq hf
      exact ⟨h1.1, h1.2.1, (own_rd_at (by have h2 := h1.2.2; unfold dV at h2; exact h2)).1⟩
  · refine hnew b (ho.lt b ?_).1
    rcases ho with ⟨e2, _⟩ | ⟨g, cap, X, e2, _⟩
    · cases e2; cases e
    · injection e2 with e3; rw [e3] at e; cases e; rw [e3]; rfl
  · rcases List.mem_append.1 hq with hq | hq
    · exact hQ.do_ q hq b o s h0 e
    · obtain ⟨j, hj, rfl⟩ := List.getElem_of_mem hq
      have h1 := (hN.2 j FN[j] (LN[j]'(by have := hN.1; omega)) (List.getElem?_eq_getElem hj) (List.getElem?_eq_getElem _)).2.2
      refine hnew b (h1.lt b ?_).1
      unfold dV at h1 ⊢
      rcases h1 with ⟨e2, _⟩ | ⟨g, cap, X, e2, _⟩
      · injection e2 with e3; rw [e3] at e; cases e
      · injection e2 with e3; rw [e3] at e; cases e; rw [e3]; rfl
/-- what the document's Send does -/
def rsendS (F : List Fate) (L : List Fl) (c : Cn) (h : Hd) (d : List UInt8) (y : Int) : Int × Int × List Fate × List Fl × Cn :=
  if chk d.length y ≠ 0 then (0, chk d.length y, F, L, c) else
  if 16384 < L.length + cntF (F.headD (0, 0, 0)) then (0, 14, F, L, c) else
  (cntF (F.headD (0, 0, 0)), 0, F.tail, L ++ flsF (F.headD (0, 0, 0)) h d y, { c with sent := c.sent + 1, lost := c.lost + if (F.headD (0, 0, 0)).1 = 1 then 1 else 0 })
def RSB (w : World) (S : Nat → Prop) (r : Nat) (x : Int × Int × List Fate × List Fl × Cn) (e : Ending) (w' : World) : Prop := e = .returned (.tuple #[.int .i64 x.1, .int .i64 x.2.1]) ∧ RefP w' S r x.2.2.1 x.2.2.2.1 x.2.2.2.2 ∧ Tch (fun g => g = r) w w'
set_option maxHeartbeats 8000000 in
set_option maxRecDepth 100000 in
theorem rsend_any {w : World} {S : Nat → Prop} {r : Nat} {F : List Fate} {L : List Fl} {c : Cn} (hP : RefP w S r F L c) (hF : ∀ f ∈ F, mayF f = true) (hL : L.length ≤ 16384) (hc : 0 ≤ c.sent ∧ c.sent ≤ 1000000000000) (hc2 : 0 ≤ c.lost ∧ c.lost ≤ 1000000000000) (hFl : F.length ≤ 65536) (hSw : ∀ g, S g → g < w.heap.size) (h : Hd) {da : Option Addr} {dn dc : Nat} {d : List UInt8} (hp : Rd byteE w da dn dc d) (hn : dn ≤ 140737488355328) (y : Int) :
    Calls Try.prog 31 #[.pointer (some ⟨r, 0, none⟩), pkV h (.slice da dn dc), .int .i64 y] w fun e w' => RSB w S r (rsendS F L c h d y) e w' := by
  obtain ⟨fa, fn, fc, la, ln, lc, FL, hQ⟩ := hP
  obtain ⟨sent, lost, forged, taken⟩ := c
  dsimp only at hc hc2
  obtain ⟨s0, s1⟩ := hc
  obtain ⟨l0, l1⟩ := hc2
  have hdl := Lib.hid hp.len
  have hfn := Lib.hid hQ.fates.len
  have hln := Lib.hid hQ.ls.len
  have hlL1 : ln ≤ L.length := by have h1 := hQ.ls.len; have h2 := hQ.len; omega
  have hlL2 : L.length ≤ ln := by have h1 := hQ.ls.len; have h2 := hQ.len; omega
  have hlF1 : ln ≤ FL.length := by have h1 := hQ.ls.len; omega
  have hlF2 : FL.length ≤ ln := by have h1 := hQ.ls.len; omega
  obtain ⟨X, hX⟩ : ∃ X, rsendS F L ⟨sent, lost, forged, taken⟩ h d y = X := ⟨_, rfl⟩
  rw [hX]
  unfold rsendS at hX
  replace hX := Lib.hid hX
  have hF' := Lib.hid hF
  have hS := Lib.hid hSw
  clear hF hSw
  unfold pkV
  obtain ⟨W1, hW1⟩ : ∃ W, w.alloc (.cells #[.int .u32 h.from_, .int .u16 h.fport, .int .u32 h.to_, .int .u16 h.tport, .bool h.stream, .slice da dn dc] 32) = W := ⟨_, rfl⟩
  have B1 : Hid (Blk W1 w.heap.size 32 (0, 0) [.int .u32 h.from_, .int .u16 h.fport, .int .u32 h.to_, .int .u16 h.tport, .bool h.stream, .slice da dn dc]) := Lib.hid (by rw [← hW1]; exact Blk.new w 32 (0, 0) #[.int .u32 h.from_, .int .u16 h.fport, .int .u32 h.to_, .int .u16 h.tport, .bool h.stream, .slice da dn dc])
  have k1 : Hid (Below w.heap.size w W1) := Lib.hid (by rw [← hW1]; exact alloc_bel _ _)
  have HQ := Lib.hid hQ
  have Q1 := Lib.hid (hQ.tch (Tch.of_below (S := fun _ => False) k1.out) (fun _ _ e => e.elim) (fun _ _ e => e))
  have HP := Lib.hid hp
  clear hQ hp
  have hwr := Lib.hid (wrong_any W1 h da (dc := dc) hn y)
  unfold pkV at hwr
  have p0 : W1.cell? ⟨w.heap.size, 0, none⟩ = some (.int .u32 h.from_) := (B1.out.cell 0).trans rfl
  have p1 : W1.cell? ⟨w.heap.size, 1, none⟩ = some (.int .u16 h.fport) := (B1.out.cell 1).trans rfl
  have p2 : W1.cell? ⟨w.heap.size, 2, none⟩ = some (.int .u32 h.to_) := (B1.out.cell 2).trans rfl
  have p3 : W1.cell? ⟨w.heap.size, 3, none⟩ = some (.int .u16 h.tport) := (B1.out.cell 3).trans rfl
  have p4 : W1.cell? ⟨w.heap.size, 4, none⟩ = some (.bool h.stream) := (B1.out.cell 4).trans rfl
  have p5 : W1.cell? ⟨w.heap.size, 5, none⟩ = some (.slice da dn dc) := (B1.out.cell 5).trans rfl
  go_enter Try.func31, Try.ntmps31
  go_upto_region 1 with (fail)
  try rw [hW1]
  clear hW1
  go_wp2_with fail
  refine hwr.out.mono ?_
  rintro e w2 ⟨rfl, hb⟩
  have k2 := Lib.hid (k1.out.trans (hb.mono k1.out.size))
  have B2 := Lib.hid (B1.out.below hb B1.out.lt)
  have Q2 := Lib.hid (HQ.out.tch (Tch.of_below (S := fun _ => False) k2.out) (fun _ _ e => e.elim) (fun _ _ e => e))
  have hrl : Hid (r < w.heap.size ∧ w.heap.size < w2.heap.size) := Lib.hid ⟨HQ.out.blk.lt, B2.out.lt⟩
  clear hb hwr p0 p1 p2 p3 p4 p5 B1 k1 Q1
  by_cases hc1 : chk dn y = 0
  case neg =>
    have hX1 : Hid (X = (0, chk dn y, F, L, ⟨sent, lost, forged, taken⟩)) := Lib.hid (by rw [← hX.out, hdl.out, if_pos hc1])
    have hci : (chk dn y == 0) = false := by simpa using hc1
    clear hX
    obtain ⟨z, hz⟩ : ∃ z, chk dn y = z := ⟨_, rfl⟩
    rw [hz] at hX1 hci hc1 ⊢
    go_wp2_with fail
    refine bodyPost_ret (results_tmp2 rfl _ _ _) rfl ?_
    rw [hX1.out]
    exact ⟨rfl, ⟨_, _, _, _, _, _, _, Q2.out⟩, Tch.of_below k2.out⟩
  case pos =>
    obtain ⟨hd1, hy0, hy1⟩ := chk_ok hc1
    rw [hc1]
    obtain ⟨W3, hW3⟩ : ∃ W, w2.alloc (.cells #[.int .i64 0, .int .i64 0, .int .i64 0] 51) = W := ⟨_, rfl⟩
    have B3 : Hid (Blk W3 w2.heap.size 51 (0, 0) [.int .i64 0, .int .i64 0, .int .i64 0]) := Lib.hid (by rw [← hW3]; exact Blk.new w2 51 (0, 0) #[.int .i64 0, .int .i64 0, .int .i64 0])
    have k3 : Hid (Below w2.heap.size w2 W3) := Lib.hid (by rw [← hW3]; exact alloc_bel _ _)
    have k3w := Lib.hid (k2.out.trans (k3.out.mono k2.out.size))
    have B2p := Lib.hid (B2.out.below k3.out B2.out.lt)
    have Q3 := Lib.hid (HQ.out.tch (Tch.of_below (S := fun _ => False) k3w.out) (fun _ _ e => e.elim) (fun _ _ e => e))
    have c0 : W3.cell? ⟨r, 0, none⟩ = some (.slice fa fn fc) := (Q3.out.blk.cell 0).trans rfl
    rcases F with _ | ⟨f0, F⟩
    case nil =>
      obtain rfl : fn = 0 := by simpa using hfn.out.symm
      go_upto_region 7 with (fail)
      try rw [hW3]
      clear hW3 c0
      have p0 : W3.cell? ⟨w.heap.size, 0, none⟩ = some (.int .u32 h.from_) := (B2p.out.cell 0).trans rfl
      have p1 : W3.cell? ⟨w.heap.size, 1, none⟩ = some (.int .u16 h.fport) := (B2p.out.cell 1).trans rfl
      have p2 : W3.cell? ⟨w.heap.size, 2, none⟩ = some (.int .u32 h.to_) := (B2p.out.cell 2).trans rfl
      have p3 : W3.cell? ⟨w.heap.size, 3, none⟩ = some (.int .u16 h.tport) := (B2p.out.cell 3).trans rfl
      have p4 : W3.cell? ⟨w.heap.size, 4, none⟩ = some (.bool h.stream) := (B2p.out.cell 4).trans rfl
      have p5 : W3.cell? ⟨w.heap.size, 5, none⟩ = some (.slice da dn dc) := (B2p.out.cell 5).trans rfl
      have f0 : W3.cell? ⟨w2.heap.size, 0, none⟩ = some (.int .i64 0) := (B3.out.cell 0).trans rfl
      have f1 : W3.cell? ⟨w2.heap.size, 1, none⟩ = some (.int .i64 0) := (B3.out.cell 1).trans rfl
      have f2 : W3.cell? ⟨w2.heap.size, 2, none⟩ = some (.int .i64 0) := (B3.out.cell 2).trans rfl
      have hfl := Lib.hid (flights_any ((0, 0, 0) : Fate) (by decide) h (HP.out.ext k3w.out) hn y ⟨hy0, hy1⟩)
      unfold pkV ftV at hfl
      go_wp2_with fail
      refine hfl.out.mono ?_
      rintro e w5 ⟨⟨v, FN, rfl, ho, hN⟩, hb⟩
      obtain ⟨va, vc, rfl⟩ := ho.shape
      have hNl := hN.1
      have hcl := flsF_len ((0, 0, 0) : Fate) h d y
      obtain ⟨m, hm⟩ : ∃ m, FN.length = m := ⟨_, rfl⟩
      rw [hm] at ho ⊢
      have hmc : Hid (m = cntF ((0, 0, 0) : Fate) ∧ FN.length = m) := Lib.hid ⟨by omega, hm⟩
      have hm2 : m ≤ 2 := by rw [hmc.out.1]; unfold cntF; split <;> (try split) <;> omega
      have K5 := Lib.hid (k3w.out.trans (hb.mono k3w.out.size))
      have B5f := Lib.hid (B3.out.below hb B3.out.lt)
      have Q5 := Lib.hid (Q3.out.tch (Tch.of_below (S := fun _ => False) hb) (fun _ _ e => e.elim) (fun _ _ e => e))
      have O5 := Lib.hid (ho.mono k3w.out.size)
      have N5 := Lib.hid hN
      have hXs : Hid (w.heap.size ≤ W3.heap.size) := Lib.hid k3w.out.size
      clear ho hN hb hfl hNl hcl hm p0 p1 p2 p3 p4 p5 f0 f1 f2
      have c0 : w5.cell? ⟨r, 0, none⟩ = some (.slice fa 0 fc) := (Q5.out.blk.cell 0).trans rfl
      have c1 : w5.cell? ⟨r, 1, none⟩ = some (.slice la ln lc) := (Q5.out.blk.cell 1).trans rfl
      have c2 : w5.cell? ⟨r, 2, none⟩ = some (.int .i64 sent) := (Q5.out.blk.cell 2).trans rfl
      have c3 : w5.cell? ⟨r, 3, none⟩ = some (.int .i64 lost) := (Q5.out.blk.cell 3).trans rfl
      have c4 : w5.cell? ⟨r, 4, none⟩ = some (.int .i64 forged) := (Q5.out.blk.cell 4).trans rfl
      have c5 : w5.cell? ⟨r, 5, none⟩ = some (.int .i64 taken) := (Q5.out.blk.cell 5).trans rfl
      by_cases hfull : 16384 < ln + m
      · have hX1 : Hid (X = (0, 14, ([] : List Fate), L, ⟨sent, lost, forged, taken⟩)) := Lib.hid (by rw [← hX.out, hdl.out, if_neg (by simp [hc1]), if_pos (show 16384 < L.length + cntF (([] : List Fate).headD (0, 0, 0)) by show 16384 < L.length + cntF ((0, 0, 0) : Fate); have h1 := hmc.out.1; omega)])
        have hfI : (16384 : Int) < (ln : Int) + m := by omega
        go_wp2_with fail
        refine bodyPost_ret (results_tmp2 rfl _ _ _) rfl ?_
        rw [hX1.out]
        exact ⟨rfl, ⟨_, _, _, _, _, _, _, Q5.out⟩, Tch.of_below K5.out⟩
      have hX1 : Hid (X = ((cntF ((0, 0, 0) : Fate) : Int), 0, ([] : List Fate), L ++ flsF ((0, 0, 0) : Fate) h d y, (⟨sent + 1, lost + if ((0, 0, 0) : Fate).1 = 1 then 1 else 0, forged, taken⟩ : Cn))) := Lib.hid (by rw [← hX.out, hdl.out, if_neg (by simp [hc1]), if_neg (show ¬ 16384 < L.length + cntF (([] : List Fate).headD (0, 0, 0)) by show ¬ 16384 < L.length + cntF ((0, 0, 0) : Fate); have h1 := hmc.out.1; omega)]; rfl)
      have hfI : ¬ (16384 : Int) < (ln : Int) + m := by omega
      clear hX
      go_upto_region 12 with (fail)
      clear c0 c1 c2 c3 c4 c5
      have T6 : Hid (Tch (fun g => g = r) w5 w5) := Lib.hid (Tch.refl _ _)
      have B6 := Lib.hid Q5.out.blk
      have hf6 : Hid (Rd fateE w5 fa 0 fc [] ∧ ∀ b o s, 0 < 0 → fa = some ⟨b, o, s⟩ → ¬ S b ∧ b ≠ r) := Lib.hid ⟨Q5.out.fates, Q5.out.fo⟩
      obtain ⟨j0, hj, jz0, jz1, jz2⟩ := info_parts Try.info71
      obtain ⟨W7, hW7⟩ : ∃ W, w5.alloc (.cells #[] 71) = W := ⟨_, rfl⟩
      have k7 : Hid (Below w5.heap.size w5 W7) := Lib.hid (by rw [← hW7]; exact alloc_bel _ _)
      have own7 : Hid (Own flE W7 w5.heap.size (.slice (some ⟨w5.heap.size, 0, none⟩) 0 0) []) := Lib.hid (by rw [← hW7]; exact Own.made flE w5 #[] [] 0 rfl rfl (by simp [maxLen]))
      have rdL : Hid (Rd flE w5 la ln lc FL) := Lib.hid (T6.out.rdn Q5.out.ls (fun b o s h0 e => (Q5.out.lo b o s h0 e).2))
      have src1 := Lib.hid ((rdL.out.ext k7.out).src (P := Try.prog) Try.underlying61)
      have hsz6 : Hid (w.heap.size ≤ w5.heap.size ∧ r < w5.heap.size) := Lib.hid (by have h1 := K5.out.size; have h2 := T6.out.size; have h3 := hrl.out.1; omega)
      have hc1 : Hid (([] : List FD).length + FL.length ≤ maxLen) := Lib.hid (by simp [maxLen]; omega)
      have hc2 : Hid ((([] : List FD).length + FL.length) * 48 ≤ 140737488355328) := Lib.hid (by simp; omega)
      have c1 : W7.cell? ⟨r, 1, none⟩ = some (.slice la ln lc) := ((B6.out.below k7.out B6.out.lt).cell 1).trans rfl
      go_wp2_with (at_builtin; refine app_own (E := flE) (l := []) (news := FL) (base := w5.heap.size) rfl (.tmp 57) (.tmp 61) 61 61 rfl Try.underlying61 hj jz0 jz1 jz2 rfl rfl own7.out rfl src1.out hc1.out hc2.out k7.out.size ?_)
      intro v8 w8 ho8 hg8 _
      obtain ⟨a8, c8, rfl⟩ := ho8.shape
      try rw [List.nil_append] at ho8
      try rw [List.nil_append]
      rw [hln.out] at ho8 ⊢
      have k8 : Hid (Below w5.heap.size w5 w8) := Lib.hid (own_below k7.out hg8 own7.out k7.out.size (Nat.le_refl _))
      have own8 := Lib.hid ho8
      clear ho8 hg8 own7 src1 hc1 hc2 hW7 k7 c1
      have rdN : Hid (Rd flE w8 va m vc FN) := Lib.hid (((T6.out.own O5.out (fun b hb e => by have h1 := (O5.out.lt b hb).1; have h2 := hrl.out.1; omega)).ext k8.out) |> own_rd_at |>.1)
      have src2 := Lib.hid (rdN.out.src (P := Try.prog) Try.underlying61)
      have hc1 : Hid (FL.length + FN.length ≤ maxLen) := Lib.hid (by have h1 := hmc.out.2; simp [maxLen]; omega)
      have hc2 : Hid ((FL.length + FN.length) * 48 ≤ 140737488355328) := Lib.hid (by have h1 := hmc.out.2; omega)
      have B8 := Lib.hid (B6.out.below k8.out B6.out.lt)
      go_wp2_with (at_builtin; refine app_own (E := flE) (l := FL) (news := FN) (base := w5.heap.size) rfl (.tmp 62) (.tmp 63) 61 61 rfl Try.underlying61 hj jz0 jz1 jz2 rfl rfl own8.out rfl src2.out hc1.out hc2.out k8.out.size ?_)
      intro v9 w9 ho9 hg9 _
      obtain ⟨a9, c9, rfl⟩ := ho9.shape
      obtain ⟨nn, hnn⟩ : ∃ x, (FL ++ FN).length = x := ⟨_, rfl⟩
      rw [hnn] at ho9 ⊢
      clear hnn
      have k9 : Hid (Below w5.heap.size w5 w9) := Lib.hid (own_below k8.out hg9 own8.out k8.out.size (Nat.le_refl _))
      have own9 := Lib.hid ho9
      have B9 := Lib.hid (B6.out.below k9.out B6.out.lt)
      clear ho9 hg9 own8 src2 hc1 hc2 k8 rdN B8
      have z1 : w9.frozen? ⟨r, 1, none⟩ = false := by rw [B9.out.frozen]; try simp
      have c1 : w9.cell? ⟨r, 1, none⟩ = some (.slice la ln lc) := (B9.out.cell 1).trans rfl
      go_upto_region 13 with (fail)
      obtain ⟨Z1, hZ⟩ : ∃ Z, w9.setCell ⟨r, 1, none⟩ (.slice a9 nn c9) = Z := ⟨_, rfl⟩
      try rw [hZ]
      have T1 : Hid (Tch (fun g => g = r) w5 Z1) := Lib.hid (by rw [← hZ]; exact (T6.out.trans (Tch.of_below (S := fun _ => False) k9.out) (fun _ _ e => e.elim)).trans (Tch.setCell (S := fun g => g = r) w9 (p := ⟨r, 1, none⟩) rfl _) (fun _ _ e => e))
      have T19 : Hid (Tch (fun g => g = r) w5 Z1) := Lib.hid (by rw [← hZ]; exact (Tch.of_below (S := fun g => g = r) k9.out).trans (Tch.setCell (S := fun g => g = r) w9 (p := ⟨r, 1, none⟩) rfl _) (fun _ _ e => e))
      have BZ1 : Hid (Blk Z1 r 75 (0, 0) [.slice fa 0 fc, .slice a9 nn c9, .int .i64 sent, .int .i64 lost, .int .i64 forged, .int .i64 taken]) := Lib.hid (by rw [← hZ]; exact B9.out.set 1 _)
      have ownZ1 : Hid (Own flE Z1 w5.heap.size (.slice a9 nn c9) (FL ++ FN)) := Lib.hid (by rw [← hZ]; exact (Tch.setCell (S := fun g => g = r) w9 (p := ⟨r, 1, none⟩) rfl _).own own9.out (fun b hb e => by have h1 := (own9.out.lt b hb).1; have h2 := hsz6.out.2; omega))
      clear hZ c1 z1 own9 B9 k9
      have z2 : Z1.frozen? ⟨r, 2, none⟩ = false := by rw [BZ1.out.frozen]; try simp
      have c2 : Z1.cell? ⟨r, 2, none⟩ = some (.int .i64 sent) := (BZ1.out.cell 2).trans rfl
      go_upto_region 14 with (fail)
      obtain ⟨Z2, hZ⟩ : ∃ Z, Z1.setCell ⟨r, 2, none⟩ (.int .i64 (sent + 1)) = Z := ⟨_, rfl⟩
      try rw [hZ]
      have S12 : Hid (Tch (fun g => g = r) Z1 Z2) := Lib.hid (by rw [← hZ]; exact Tch.setCell (S := fun g => g = r) Z1 (p := ⟨r, 2, none⟩) rfl _)
      have BZ2 : Hid (Blk Z2 r 75 (0, 0) [.slice fa 0 fc, .slice a9 nn c9, .int .i64 (sent + 1), .int .i64 lost, .int .i64 forged, .int .i64 taken]) := Lib.hid (by rw [← hZ]; exact BZ1.out.set 2 _)
      have T2 := Lib.hid (T1.out.trans S12.out (fun _ _ e => e))
      have T29 := Lib.hid (T19.out.trans S12.out (fun _ _ e => e))
      have ownZ2 := Lib.hid (S12.out.own ownZ1.out (fun b hb e => by have h1 := (ownZ1.out.lt b hb).1; have h2 := hsz6.out.2; omega))
      clear hZ c2 z2 T1 T19 S12 BZ1 ownZ1
      have BF2 := Lib.hid (T2.out.blk B5f.out (fun e => by have h1 := hrl.out; omega))
      have f0 : Z2.cell? ⟨w2.heap.size, 0, none⟩ = some (.int .i64 0) := (BF2.out.cell 0).trans rfl
      go_wp2_with fail
      refine bodyPost_ret (results_tmp2 rfl _ _ _) rfl ?_
      rw [hX1.out]
      refine ⟨by rw [← hmc.out.1]; rfl, ?_, (Tch.of_below (S := fun g => g = r) K5.out).trans T2.out (fun _ _ e => e)⟩
      exact ref_app Q5.out T2.out (B := w.heap.size) hS.out hrl.out.1 (T29.out.rdn hf6.out.1 (fun b o s h0 e => (hf6.out.2 b o s h0 e).2)) hf6.out.2 (ownZ2.out.mono hsz6.out.1) ((N5.out.mono hXs.out).tch T2.out (fun g e => by have h1 := hrl.out.1; omega)) (by rw [if_neg (by decide), Int.add_zero]; exact BZ2.out)
    case cons =>
      obtain ⟨fk, fd, fm⟩ := f0
      have hfn0 : 0 < fn := by have h1 := hfn.out; simp only [List.length_cons] at h1; omega
      have hfnI : (0 : Int) < fn := by omega
      obtain ⟨b, o, rfl, hbs, hcf⟩ := rd_ft (Q3.out.fates) hfn0
      obtain ⟨d0, d1, d2⟩ := hcf 0 (by simp)
      simp only [List.getElem_cons_zero, Nat.zero_mul, Nat.add_zero] at d0 d1 d2
      clear hcf hbs
      have hmf := Lib.hid (hF'.out _ (List.mem_cons_self))
      go_upto_region 7 with (refine store_whole rfl 51 (.tmp 9) (.tmp 28) rfl rfl rfl B3.out (by rfl) (by kernel_rfl) (by kernel_rfl) ?_; intro w4 hBx hgx hzx; have B4 := Lib.hid hBx; have k4 := Lib.hid (fresh_store k3.out hgx); clear hBx hgx hzx)
      try rw [hW3]
      clear hW3 c0 d0 d1 d2 hfnI
      have K4 := Lib.hid (k2.out.trans (k4.out.mono k2.out.size))
      have BP4 := Lib.hid (B2.out.below k4.out B2.out.lt)
      have Q4 := Lib.hid (HQ.out.tch (Tch.of_below (S := fun _ => False) K4.out) (fun _ _ e => e.elim) (fun _ _ e => e))
      clear B3 k3 k3w B2p Q3
      have p0 : w4.cell? ⟨w.heap.size, 0, none⟩ = some (.int .u32 h.from_) := (BP4.out.cell 0).trans rfl
      have p1 : w4.cell? ⟨w.heap.size, 1, none⟩ = some (.int .u16 h.fport) := (BP4.out.cell 1).trans rfl
      have p2 : w4.cell? ⟨w.heap.size, 2, none⟩ = some (.int .u32 h.to_) := (BP4.out.cell 2).trans rfl
      have p3 : w4.cell? ⟨w.heap.size, 3, none⟩ = some (.int .u16 h.tport) := (BP4.out.cell 3).trans rfl
      have p4 : w4.cell? ⟨w.heap.size, 4, none⟩ = some (.bool h.stream) := (BP4.out.cell 4).trans rfl
      have p5 : w4.cell? ⟨w.heap.size, 5, none⟩ = some (.slice da dn dc) := (BP4.out.cell 5).trans rfl
      have f0 : w4.cell? ⟨w2.heap.size, 0, none⟩ = some (.int .i64 fk) := (B4.out.cell 0).trans rfl
      have f1 : w4.cell? ⟨w2.heap.size, 1, none⟩ = some (.int .i64 fd) := (B4.out.cell 1).trans rfl
      have f2 : w4.cell? ⟨w2.heap.size, 2, none⟩ = some (.int .i64 fm) := (B4.out.cell 2).trans rfl
      have hfl := Lib.hid (flights_any ((fk, fd, fm) : Fate) hmf.out h (HP.out.ext K4.out) hn y ⟨hy0, hy1⟩)
      unfold pkV ftV at hfl
      go_wp2_with fail
      refine hfl.out.mono ?_
      rintro e w5 ⟨⟨v, FN, rfl, ho, hN⟩, hb⟩
      obtain ⟨va, vc, rfl⟩ := ho.shape
      have hNl := hN.1
      have hcl := flsF_len ((fk, fd, fm) : Fate) h d y
      obtain ⟨m, hm⟩ : ∃ m, FN.length = m := ⟨_, rfl⟩
      rw [hm] at ho ⊢
      have hmc : Hid (m = cntF ((fk, fd, fm) : Fate) ∧ FN.length = m) := Lib.hid ⟨by omega, hm⟩
      have hm2 : m ≤ 2 := by rw [hmc.out.1]; unfold cntF; split <;> (try split) <;> omega
      have K5 := Lib.hid (K4.out.trans (hb.mono K4.out.size))
      have B5f := Lib.hid (B4.out.below hb B4.out.lt)
      have Q5 := Lib.hid (Q4.out.tch (Tch.of_below (S := fun _ => False) hb) (fun _ _ e => e.elim) (fun _ _ e => e))
      have O5 := Lib.hid (ho.mono K4.out.size)
      have N5 := Lib.hid hN
      have hXs : Hid (w.heap.size ≤ w4.heap.size) := Lib.hid K4.out.size
      clear ho hN hb hfl hNl hcl hm p0 p1 p2 p3 p4 p5 f0 f1 f2
      have c0 : w5.cell? ⟨r, 0, none⟩ = some (.slice (some ⟨b, o, none⟩) fn fc) := (Q5.out.blk.cell 0).trans rfl
      have c1 : w5.cell? ⟨r, 1, none⟩ = some (.slice la ln lc) := (Q5.out.blk.cell 1).trans rfl
      have c2 : w5.cell? ⟨r, 2, none⟩ = some (.int .i64 sent) := (Q5.out.blk.cell 2).trans rfl
      have c3 : w5.cell? ⟨r, 3, none⟩ = some (.int .i64 lost) := (Q5.out.blk.cell 3).trans rfl
      have c4 : w5.cell? ⟨r, 4, none⟩ = some (.int .i64 forged) := (Q5.out.blk.cell 4).trans rfl
      have c5 : w5.cell? ⟨r, 5, none⟩ = some (.int .i64 taken) := (Q5.out.blk.cell 5).trans rfl
      by_cases hfull : 16384 < ln + m
      · have hX1 : Hid (X = (0, 14, ((fk, fd, fm) :: F), L, ⟨sent, lost, forged, taken⟩)) := Lib.hid (by rw [← hX.out, hdl.out, if_neg (by simp [hc1]), if_pos (show 16384 < L.length + cntF (((fk, fd, fm) :: F).headD (0, 0, 0)) by show 16384 < L.length + cntF ((fk, fd, fm) : Fate); have h1 := hmc.out.1; omega)])
        have hfI : (16384 : Int) < (ln : Int) + m := by omega
        go_wp2_with fail
        refine bodyPost_ret (results_tmp2 rfl _ _ _) rfl ?_
        rw [hX1.out]
        exact ⟨rfl, ⟨_, _, _, _, _, _, _, Q5.out⟩, Tch.of_below K5.out⟩
      have hX1 : Hid (X = ((cntF ((fk, fd, fm) : Fate) : Int), 0, F, L ++ flsF ((fk, fd, fm) : Fate) h d y, (⟨sent + 1, lost + if ((fk, fd, fm) : Fate).1 = 1 then 1 else 0, forged, taken⟩ : Cn))) := Lib.hid (by rw [← hX.out, hdl.out, if_neg (by simp [hc1]), if_neg (show ¬ 16384 < L.length + cntF (((fk, fd, fm) :: F).headD (0, 0, 0)) by show ¬ 16384 < L.length + cntF ((fk, fd, fm) : Fate); have h1 := hmc.out.1; omega)]; rfl)
      have hfI : ¬ (16384 : Int) < (ln : Int) + m := by omega
      clear hX
      have z0 : w5.frozen? ⟨r, 0, none⟩ = false := by rw [Q5.out.blk.frozen]; try simp
      obtain ⟨fa2, hcut, hRf, hab⟩ := cut_l2 (P := Try.prog) Q5.out.fates 40 Try.underlying40 (by kernel_rfl) .i64 1 1 rfl (by omega)
      have hRf' := Lib.hid hRf
      have hab' := Lib.hid hab
      clear hRf hab
      obtain ⟨fn2, hfn2⟩ : ∃ x, fn - 1 = x := ⟨_, rfl⟩
      obtain ⟨fc2, hfc2⟩ : ∃ x, fc - 1 = x := ⟨_, rfl⟩
      rw [hfn2, hfc2] at hcut hRf'
      clear hfn2 hfc2
      have hfnI : (0 : Int) < fn := by omega
      go_upto_region 12 with (fail)
      obtain ⟨Y, hY⟩ : ∃ Y, w5.setCell ⟨r, 0, none⟩ (.slice fa2 fn2 fc2) = Y := ⟨_, rfl⟩
      try rw [hY]
      have T6 : Hid (Tch (fun g => g = r) w5 Y) := Lib.hid (by rw [← hY]; exact Tch.setCell (S := fun g => g = r) w5 (p := ⟨r, 0, none⟩) rfl _)
      have B6 : Hid (Blk Y r 75 (0, 0) [.slice fa2 fn2 fc2, .slice la ln lc, .int .i64 sent, .int .i64 lost, .int .i64 forged, .int .i64 taken]) := Lib.hid (by rw [← hY]; exact Q5.out.blk.set 0 _)
      clear hY hcut c0 c1 c2 c3 c4 c5 z0 hfnI
      have hne : ∀ b o s, fa2 = some ⟨b, o, s⟩ → 0 < fn → ¬ S b ∧ b ≠ r := fun b o s e h0 => by
        obtain ⟨o2, s2, e2⟩ := hab'.out b o s e
        exact Q5.out.fo b o2 s2 h0 e2
      have hf6 : Hid (Rd fateE Y fa2 fn2 fc2 F ∧ ∀ b o s, 0 < fn2 → fa2 = some ⟨b, o, s⟩ → ¬ S b ∧ b ≠ r) := Lib.hid ⟨T6.out.rdn hRf'.out (fun b o s h0 e => (hne b o s e (by omega)).2), fun b o s h0 e => hne b o s e (by omega)⟩
      clear hne hRf' hab'
      obtain ⟨j0, hj, jz0, jz1, jz2⟩ := info_parts Try.info71
      obtain ⟨W7, hW7⟩ : ∃ W, Y.alloc (.cells #[] 71) = W := ⟨_, rfl⟩
      have k7 : Hid (Below Y.heap.size Y W7) := Lib.hid (by rw [← hW7]; exact alloc_bel _ _)
      have own7 : Hid (Own flE W7 Y.heap.size (.slice (some ⟨Y.heap.size, 0, none⟩) 0 0) []) := Lib.hid (by rw [← hW7]; exact Own.made flE Y #[] [] 0 rfl rfl (by simp [maxLen]))
      have rdL : Hid (Rd flE Y la ln lc FL) := Lib.hid (T6.out.rdn Q5.out.ls (fun b o s h0 e => (Q5.out.lo b o s h0 e).2))
      have src1 := Lib.hid ((rdL.out.ext k7.out).src (P := Try.prog) Try.underlying61)
      have hsz6 : Hid (w.heap.size ≤ Y.heap.size ∧ r < Y.heap.size) := Lib.hid (by have h1 := K5.out.size; have h2 := T6.out.size; have h3 := hrl.out.1; omega)
      have hc1 : Hid (([] : List FD).length + FL.length ≤ maxLen) := Lib.hid (by simp [maxLen]; omega)
      have hc2 : Hid ((([] : List FD).length + FL.length) * 48 ≤ 140737488355328) := Lib.hid (by simp; omega)
      have c1 : W7.cell? ⟨r, 1, none⟩ = some (.slice la ln lc) := ((B6.out.below k7.out B6.out.lt).cell 1).trans rfl
      go_wp2_with (at_builtin; refine app_own (E := flE) (l := []) (news := FL) (base := Y.heap.size) rfl (.tmp 57) (.tmp 61) 61 61 rfl Try.underlying61 hj jz0 jz1 jz2 rfl rfl own7.out rfl src1.out hc1.out hc2.out k7.out.size ?_)
      intro v8 w8 ho8 hg8 _
      obtain ⟨a8, c8, rfl⟩ := ho8.shape
      try rw [List.nil_append] at ho8
      try rw [List.nil_append]
      rw [hln.out] at ho8 ⊢
      have k8 : Hid (Below Y.heap.size Y w8) := Lib.hid (own_below k7.out hg8 own7.out k7.out.size (Nat.le_refl _))
      have own8 := Lib.hid ho8
      clear ho8 hg8 own7 src1 hc1 hc2 hW7 k7 c1
      have rdN : Hid (Rd flE w8 va m vc FN) := Lib.hid (((T6.out.own O5.out (fun b hb e => by have h1 := (O5.out.lt b hb).1; have h2 := hrl.out.1; omega)).ext k8.out) |> own_rd_at |>.1)
      have src2 := Lib.hid (rdN.out.src (P := Try.prog) Try.underlying61)
      have hc1 : Hid (FL.length + FN.length ≤ maxLen) := Lib.hid (by have h1 := hmc.out.2; simp [maxLen]; omega)
      have hc2 : Hid ((FL.length + FN.length) * 48 ≤ 140737488355328) := Lib.hid (by have h1 := hmc.out.2; omega)
      have B8 := Lib.hid (B6.out.below k8.out B6.out.lt)
      go_wp2_with (at_builtin; refine app_own (E := flE) (l := FL) (news := FN) (base := Y.heap.size) rfl (.tmp 62) (.tmp 63) 61 61 rfl Try.underlying61 hj jz0 jz1 jz2 rfl rfl own8.out rfl src2.out hc1.out hc2.out k8.out.size ?_)
      intro v9 w9 ho9 hg9 _
      obtain ⟨a9, c9, rfl⟩ := ho9.shape
      obtain ⟨nn, hnn⟩ : ∃ x, (FL ++ FN).length = x := ⟨_, rfl⟩
      rw [hnn] at ho9 ⊢
      clear hnn
      have k9 : Hid (Below Y.heap.size Y w9) := Lib.hid (own_below k8.out hg9 own8.out k8.out.size (Nat.le_refl _))
      have own9 := Lib.hid ho9
      have B9 := Lib.hid (B6.out.below k9.out B6.out.lt)
      clear ho9 hg9 own8 src2 hc1 hc2 k8 rdN B8
      have z1 : w9.frozen? ⟨r, 1, none⟩ = false := by rw [B9.out.frozen]; try simp
      have c1 : w9.cell? ⟨r, 1, none⟩ = some (.slice la ln lc) := (B9.out.cell 1).trans rfl
      go_upto_region 13 with (fail)
      obtain ⟨Z1, hZ⟩ : ∃ Z, w9.setCell ⟨r, 1, none⟩ (.slice a9 nn c9) = Z := ⟨_, rfl⟩
      try rw [hZ]
      have T1 : Hid (Tch (fun g => g = r) w5 Z1) := Lib.hid (by rw [← hZ]; exact (T6.out.trans (Tch.of_below (S := fun _ => False) k9.out) (fun _ _ e => e.elim)).trans (Tch.setCell (S := fun g => g = r) w9 (p := ⟨r, 1, none⟩) rfl _) (fun _ _ e => e))
      have T19 : Hid (Tch (fun g => g = r) Y Z1) := Lib.hid (by rw [← hZ]; exact (Tch.of_below (S := fun g => g = r) k9.out).trans (Tch.setCell (S := fun g => g = r) w9 (p := ⟨r, 1, none⟩) rfl _) (fun _ _ e => e))
      have BZ1 : Hid (Blk Z1 r 75 (0, 0) [.slice fa2 fn2 fc2, .slice a9 nn c9, .int .i64 sent, .int .i64 lost, .int .i64 forged, .int .i64 taken]) := Lib.hid (by rw [← hZ]; exact B9.out.set 1 _)
      have ownZ1 : Hid (Own flE Z1 Y.heap.size (.slice a9 nn c9) (FL ++ FN)) := Lib.hid (by rw [← hZ]; exact (Tch.setCell (S := fun g => g = r) w9 (p := ⟨r, 1, none⟩) rfl _).own own9.out (fun b hb e => by have h1 := (own9.out.lt b hb).1; have h2 := hsz6.out.2; omega))
      clear hZ c1 z1 own9 B9 k9
      have z2 : Z1.frozen? ⟨r, 2, none⟩ = false := by rw [BZ1.out.frozen]; try simp
      have c2 : Z1.cell? ⟨r, 2, none⟩ = some (.int .i64 sent) := (BZ1.out.cell 2).trans rfl
      go_upto_region 14 with (fail)
      obtain ⟨Z2, hZ⟩ : ∃ Z, Z1.setCell ⟨r, 2, none⟩ (.int .i64 (sent + 1)) = Z := ⟨_, rfl⟩
      try rw [hZ]
      have S12 : Hid (Tch (fun g => g = r) Z1 Z2) := Lib.hid (by rw [← hZ]; exact Tch.setCell (S := fun g => g = r) Z1 (p := ⟨r, 2, none⟩) rfl _)
      have BZ2 : Hid (Blk Z2 r 75 (0, 0) [.slice fa2 fn2 fc2, .slice a9 nn c9, .int .i64 (sent + 1), .int .i64 lost, .int .i64 forged, .int .i64 taken]) := Lib.hid (by rw [← hZ]; exact BZ1.out.set 2 _)
      have T2 := Lib.hid (T1.out.trans S12.out (fun _ _ e => e))
      have T29 := Lib.hid (T19.out.trans S12.out (fun _ _ e => e))
      have ownZ2 := Lib.hid (S12.out.own ownZ1.out (fun b hb e => by have h1 := (ownZ1.out.lt b hb).1; have h2 := hsz6.out.2; omega))
      clear hZ c2 z2 T1 T19 S12 BZ1 ownZ1
      have BF2 := Lib.hid (T2.out.blk B5f.out (fun e => by have h1 := hrl.out; omega))
      have f0 : Z2.cell? ⟨w2.heap.size, 0, none⟩ = some (.int .i64 fk) := (BF2.out.cell 0).trans rfl
      by_cases hk1 : fk = 1
      · subst hk1
        have z3 : Z2.frozen? ⟨r, 3, none⟩ = false := by rw [BZ2.out.frozen]; try simp
        have c3 : Z2.cell? ⟨r, 3, none⟩ = some (.int .i64 lost) := (BZ2.out.cell 3).trans rfl
        go_upto_region 16 with (fail)
        obtain ⟨Z3, hZ⟩ : ∃ Z, Z2.setCell ⟨r, 3, none⟩ (.int .i64 (lost + 1)) = Z := ⟨_, rfl⟩
        try rw [hZ]
        have S23 : Hid (Tch (fun g => g = r) Z2 Z3) := Lib.hid (by rw [← hZ]; exact Tch.setCell (S := fun g => g = r) Z2 (p := ⟨r, 3, none⟩) rfl _)
        have BZ3 : Hid (Blk Z3 r 75 (0, 0) [.slice fa2 fn2 fc2, .slice a9 nn c9, .int .i64 (sent + 1), .int .i64 (lost + 1), .int .i64 forged, .int .i64 taken]) := Lib.hid (by rw [← hZ]; exact BZ2.out.set 3 _)
        have T3 := Lib.hid (T2.out.trans S23.out (fun _ _ e => e))
        have T39 := Lib.hid (T29.out.trans S23.out (fun _ _ e => e))
        have ownZ3 := Lib.hid (S23.out.own ownZ2.out (fun b hb e => by have h1 := (ownZ2.out.lt b hb).1; have h2 := hsz6.out.2; omega))
        clear hZ c3 z3
        go_wp2_with fail
        refine bodyPost_ret (results_tmp2 rfl _ _ _) rfl ?_
        rw [hX1.out]
        refine ⟨by rw [← hmc.out.1]; rfl, ?_, (Tch.of_below (S := fun g => g = r) K5.out).trans T3.out (fun _ _ e => e)⟩
        exact ref_app Q5.out T3.out (B := w.heap.size) hS.out hrl.out.1 (T39.out.rdn hf6.out.1 (fun b o s h0 e => (hf6.out.2 b o s h0 e).2)) hf6.out.2 (ownZ3.out.mono hsz6.out.1) ((N5.out.mono hXs.out).tch T3.out (fun g e => by have h1 := hrl.out.1; omega)) (by rw [if_pos trivial]; exact BZ3.out)
      · skip
        go_wp2_with fail
        refine bodyPost_ret (results_tmp2 rfl _ _ _) rfl ?_
        rw [hX1.out]
        refine ⟨by rw [← hmc.out.1]; rfl, ?_, (Tch.of_below (S := fun g => g = r) K5.out).trans T2.out (fun _ _ e => e)⟩
        exact ref_app Q5.out T2.out (B := w.heap.size) hS.out hrl.out.1 (T29.out.rdn hf6.out.1 (fun b o s h0 e => (hf6.out.2 b o s h0 e).2)) hf6.out.2 (ownZ2.out.mono hsz6.out.1) ((N5.out.mono hXs.out).tch T2.out (fun g e => by have h1 := hrl.out.1; omega)) (by rw [if_neg hk1, Int.add_zero]; exact BZ2.out)
end Go.Proofs.Ythdnbipfdahnlaa
