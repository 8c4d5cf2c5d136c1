/- The program's network: Send 14. Printed by gen_ntg.py. -/
import Derived.Test.YthdnbipfdahnlaaNtG
namespace Go.Proofs.Ythdnbipfdahnlaa
open Go Go.RowKit
/-- the fate of the packet that is sent next -/
def fateAt (s : NS) : Fate := (s.F[s.at_]?).getD (0, 0, 0)
def cntF (f : Fate) : Nat := if f.1 = 1 then 0 else if f.1 = 2 then 2 else 1
def flipB (c : UInt8) (k : Nat) : UInt8 := c ^^^ ((1 : UInt8) <<< (UInt8.ofNat k))
theorem Tch.rd0 {Q : Nat → Prop} {u v : World} (t : Tch Q u v) {a : Option Addr} {n c : Nat} {l : List UInt8} (hr : Rd byteE u a n c l) (hn : ∀ b o s, 0 < n → a = some ⟨b, o, s⟩ → ¬ Q b) : Rd byteE v a n c l := by
  by_cases h0 : 0 < n
  · exact t.rd hr (fun b o s e => hn b o s h0 e)
  · have hl := hr.len
    have hm := hr.most
    have hn0 : n = 0 := by omega
    have hl0 : l = [] := List.eq_nil_of_length_eq_zero (by omega)
    subst hn0 hl0
    exact Rd.zero _ _ _ _ hm
/-- a byte with one bit turned, as the model writes it -/
theorem flip_bits (c : UInt8) {r : Nat} (hr : r < 8) : bits .xor .u8 (c.toNat : Int) (IntKind.u8.wrap (2 ^ r)) = ((flipB c r).toNat : Int) := by
  have key : ∀ x : Fin 256, ∀ r : Fin 8, bits .xor .u8 (x.val : Int) (IntKind.u8.wrap (2 ^ r.val)) = ((flipB (UInt8.ofNat x.val) r.val).toNat : Int) := by decide +kernel
  have := key ⟨c.toNat, c.toNat_lt⟩ ⟨r, hr⟩
  simpa using this
theorem row_set (X : List UInt8) (q : Nat) (x : UInt8) : rowOf byteE (X.set q x) = (rowOf byteE X).set q (.int .u8 x.toNat) := by
  rw [rowOf_byte, rowOf_byte]
  simp [u8s, List.map_set]
  rfl
def flip (d : List UInt8) (m : Nat) : List UInt8 := d.set (m / 8) (flipB (d.getD (m / 8) 0) (m % 8))
def sendS (s : NS) (h : Hd) (d : List UInt8) (y : Int) : Int × Int × NS :=
  if chk d.length y ≠ 0 then (0, chk d.length y, s) else
  if 16384 < s.A.length + cntF (fateAt s) then (0, 14, s) else
  if (fateAt s).1 = 1 then (0, 0, { s with at_ := min (s.at_ + 1) s.F.length, c := { s.c with sent := s.c.sent + 1, lost := s.c.lost + 1 } }) else
  if (fateAt s).1 = 2 then (2, 0, { s with at_ := min (s.at_ + 1) s.F.length, c := { s.c with sent := s.c.sent + 1 }, A := insU ⟨y + (fateAt s).2.1 + (fateAt s).2.2, h, d⟩ (insU ⟨y + (fateAt s).2.1, h, d⟩ s.A) }) else
  if (fateAt s).1 = 3 then (1, 0, { s with at_ := min (s.at_ + 1) s.F.length, c := { s.c with sent := s.c.sent + 1 }, A := insU ⟨y + (fateAt s).2.1, h, flip d (fateAt s).2.2.toNat⟩ s.A }) else
  (1, 0, { s with at_ := min (s.at_ + 1) s.F.length, c := { s.c with sent := s.c.sent + 1 }, A := insU ⟨y + (fateAt s).2.1, h, d⟩ s.A })
theorem fateAt_may (s : NS) (h : ∀ f ∈ s.F, mayF f = true) : mayF (fateAt s) = true := by
  unfold fateAt
  cases hf : s.F[s.at_]? with
  | none => rfl
  | some f => exact h f (List.mem_of_getElem? hf)
theorem may_kinds {f : Fate} (h : mayF f = true) : (0 ≤ f.2.1 ∧ f.2.1 ≤ 86400) ∧ 0 ≤ f.2.2 ∧ f.2.2 ≤ 524280 ∧ (f.1 = 0 ∨ f.1 = 1 ∨ f.1 = 2 ∨ f.1 = 3) := by
  unfold mayF at h
  by_cases h1 : f.2.1 < 0 ∨ 86400 < f.2.1
  · rw [if_pos h1] at h; cases h
  rw [if_neg h1] at h
  by_cases h2 : f.1 = 0 ∨ f.1 = 1
  · rw [if_pos h2] at h
    have := of_decide_eq_true h
    omega
  rw [if_neg h2] at h
  by_cases h3 : f.1 = 2
  · rw [if_pos h3] at h
    have := of_decide_eq_true h
    omega
  rw [if_neg h3] at h
  by_cases h4 : f.1 = 3
  · rw [if_pos h4] at h
    have := of_decide_eq_true h
    omega
  rw [if_neg h4] at h
  cases h
set_option maxHeartbeats 32000000 in
set_option maxRecDepth 100000 in
theorem send_core {w : World} {n : Nat} {S : Nat → Prop} {s : NS} (hP : NetP w n S s) (hok : s.ok) (hF : ∀ f ∈ s.F, mayF f = true) (hSb : ∀ g, S g → g < w.heap.size) (h : Hd) {da : Option Addr} {dn dc : Nat} {d : List UInt8} (hp : Rd byteE w da dn dc d) (hap : ∀ b o s, 0 < dn → da = some ⟨b, o, s⟩ → ¬ S b) (hdn : dn ≤ 140737488355328) (y : Int) :
    Calls Try.prog 14 #[.pointer (some ⟨n, 0, none⟩), pkV h (.slice da dn dc), .int .i64 y] w fun e w' => e = .returned (.tuple #[.int .i64 (sendS s h d y).1, .int .i64 (sendS s h d y).2.1]) ∧ NetP w' n (fun g => S g ∨ w.heap.size ≤ g) (sendS s h d y).2.2 ∧ Tch S w w' := by
  obtain ⟨fa, fn, fc, v, ob, FL, hQ⟩ := hP
  have hmay := may_kinds (fateAt_may s hF)
  have hSw := Lib.hid hSb
  have hap' := Lib.hid hap
  clear hSb hap
  have hft : Hid (∃ f, fateAt s = f ∧ f = (s.F[s.at_]?).getD (0, 0, 0)) := Lib.hid ⟨_, rfl, rfl⟩
  clear hF
  obtain ⟨F, at_, A, c⟩ := s
  obtain ⟨sent, lost, forged, taken⟩ := c
  obtain ⟨⟨fk, fd, fm⟩, hfe, hfg⟩ := hft.out
  rw [hfe] at hmay
  dsimp only at hQ hfg hmay
  have hfe' := Lib.hid hfe
  have hfg' := Lib.hid hfg
  clear hfe hfg hft
  obtain ⟨⟨hd0, hd1⟩, hm0, hm1, hk⟩ := hmay
  have hdl := hp.len
  unfold pkV
  have hnl : Hid (n < w.heap.size) := Lib.hid hQ.blk.lt
  have hsn : Hid (S n) := Lib.hid hQ.sn
  have hso := Lib.hid hQ.so
  have hse := hok.sent
  have hlo := hok.lost
  have hat := hok.at_
  have hFl := hok.fates
  dsimp only at hse hlo hat hFl
  have hsrt := Lib.hid hok.srt
  have hroom : A.length ≤ 16384 := hok.room
  clear hok
  obtain ⟨va, vc, rfl⟩ := hQ.own.shape
  have hFA := hQ.rep.len
  obtain ⟨hfr, hfn⟩ := own_rd_at hQ.fates
  obtain ⟨W1, hW1⟩ : ∃ W, w.alloc (.cells #[.int .u32 h.from_, .int .u16 h.fport, .int .u32 h.to_, .int .u16 h.tport, .bool h.stream, .slice da dn dc] 32) = W := ⟨_, rfl⟩
  have B1 : Hid (Blk W1 w.heap.size 32 (0, 0) [.int .u32 h.from_, .int .u16 h.fport, .int .u32 h.to_, .int .u16 h.tport, .bool h.stream, .slice da dn dc]) := Lib.hid (by rw [← hW1]; exact Blk.new w 32 (0, 0) #[.int .u32 h.from_, .int .u16 h.fport, .int .u32 h.to_, .int .u16 h.tport, .bool h.stream, .slice da dn dc])
  have k1 : Hid (Below w.heap.size w W1) := Lib.hid (by rw [← hW1]; exact alloc_bel _ _)
  have Q1 := Lib.hid (hQ.ext k1.out)
  have hp1 := Lib.hid (hp.ext k1.out)
  have hp00 := Lib.hid hp
  have hch := Lib.hid (check_any Q1.out h da (dc := dc) hdn y)
  clear hQ hp hfr
  have p0 : W1.cell? ⟨w.heap.size, 0, none⟩ = some (.int .u32 h.from_) := (B1.out.cell 0).trans rfl
  have p1 : W1.cell? ⟨w.heap.size, 1, none⟩ = some (.int .u16 h.fport) := (B1.out.cell 1).trans rfl
  have p2 : W1.cell? ⟨w.heap.size, 2, none⟩ = some (.int .u32 h.to_) := (B1.out.cell 2).trans rfl
  have p3 : W1.cell? ⟨w.heap.size, 3, none⟩ = some (.int .u16 h.tport) := (B1.out.cell 3).trans rfl
  have p4 : W1.cell? ⟨w.heap.size, 4, none⟩ = some (.bool h.stream) := (B1.out.cell 4).trans rfl
  have p5 : W1.cell? ⟨w.heap.size, 5, none⟩ = some (.slice da dn dc) := (B1.out.cell 5).trans rfl
  by_cases hc : chk dn y = 0
  · rw [hc] at hch
    have hc1 := Lib.hid hc
    have hn2 := chk_ok hc
    clear hc
    go_enter Try.func14, Try.ntmps14
    go_wp2_with fail
    try rw [hW1]
    clear hW1
    refine hch.out.mono ?_
    rintro e w2 ⟨rfl, hb⟩
    have kb := Lib.hid (k1.out.trans (hb.mono k1.out.size))
    have Q2 := Lib.hid (Q1.out.ext hb)
    have hp2 := Lib.hid (hp1.out.ext hb)
    have B2 := Lib.hid (B1.out.below hb B1.out.lt)
    clear hb Q1 hp1 B1 k1 hch p0 p1 p2 p3 p4 p5
    obtain ⟨W4, hW4⟩ : ∃ W, w2.alloc (.cells #[.int .i64 0, .int .i64 0, .int .i64 0] 51) = W := ⟨_, rfl⟩
    have B4 : Hid (Blk W4 w2.heap.size 51 (0, 0) [.int .i64 0, .int .i64 0, .int .i64 0]) := Lib.hid (by rw [← hW4]; exact Blk.new w2 51 (0, 0) #[.int .i64 0, .int .i64 0, .int .i64 0])
    have k4 : Hid (Below w2.heap.size w2 W4) := Lib.hid (by rw [← hW4]; exact alloc_bel _ _)
    have Q4 := Lib.hid (Q2.out.ext k4.out)
    have hp4 := Lib.hid (hp2.out.ext k4.out)
    have B24 := Lib.hid (B2.out.below k4.out B2.out.lt)
    have kb4 := Lib.hid (kb.out.trans (k4.out.mono kb.out.size))
    have hw2 : Hid (w.heap.size < w2.heap.size) := Lib.hid B2.out.lt
    clear Q2 hp2 B2 kb k4
    have c0 : W4.cell? ⟨n, 0, none⟩ = some (.slice fa fn fc) := (Q4.out.blk.cell 0).trans rfl
    have c1 : W4.cell? ⟨n, 1, none⟩ = some (.int .i64 at_) := (Q4.out.blk.cell 1).trans rfl
    go_upto_region 5 with (fail)
    try rw [hW4]
    clear hW4
    by_cases hlt : at_ < F.length
    · have hI : (at_ : Int) < fn := by omega
      have hI0 : 0 ≤ (at_ : Int) := by omega
      go_quiet (fail)
      rename_i nq _
      obtain ⟨X0, hX⟩ : ∃ X, W4.drewN nq = X := ⟨_, rfl⟩
      have hkX : Below W4.heap.size W4 X0 := by rw [← hX]; exact below_drewN (Below.refl _ _) nq
      have Q0 := Lib.hid (Q4.out.ext hkX)
      have B0 := Lib.hid (B4.out.below hkX B4.out.lt)
      have BP0 := Lib.hid (B24.out.below hkX B24.out.lt)
      have k0 := Lib.hid (kb4.out.trans (hkX.mono kb4.out.size))
      rw [hX]
      clear hX hkX Q4 B4 B24 hp4 kb4 c0 c1
      obtain ⟨fb, fo, hfa, -, hfc⟩ := rd_ft (own_rd_at Q0.out.fates).1 (by omega)
      subst hfa
      obtain ⟨g0, g1, g2⟩ := hfc at_ (by omega)
      have hFe : F[at_] = (fk, fd, fm) := by
        have := hfg'.out
        rw [List.getElem?_eq_getElem (by omega)] at this
        exact this.symm
      rw [hFe] at g0 g1 g2
      dsimp only at g0 g1 g2
      clear hfc hFe
      have c0 : X0.cell? ⟨n, 0, none⟩ = some (.slice (some ⟨fb, fo, none⟩) fn fc) := (Q0.out.blk.cell 0).trans rfl
      have c1 : X0.cell? ⟨n, 1, none⟩ = some (.int .i64 at_) := (Q0.out.blk.cell 1).trans rfl
      go_upto_region 6 with (fail)
      refine wp_region_still_tail 10 (by kernel_rfl) (by kernel_rfl) ?_
      simp only [List.take_succ_cons, List.take_zero, List.drop_succ_cons, List.drop_zero]
      iterate 10 still_step
      refine wpStill_nil ?_
      change wpList _ _ _ _ _ X0.drew
      have Q1 := Lib.hid (Q0.out.ext (Below.refl _ _).drew)
      have B1 := Lib.hid B0.out.drew
      have BP1 := Lib.hid BP0.out.drew
      have k1 : Hid (Below w.heap.size w X0.drew) := Lib.hid k0.out.drew
      generalize X0.drew = Z at *
      clear Q0 B0 BP0 k0 c0 c1 g0 g1 g2
      refine store_whole rfl 51 (.tmp 9) (.tmp 37) rfl rfl rfl B1.out (by rfl) (by kernel_rfl) (by kernel_rfl) ?_
      intro X hBx hgx hzx
      have BX := Lib.hid hBx
      have TX : Hid (Tch (fun g => g = w2.heap.size) Z X) := Lib.hid (Tch.of_grown (S := fun g => g = w2.heap.size) hgx (fun k e => (Option.some.inj e).symm))
      have QX := Lib.hid (Q1.out.tch TX.out (fun g hg e => by have := hSw.out g hg; have := hw2.out; omega))
      have BPX := Lib.hid (TX.out.blk BP1.out (fun e => by have := hw2.out; omega))
      have kX : Hid (Below w.heap.size w X) := Lib.hid (k1.out.trans (TX.out.below k1.out.size (fun b _ e => by have := hw2.out; omega)))
      have hpX := Lib.hid (hp00.out.ext kX.out)
      clear hBx hgx hzx TX Q1 B1 BP1 k1 hp00
      have tX : Hid (Tch S w X) := Lib.hid (Tch.of_below kX.out)
      have hmin : Hid (((min (at_ + 1) F.length : Nat) : Int) = (at_ : Int) + 1) := Lib.hid (by omega)
      have hmI : ¬ (fn : Int) < (at_ : Int) + 1 := by omega
      clear kX
      rcases hk with hk | hk | hk | hk
      · subst hk
        have d0 : X.cell? ⟨w2.heap.size, 0, none⟩ = some (.int .i64 0) := (BX.out.cell 0).trans rfl
        have d1 : X.cell? ⟨w2.heap.size, 1, none⟩ = some (.int .i64 fd) := (BX.out.cell 1).trans rfl
        have d2 : X.cell? ⟨w2.heap.size, 2, none⟩ = some (.int .i64 fm) := (BX.out.cell 2).trans rfl
        have c0 : X.cell? ⟨n, 0, none⟩ = some (.slice (some ⟨fb, fo, none⟩) fn fc) := (QX.out.blk.cell 0).trans rfl
        have c1 : X.cell? ⟨n, 1, none⟩ = some (.int .i64 at_) := (QX.out.blk.cell 1).trans rfl
        have c2 : X.cell? ⟨n, 2, none⟩ = some (.slice va FL.length vc) := (QX.out.blk.cell 2).trans rfl
        by_cases hfull : 16384 < A.length + 1
        · have hf : Hid (sendS ⟨F, at_, A, ⟨sent, lost, forged, taken⟩⟩ h d y = (0, 14, ⟨F, at_, A, ⟨sent, lost, forged, taken⟩⟩)) := Lib.hid (by unfold sendS; rw [hdl, if_neg (by simp [hc1.out]), hfe'.out, if_pos (by exact hfull)])
          have hfI : (16384 : Int) < (FL.length : Int) + 1 := by omega
          clear hfull
          go_wp2_with fail
          refine bodyPost_ret (results_tmp2 rfl _ _ _) rfl ?_
          rw [hf.out]
          exact ⟨rfl, ⟨(some ⟨fb, fo, none⟩), fn, fc, _, ob, FL, QX.out.mono (fun g hg => .inl hg)⟩, tX.out⟩
        · have hfu := Lib.hid hfull
          have hfI : ¬ (16384 : Int) < (FL.length : Int) + 1 := by omega
          clear hfull
          go_upto_region 15 with (fail)
          have hf : Hid (sendS ⟨F, at_, A, ⟨sent, lost, forged, taken⟩⟩ h d y = (1, 0, ⟨F, min (at_ + 1) F.length, insU ⟨y + fd, h, d⟩ A, ⟨sent + 1, lost, forged, taken⟩⟩)) := Lib.hid (by unfold sendS; rw [hdl, if_neg (by simp [hc1.out]), hfe'.out, if_neg (by exact hfu.out)]; rfl)
          refine wp_region_still_tail 14 (by kernel_rfl) (by kernel_rfl) ?_
          simp only [List.take_succ_cons, List.take_zero, List.drop_succ_cons, List.drop_zero]
          iterate 14 still_step
          refine wpStill_nil ?_
          have hw1 : IntKind.i64.wrap ((at_ : Int) + 1) = (at_ : Int) + 1 := IntWalk.i64_in _ (by omega)
          simp only [hw1]
          clear hw1
          rw [if_neg hmI]
          change wpList _ _ _ _ _ X.drew
          have QY := Lib.hid (QX.out.ext (Below.refl _ _).drew)
          have BY := Lib.hid BX.out.drew
          have BPY := Lib.hid BPX.out.drew
          have hpY := Lib.hid (hpX.out.ext (Below.refl _ _).drew)
          have tY : Hid (Tch S w X.drew) := Lib.hid (tX.out.trans (Tch.drew S _) (fun _ _ h => h))
          generalize X.drew = Y at *
          clear QX BX BPX hpX tX c0 c1 c2 d0 d1 d2
          have c1 : Y.cell? ⟨n, 1, none⟩ = some (.int .i64 at_) := (QY.out.blk.cell 1).trans rfl
          have f1 : Y.frozen? ⟨n, 1, none⟩ = false := by rw [QY.out.blk.frozen]; try simp
          go_upto_region 16 with (fail)
          obtain ⟨V1, hV⟩ : ∃ V, Y.setCell ⟨n, 1, none⟩ (.int .i64 (((at_ : Int) + 1))) = V := ⟨_, rfl⟩
          try rw [hV]
          have NV : Blk V1 n 63 (0, 0) [.slice (some ⟨fb, fo, none⟩) fn fc, .int .i64 ((at_ : Int) + 1), .slice va FL.length vc, .int .i64 (sent), .int .i64 (lost), .int .i64 forged, .int .i64 taken, .bool true] := by rw [← hV]; exact QY.out.blk.set 1 _
          have QV1 := Lib.hid (QY.out.set (c2 := ⟨sent, lost, forged, taken⟩) hV.symm NV)
          have tV1 : Hid (Tch S w V1) := Lib.hid (tY.out.trans (by rw [← hV]; exact Tch.setCell Y (p := ⟨n, 1, none⟩) hsn.out _) (fun _ _ h => h))
          have BPV1 := Lib.hid (BPY.out.setOther (a := ⟨n, 1, none⟩) (by have := hnl.out; have := hw2.out; show n ≠ w.heap.size; omega) (Value.int .i64 (((at_ : Int) + 1))))
          rw [hV] at BPV1
          have BV1 := Lib.hid (BY.out.setOther (a := ⟨n, 1, none⟩) (by have := hnl.out; have := hw2.out; show n ≠ w2.heap.size; omega) (Value.int .i64 (((at_ : Int) + 1))))
          rw [hV] at BV1
          have hpV1 : Hid (Rd byteE V1 da dn dc d) := Lib.hid (rd_set hpY.out QY.out.blk (by simp) hV.symm)
          clear hV NV c1 f1 QY tY BPY BY hpY
          have c3 : V1.cell? ⟨n, 3, none⟩ = some (.int .i64 (sent)) := (QV1.out.blk.cell 3).trans rfl
          have f3 : V1.frozen? ⟨n, 3, none⟩ = false := by rw [QV1.out.blk.frozen]; try simp
          go_upto_region 17 with (fail)
          obtain ⟨V2, hV⟩ : ∃ V, V1.setCell ⟨n, 3, none⟩ (.int .i64 (sent + 1)) = V := ⟨_, rfl⟩
          try rw [hV]
          have NV : Blk V2 n 63 (0, 0) [.slice (some ⟨fb, fo, none⟩) fn fc, .int .i64 ((at_ : Int) + 1), .slice va FL.length vc, .int .i64 (sent + 1), .int .i64 (lost), .int .i64 forged, .int .i64 taken, .bool true] := by rw [← hV]; exact QV1.out.blk.set 3 _
          have QV2 := Lib.hid (QV1.out.set (c2 := ⟨sent + 1, lost, forged, taken⟩) hV.symm NV)
          have tV2 : Hid (Tch S w V2) := Lib.hid (tV1.out.trans (by rw [← hV]; exact Tch.setCell V1 (p := ⟨n, 3, none⟩) hsn.out _) (fun _ _ h => h))
          have BPV2 := Lib.hid (BPV1.out.setOther (a := ⟨n, 3, none⟩) (by have := hnl.out; have := hw2.out; show n ≠ w.heap.size; omega) (Value.int .i64 (sent + 1)))
          rw [hV] at BPV2
          have BV2 := Lib.hid (BV1.out.setOther (a := ⟨n, 3, none⟩) (by have := hnl.out; have := hw2.out; show n ≠ w2.heap.size; omega) (Value.int .i64 (sent + 1)))
          rw [hV] at BV2
          have hpV2 : Hid (Rd byteE V2 da dn dc d) := Lib.hid (rd_set hpV1.out QV1.out.blk (by simp) hV.symm)
          clear hV NV c3 f3 QV1 tV1 BPV1 BV1 hpV1
          have d0 : V2.cell? ⟨w2.heap.size, 0, none⟩ = some (.int .i64 0) := (BV2.out.cell 0).trans rfl
          have d1 : V2.cell? ⟨w2.heap.size, 1, none⟩ = some (.int .i64 fd) := (BV2.out.cell 1).trans rfl
          have p0 : V2.cell? ⟨w.heap.size, 0, none⟩ = some (.int .u32 h.from_) := (BPV2.out.cell 0).trans rfl
          have p1 : V2.cell? ⟨w.heap.size, 1, none⟩ = some (.int .u16 h.fport) := (BPV2.out.cell 1).trans rfl
          have p2 : V2.cell? ⟨w.heap.size, 2, none⟩ = some (.int .u32 h.to_) := (BPV2.out.cell 2).trans rfl
          have p3 : V2.cell? ⟨w.heap.size, 3, none⟩ = some (.int .u16 h.tport) := (BPV2.out.cell 3).trans rfl
          have p4 : V2.cell? ⟨w.heap.size, 4, none⟩ = some (.bool h.stream) := (BPV2.out.cell 4).trans rfl
          have p5 : V2.cell? ⟨w.heap.size, 5, none⟩ = some (.slice da dn dc) := (BPV2.out.cell 5).trans rfl
          have hfly := Lib.hid (fly_any QV2.out hsrt.out (by omega) h hpV2.out hdn (y + fd))
          unfold pkV at hfly
          go_wp2_with fail
          refine hfly.out.mono ?_
          rintro e w5 ⟨rfl, ⟨v', ob', FL', hq⟩, ht⟩
          have hq' := Lib.hid hq
          have ht' := Lib.hid ht
          clear hq ht hfly
          go_wp2_with fail
          refine bodyPost_ret (results_tmp2 rfl _ _ _) rfl ?_
          rw [hf.out]
          refine ⟨rfl, ⟨(some ⟨fb, fo, none⟩), fn, fc, v', ob', FL', ?_⟩, tV2.out.trans ht'.out (fun b _ hb => by rcases hb with rfl | hb; exact hsn.out; exact hso.out b hb)⟩
          dsimp only
          rw [hmin.out]
          exact hq'.out.mono (fun g hg => hg.imp id (fun hg => Nat.le_trans tV2.out.size hg))
      · subst hk
        have d0 : X.cell? ⟨w2.heap.size, 0, none⟩ = some (.int .i64 1) := (BX.out.cell 0).trans rfl
        have d1 : X.cell? ⟨w2.heap.size, 1, none⟩ = some (.int .i64 fd) := (BX.out.cell 1).trans rfl
        have d2 : X.cell? ⟨w2.heap.size, 2, none⟩ = some (.int .i64 fm) := (BX.out.cell 2).trans rfl
        have c0 : X.cell? ⟨n, 0, none⟩ = some (.slice (some ⟨fb, fo, none⟩) fn fc) := (QX.out.blk.cell 0).trans rfl
        have c1 : X.cell? ⟨n, 1, none⟩ = some (.int .i64 at_) := (QX.out.blk.cell 1).trans rfl
        have c2 : X.cell? ⟨n, 2, none⟩ = some (.slice va FL.length vc) := (QX.out.blk.cell 2).trans rfl
        by_cases hfull : 16384 < A.length + 0
        · have hf : Hid (sendS ⟨F, at_, A, ⟨sent, lost, forged, taken⟩⟩ h d y = (0, 14, ⟨F, at_, A, ⟨sent, lost, forged, taken⟩⟩)) := Lib.hid (by unfold sendS; rw [hdl, if_neg (by simp [hc1.out]), hfe'.out, if_pos (by exact hfull)])
          omega
        · have hfu := Lib.hid hfull
          have hfI : ¬ (16384 : Int) < (FL.length : Int) + 0 := by omega
          clear hfull
          go_upto_region 15 with (fail)
          have hf : Hid (sendS ⟨F, at_, A, ⟨sent, lost, forged, taken⟩⟩ h d y = (0, 0, ⟨F, min (at_ + 1) F.length, A, ⟨sent + 1, lost + 1, forged, taken⟩⟩)) := Lib.hid (by unfold sendS; rw [hdl, if_neg (by simp [hc1.out]), hfe'.out, if_neg (by exact hfu.out)]; rfl)
          refine wp_region_still_tail 14 (by kernel_rfl) (by kernel_rfl) ?_
          simp only [List.take_succ_cons, List.take_zero, List.drop_succ_cons, List.drop_zero]
          iterate 14 still_step
          refine wpStill_nil ?_
          have hw1 : IntKind.i64.wrap ((at_ : Int) + 1) = (at_ : Int) + 1 := IntWalk.i64_in _ (by omega)
          simp only [hw1]
          clear hw1
          rw [if_neg hmI]
          change wpList _ _ _ _ _ X.drew
          have QY := Lib.hid (QX.out.ext (Below.refl _ _).drew)
          have BY := Lib.hid BX.out.drew
          have BPY := Lib.hid BPX.out.drew
          have hpY := Lib.hid (hpX.out.ext (Below.refl _ _).drew)
          have tY : Hid (Tch S w X.drew) := Lib.hid (tX.out.trans (Tch.drew S _) (fun _ _ h => h))
          generalize X.drew = Y at *
          clear QX BX BPX hpX tX c0 c1 c2 d0 d1 d2
          have c1 : Y.cell? ⟨n, 1, none⟩ = some (.int .i64 at_) := (QY.out.blk.cell 1).trans rfl
          have f1 : Y.frozen? ⟨n, 1, none⟩ = false := by rw [QY.out.blk.frozen]; try simp
          go_upto_region 16 with (fail)
          obtain ⟨V1, hV⟩ : ∃ V, Y.setCell ⟨n, 1, none⟩ (.int .i64 (((at_ : Int) + 1))) = V := ⟨_, rfl⟩
          try rw [hV]
          have NV : Blk V1 n 63 (0, 0) [.slice (some ⟨fb, fo, none⟩) fn fc, .int .i64 ((at_ : Int) + 1), .slice va FL.length vc, .int .i64 (sent), .int .i64 (lost), .int .i64 forged, .int .i64 taken, .bool true] := by rw [← hV]; exact QY.out.blk.set 1 _
          have QV1 := Lib.hid (QY.out.set (c2 := ⟨sent, lost, forged, taken⟩) hV.symm NV)
          have tV1 : Hid (Tch S w V1) := Lib.hid (tY.out.trans (by rw [← hV]; exact Tch.setCell Y (p := ⟨n, 1, none⟩) hsn.out _) (fun _ _ h => h))
          have BPV1 := Lib.hid (BPY.out.setOther (a := ⟨n, 1, none⟩) (by have := hnl.out; have := hw2.out; show n ≠ w.heap.size; omega) (Value.int .i64 (((at_ : Int) + 1))))
          rw [hV] at BPV1
          have BV1 := Lib.hid (BY.out.setOther (a := ⟨n, 1, none⟩) (by have := hnl.out; have := hw2.out; show n ≠ w2.heap.size; omega) (Value.int .i64 (((at_ : Int) + 1))))
          rw [hV] at BV1
          have hpV1 : Hid (Rd byteE V1 da dn dc d) := Lib.hid (rd_set hpY.out QY.out.blk (by simp) hV.symm)
          clear hV NV c1 f1 QY tY BPY BY hpY
          have c3 : V1.cell? ⟨n, 3, none⟩ = some (.int .i64 (sent)) := (QV1.out.blk.cell 3).trans rfl
          have f3 : V1.frozen? ⟨n, 3, none⟩ = false := by rw [QV1.out.blk.frozen]; try simp
          go_upto_region 17 with (fail)
          obtain ⟨V2, hV⟩ : ∃ V, V1.setCell ⟨n, 3, none⟩ (.int .i64 (sent + 1)) = V := ⟨_, rfl⟩
          try rw [hV]
          have NV : Blk V2 n 63 (0, 0) [.slice (some ⟨fb, fo, none⟩) fn fc, .int .i64 ((at_ : Int) + 1), .slice va FL.length vc, .int .i64 (sent + 1), .int .i64 (lost), .int .i64 forged, .int .i64 taken, .bool true] := by rw [← hV]; exact QV1.out.blk.set 3 _
          have QV2 := Lib.hid (QV1.out.set (c2 := ⟨sent + 1, lost, forged, taken⟩) hV.symm NV)
          have tV2 : Hid (Tch S w V2) := Lib.hid (tV1.out.trans (by rw [← hV]; exact Tch.setCell V1 (p := ⟨n, 3, none⟩) hsn.out _) (fun _ _ h => h))
          have BPV2 := Lib.hid (BPV1.out.setOther (a := ⟨n, 3, none⟩) (by have := hnl.out; have := hw2.out; show n ≠ w.heap.size; omega) (Value.int .i64 (sent + 1)))
          rw [hV] at BPV2
          have BV2 := Lib.hid (BV1.out.setOther (a := ⟨n, 3, none⟩) (by have := hnl.out; have := hw2.out; show n ≠ w2.heap.size; omega) (Value.int .i64 (sent + 1)))
          rw [hV] at BV2
          have hpV2 : Hid (Rd byteE V2 da dn dc d) := Lib.hid (rd_set hpV1.out QV1.out.blk (by simp) hV.symm)
          clear hV NV c3 f3 QV1 tV1 BPV1 BV1 hpV1
          have d0 : V2.cell? ⟨w2.heap.size, 0, none⟩ = some (.int .i64 1) := (BV2.out.cell 0).trans rfl
          have c4 : V2.cell? ⟨n, 4, none⟩ = some (.int .i64 (lost)) := (QV2.out.blk.cell 4).trans rfl
          have f4 : V2.frozen? ⟨n, 4, none⟩ = false := by rw [QV2.out.blk.frozen]; try simp
          go_upto_region 20 with (fail)
          obtain ⟨V3, hV⟩ : ∃ V, V2.setCell ⟨n, 4, none⟩ (.int .i64 (lost + 1)) = V := ⟨_, rfl⟩
          try rw [hV]
          have NV : Blk V3 n 63 (0, 0) [.slice (some ⟨fb, fo, none⟩) fn fc, .int .i64 ((at_ : Int) + 1), .slice va FL.length vc, .int .i64 (sent + 1), .int .i64 (lost + 1), .int .i64 forged, .int .i64 taken, .bool true] := by rw [← hV]; exact QV2.out.blk.set 4 _
          have QV3 := Lib.hid (QV2.out.set (c2 := ⟨sent + 1, lost + 1, forged, taken⟩) hV.symm NV)
          have tV3 : Hid (Tch S w V3) := Lib.hid (tV2.out.trans (by rw [← hV]; exact Tch.setCell V2 (p := ⟨n, 4, none⟩) hsn.out _) (fun _ _ h => h))
          have BPV3 := Lib.hid (BPV2.out.setOther (a := ⟨n, 4, none⟩) (by have := hnl.out; have := hw2.out; show n ≠ w.heap.size; omega) (Value.int .i64 (lost + 1)))
          rw [hV] at BPV3
          have BV3 := Lib.hid (BV2.out.setOther (a := ⟨n, 4, none⟩) (by have := hnl.out; have := hw2.out; show n ≠ w2.heap.size; omega) (Value.int .i64 (lost + 1)))
          rw [hV] at BV3
          have hpV3 : Hid (Rd byteE V3 da dn dc d) := Lib.hid (rd_set hpV2.out QV2.out.blk (by simp) hV.symm)
          clear hV NV c4 f4 QV2 tV2 BPV2 BV2 hpV2
          go_wp2_with fail
          refine bodyPost_ret (results_tmp2 rfl _ _ _) rfl ?_
          rw [hf.out]
          refine ⟨rfl, ⟨(some ⟨fb, fo, none⟩), fn, fc, .slice va FL.length vc, ob, FL, ?_⟩, tV3.out⟩
          dsimp only
          rw [hmin.out]
          exact QV3.out.mono (fun g hg => .inl hg)
      · subst hk
        have d0 : X.cell? ⟨w2.heap.size, 0, none⟩ = some (.int .i64 2) := (BX.out.cell 0).trans rfl
        have d1 : X.cell? ⟨w2.heap.size, 1, none⟩ = some (.int .i64 fd) := (BX.out.cell 1).trans rfl
        have d2 : X.cell? ⟨w2.heap.size, 2, none⟩ = some (.int .i64 fm) := (BX.out.cell 2).trans rfl
        have c0 : X.cell? ⟨n, 0, none⟩ = some (.slice (some ⟨fb, fo, none⟩) fn fc) := (QX.out.blk.cell 0).trans rfl
        have c1 : X.cell? ⟨n, 1, none⟩ = some (.int .i64 at_) := (QX.out.blk.cell 1).trans rfl
        have c2 : X.cell? ⟨n, 2, none⟩ = some (.slice va FL.length vc) := (QX.out.blk.cell 2).trans rfl
        by_cases hfull : 16384 < A.length + 2
        · have hf : Hid (sendS ⟨F, at_, A, ⟨sent, lost, forged, taken⟩⟩ h d y = (0, 14, ⟨F, at_, A, ⟨sent, lost, forged, taken⟩⟩)) := Lib.hid (by unfold sendS; rw [hdl, if_neg (by simp [hc1.out]), hfe'.out, if_pos (by exact hfull)])
          have hfI : (16384 : Int) < (FL.length : Int) + 2 := by omega
          clear hfull
          go_wp2_with fail
          refine bodyPost_ret (results_tmp2 rfl _ _ _) rfl ?_
          rw [hf.out]
          exact ⟨rfl, ⟨(some ⟨fb, fo, none⟩), fn, fc, _, ob, FL, QX.out.mono (fun g hg => .inl hg)⟩, tX.out⟩
        · have hfu := Lib.hid hfull
          have hfI : ¬ (16384 : Int) < (FL.length : Int) + 2 := by omega
          clear hfull
          go_upto_region 15 with (fail)
          have hf : Hid (sendS ⟨F, at_, A, ⟨sent, lost, forged, taken⟩⟩ h d y = (2, 0, ⟨F, min (at_ + 1) F.length, insU ⟨y + fd + fm, h, d⟩ (insU ⟨y + fd, h, d⟩ A), ⟨sent + 1, lost, forged, taken⟩⟩)) := Lib.hid (by unfold sendS; rw [hdl, if_neg (by simp [hc1.out]), hfe'.out, if_neg (by exact hfu.out)]; rfl)
          refine wp_region_still_tail 14 (by kernel_rfl) (by kernel_rfl) ?_
          simp only [List.take_succ_cons, List.take_zero, List.drop_succ_cons, List.drop_zero]
          iterate 14 still_step
          refine wpStill_nil ?_
          have hw1 : IntKind.i64.wrap ((at_ : Int) + 1) = (at_ : Int) + 1 := IntWalk.i64_in _ (by omega)
          simp only [hw1]
          clear hw1
          rw [if_neg hmI]
          change wpList _ _ _ _ _ X.drew
          have QY := Lib.hid (QX.out.ext (Below.refl _ _).drew)
          have BY := Lib.hid BX.out.drew
          have BPY := Lib.hid BPX.out.drew
          have hpY := Lib.hid (hpX.out.ext (Below.refl _ _).drew)
          have tY : Hid (Tch S w X.drew) := Lib.hid (tX.out.trans (Tch.drew S _) (fun _ _ h => h))
          generalize X.drew = Y at *
          clear QX BX BPX hpX tX c0 c1 c2 d0 d1 d2
          have c1 : Y.cell? ⟨n, 1, none⟩ = some (.int .i64 at_) := (QY.out.blk.cell 1).trans rfl
          have f1 : Y.frozen? ⟨n, 1, none⟩ = false := by rw [QY.out.blk.frozen]; try simp
          go_upto_region 16 with (fail)
          obtain ⟨V1, hV⟩ : ∃ V, Y.setCell ⟨n, 1, none⟩ (.int .i64 (((at_ : Int) + 1))) = V := ⟨_, rfl⟩
          try rw [hV]
          have NV : Blk V1 n 63 (0, 0) [.slice (some ⟨fb, fo, none⟩) fn fc, .int .i64 ((at_ : Int) + 1), .slice va FL.length vc, .int .i64 (sent), .int .i64 (lost), .int .i64 forged, .int .i64 taken, .bool true] := by rw [← hV]; exact QY.out.blk.set 1 _
          have QV1 := Lib.hid (QY.out.set (c2 := ⟨sent, lost, forged, taken⟩) hV.symm NV)
          have tV1 : Hid (Tch S w V1) := Lib.hid (tY.out.trans (by rw [← hV]; exact Tch.setCell Y (p := ⟨n, 1, none⟩) hsn.out _) (fun _ _ h => h))
          have BPV1 := Lib.hid (BPY.out.setOther (a := ⟨n, 1, none⟩) (by have := hnl.out; have := hw2.out; show n ≠ w.heap.size; omega) (Value.int .i64 (((at_ : Int) + 1))))
          rw [hV] at BPV1
          have BV1 := Lib.hid (BY.out.setOther (a := ⟨n, 1, none⟩) (by have := hnl.out; have := hw2.out; show n ≠ w2.heap.size; omega) (Value.int .i64 (((at_ : Int) + 1))))
          rw [hV] at BV1
          have hpV1 : Hid (Rd byteE V1 da dn dc d) := Lib.hid (rd_set hpY.out QY.out.blk (by simp) hV.symm)
          clear hV NV c1 f1 QY tY BPY BY hpY
          have c3 : V1.cell? ⟨n, 3, none⟩ = some (.int .i64 (sent)) := (QV1.out.blk.cell 3).trans rfl
          have f3 : V1.frozen? ⟨n, 3, none⟩ = false := by rw [QV1.out.blk.frozen]; try simp
          go_upto_region 17 with (fail)
          obtain ⟨V2, hV⟩ : ∃ V, V1.setCell ⟨n, 3, none⟩ (.int .i64 (sent + 1)) = V := ⟨_, rfl⟩
          try rw [hV]
          have NV : Blk V2 n 63 (0, 0) [.slice (some ⟨fb, fo, none⟩) fn fc, .int .i64 ((at_ : Int) + 1), .slice va FL.length vc, .int .i64 (sent + 1), .int .i64 (lost), .int .i64 forged, .int .i64 taken, .bool true] := by rw [← hV]; exact QV1.out.blk.set 3 _
          have QV2 := Lib.hid (QV1.out.set (c2 := ⟨sent + 1, lost, forged, taken⟩) hV.symm NV)
          have tV2 : Hid (Tch S w V2) := Lib.hid (tV1.out.trans (by rw [← hV]; exact Tch.setCell V1 (p := ⟨n, 3, none⟩) hsn.out _) (fun _ _ h => h))
          have BPV2 := Lib.hid (BPV1.out.setOther (a := ⟨n, 3, none⟩) (by have := hnl.out; have := hw2.out; show n ≠ w.heap.size; omega) (Value.int .i64 (sent + 1)))
          rw [hV] at BPV2
          have BV2 := Lib.hid (BV1.out.setOther (a := ⟨n, 3, none⟩) (by have := hnl.out; have := hw2.out; show n ≠ w2.heap.size; omega) (Value.int .i64 (sent + 1)))
          rw [hV] at BV2
          have hpV2 : Hid (Rd byteE V2 da dn dc d) := Lib.hid (rd_set hpV1.out QV1.out.blk (by simp) hV.symm)
          clear hV NV c3 f3 QV1 tV1 BPV1 BV1 hpV1
          have d0 : V2.cell? ⟨w2.heap.size, 0, none⟩ = some (.int .i64 2) := (BV2.out.cell 0).trans rfl
          have d1 : V2.cell? ⟨w2.heap.size, 1, none⟩ = some (.int .i64 fd) := (BV2.out.cell 1).trans rfl
          have p0 : V2.cell? ⟨w.heap.size, 0, none⟩ = some (.int .u32 h.from_) := (BPV2.out.cell 0).trans rfl
          have p1 : V2.cell? ⟨w.heap.size, 1, none⟩ = some (.int .u16 h.fport) := (BPV2.out.cell 1).trans rfl
          have p2 : V2.cell? ⟨w.heap.size, 2, none⟩ = some (.int .u32 h.to_) := (BPV2.out.cell 2).trans rfl
          have p3 : V2.cell? ⟨w.heap.size, 3, none⟩ = some (.int .u16 h.tport) := (BPV2.out.cell 3).trans rfl
          have p4 : V2.cell? ⟨w.heap.size, 4, none⟩ = some (.bool h.stream) := (BPV2.out.cell 4).trans rfl
          have p5 : V2.cell? ⟨w.heap.size, 5, none⟩ = some (.slice da dn dc) := (BPV2.out.cell 5).trans rfl
          have hfly := Lib.hid (fly_any QV2.out hsrt.out (by omega) h hpV2.out hdn (y + fd))
          unfold pkV at hfly
          go_wp2_with fail
          refine hfly.out.mono ?_
          rintro e w5 ⟨rfl, ⟨v5, ob5, FL5, hq⟩, ht⟩
          have Q5 := Lib.hid hq
          have T5 := Lib.hid ht
          clear hq ht hfly p0 p1 p2 p3 p4 p5 d0 d1
          have B5 := Lib.hid (T5.out.blk BV2.out (fun hb => by have := hnl.out; have := hw2.out; rcases hb with hb | hb; omega; exact QV2.out.own.ne BV2.out (by decide) hb))
          have BP5 := Lib.hid (T5.out.blk BPV2.out (fun hb => by have := hnl.out; have := hw2.out; rcases hb with hb | hb; omega; exact QV2.out.own.ne BPV2.out (by decide) hb))
          have hp5 : Hid (Rd byteE w5 da dn dc d) := Lib.hid (T5.out.rd0 hpV2.out (fun b o s h0 e hb => hap'.out b o s h0 e (by rcases hb with rfl | hb; exact hsn.out; exact hso.out b hb)))
          have t5 : Hid (Tch S w w5) := Lib.hid (tV2.out.trans T5.out (fun b _ hb => by rcases hb with rfl | hb; exact hsn.out; exact hso.out b hb))
          clear T5 BV2 BPV2 hpV2
          have d1 : w5.cell? ⟨w2.heap.size, 1, none⟩ = some (.int .i64 fd) := (B5.out.cell 1).trans rfl
          have d2 : w5.cell? ⟨w2.heap.size, 2, none⟩ = some (.int .i64 fm) := (B5.out.cell 2).trans rfl
          have p0 : w5.cell? ⟨w.heap.size, 0, none⟩ = some (.int .u32 h.from_) := (BP5.out.cell 0).trans rfl
          have p1 : w5.cell? ⟨w.heap.size, 1, none⟩ = some (.int .u16 h.fport) := (BP5.out.cell 1).trans rfl
          have p2 : w5.cell? ⟨w.heap.size, 2, none⟩ = some (.int .u32 h.to_) := (BP5.out.cell 2).trans rfl
          have p3 : w5.cell? ⟨w.heap.size, 3, none⟩ = some (.int .u16 h.tport) := (BP5.out.cell 3).trans rfl
          have p4 : w5.cell? ⟨w.heap.size, 4, none⟩ = some (.bool h.stream) := (BP5.out.cell 4).trans rfl
          have p5 : w5.cell? ⟨w.heap.size, 5, none⟩ = some (.slice da dn dc) := (BP5.out.cell 5).trans rfl
          have hfly := Lib.hid (fly_any Q5.out (insU_srt _ _ hsrt.out) (by rw [insU_len]; omega) h hp5.out hdn (y + fd + fm))
          unfold pkV at hfly
          go_wp2_with fail
          refine hfly.out.mono ?_
          rintro e w6 ⟨rfl, ⟨v', ob', FL', hq⟩, ht⟩
          have hq' := Lib.hid hq
          have ht' := Lib.hid ht
          clear hq ht hfly p0 p1 p2 p3 p4 p5 d1 d2
          go_wp2_with fail
          refine bodyPost_ret (results_tmp2 rfl _ _ _) rfl ?_
          rw [hf.out]
          refine ⟨rfl, ⟨(some ⟨fb, fo, none⟩), fn, fc, v', ob', FL', ?_⟩, t5.out.trans ht'.out (fun b hb' hb => by have h1 := tV2.out.size; rcases hb with rfl | hb; exact hsn.out; exact (Q5.out.so b hb).elim id (fun hx => absurd hx (by omega)))⟩
          dsimp only
          rw [hmin.out]
          exact hq'.out.mono (fun g hg => by have h1 := tV2.out.size; have h2 := t5.out.size; rcases hg with (hg | hg) | hg; exact .inl hg; exact .inr (by omega); exact .inr (by omega))
      · subst hk
        have d0 : X.cell? ⟨w2.heap.size, 0, none⟩ = some (.int .i64 3) := (BX.out.cell 0).trans rfl
        have d1 : X.cell? ⟨w2.heap.size, 1, none⟩ = some (.int .i64 fd) := (BX.out.cell 1).trans rfl
        have d2 : X.cell? ⟨w2.heap.size, 2, none⟩ = some (.int .i64 fm) := (BX.out.cell 2).trans rfl
        have c0 : X.cell? ⟨n, 0, none⟩ = some (.slice (some ⟨fb, fo, none⟩) fn fc) := (QX.out.blk.cell 0).trans rfl
        have c1 : X.cell? ⟨n, 1, none⟩ = some (.int .i64 at_) := (QX.out.blk.cell 1).trans rfl
        have c2 : X.cell? ⟨n, 2, none⟩ = some (.slice va FL.length vc) := (QX.out.blk.cell 2).trans rfl
        by_cases hfull : 16384 < A.length + 1
        · have hf : Hid (sendS ⟨F, at_, A, ⟨sent, lost, forged, taken⟩⟩ h d y = (0, 14, ⟨F, at_, A, ⟨sent, lost, forged, taken⟩⟩)) := Lib.hid (by unfold sendS; rw [hdl, if_neg (by simp [hc1.out]), hfe'.out, if_pos (by exact hfull)])
          have hfI : (16384 : Int) < (FL.length : Int) + 1 := by omega
          clear hfull
          go_wp2_with fail
          refine bodyPost_ret (results_tmp2 rfl _ _ _) rfl ?_
          rw [hf.out]
          exact ⟨rfl, ⟨(some ⟨fb, fo, none⟩), fn, fc, _, ob, FL, QX.out.mono (fun g hg => .inl hg)⟩, tX.out⟩
        · have hfu := Lib.hid hfull
          have hfI : ¬ (16384 : Int) < (FL.length : Int) + 1 := by omega
          clear hfull
          go_upto_region 15 with (fail)
          have hf : Hid (sendS ⟨F, at_, A, ⟨sent, lost, forged, taken⟩⟩ h d y = (1, 0, ⟨F, min (at_ + 1) F.length, insU ⟨y + fd, h, flip d fm.toNat⟩ A, ⟨sent + 1, lost, forged, taken⟩⟩)) := Lib.hid (by unfold sendS; rw [hdl, if_neg (by simp [hc1.out]), hfe'.out, if_neg (by exact hfu.out)]; rfl)
          refine wp_region_still_tail 14 (by kernel_rfl) (by kernel_rfl) ?_
          simp only [List.take_succ_cons, List.take_zero, List.drop_succ_cons, List.drop_zero]
          iterate 14 still_step
          refine wpStill_nil ?_
          have hw1 : IntKind.i64.wrap ((at_ : Int) + 1) = (at_ : Int) + 1 := IntWalk.i64_in _ (by omega)
          simp only [hw1]
          clear hw1
          rw [if_neg hmI]
          change wpList _ _ _ _ _ X.drew
          have QY := Lib.hid (QX.out.ext (Below.refl _ _).drew)
          have BY := Lib.hid BX.out.drew
          have BPY := Lib.hid BPX.out.drew
          have hpY := Lib.hid (hpX.out.ext (Below.refl _ _).drew)
          have tY : Hid (Tch S w X.drew) := Lib.hid (tX.out.trans (Tch.drew S _) (fun _ _ h => h))
          generalize X.drew = Y at *
          clear QX BX BPX hpX tX c0 c1 c2 d0 d1 d2
          have c1 : Y.cell? ⟨n, 1, none⟩ = some (.int .i64 at_) := (QY.out.blk.cell 1).trans rfl
          have f1 : Y.frozen? ⟨n, 1, none⟩ = false := by rw [QY.out.blk.frozen]; try simp
          go_upto_region 16 with (fail)
          obtain ⟨V1, hV⟩ : ∃ V, Y.setCell ⟨n, 1, none⟩ (.int .i64 (((at_ : Int) + 1))) = V := ⟨_, rfl⟩
          try rw [hV]
          have NV : Blk V1 n 63 (0, 0) [.slice (some ⟨fb, fo, none⟩) fn fc, .int .i64 ((at_ : Int) + 1), .slice va FL.length vc, .int .i64 (sent), .int .i64 (lost), .int .i64 forged, .int .i64 taken, .bool true] := by rw [← hV]; exact QY.out.blk.set 1 _
          have QV1 := Lib.hid (QY.out.set (c2 := ⟨sent, lost, forged, taken⟩) hV.symm NV)
          have tV1 : Hid (Tch S w V1) := Lib.hid (tY.out.trans (by rw [← hV]; exact Tch.setCell Y (p := ⟨n, 1, none⟩) hsn.out _) (fun _ _ h => h))
          have BPV1 := Lib.hid (BPY.out.setOther (a := ⟨n, 1, none⟩) (by have := hnl.out; have := hw2.out; show n ≠ w.heap.size; omega) (Value.int .i64 (((at_ : Int) + 1))))
          rw [hV] at BPV1
          have BV1 := Lib.hid (BY.out.setOther (a := ⟨n, 1, none⟩) (by have := hnl.out; have := hw2.out; show n ≠ w2.heap.size; omega) (Value.int .i64 (((at_ : Int) + 1))))
          rw [hV] at BV1
          have hpV1 : Hid (Rd byteE V1 da dn dc d) := Lib.hid (rd_set hpY.out QY.out.blk (by simp) hV.symm)
          clear hV NV c1 f1 QY tY BPY BY hpY
          have c3 : V1.cell? ⟨n, 3, none⟩ = some (.int .i64 (sent)) := (QV1.out.blk.cell 3).trans rfl
          have f3 : V1.frozen? ⟨n, 3, none⟩ = false := by rw [QV1.out.blk.frozen]; try simp
          go_upto_region 17 with (fail)
          obtain ⟨V2, hV⟩ : ∃ V, V1.setCell ⟨n, 3, none⟩ (.int .i64 (sent + 1)) = V := ⟨_, rfl⟩
          try rw [hV]
          have NV : Blk V2 n 63 (0, 0) [.slice (some ⟨fb, fo, none⟩) fn fc, .int .i64 ((at_ : Int) + 1), .slice va FL.length vc, .int .i64 (sent + 1), .int .i64 (lost), .int .i64 forged, .int .i64 taken, .bool true] := by rw [← hV]; exact QV1.out.blk.set 3 _
          have QV2 := Lib.hid (QV1.out.set (c2 := ⟨sent + 1, lost, forged, taken⟩) hV.symm NV)
          have tV2 : Hid (Tch S w V2) := Lib.hid (tV1.out.trans (by rw [← hV]; exact Tch.setCell V1 (p := ⟨n, 3, none⟩) hsn.out _) (fun _ _ h => h))
          have BPV2 := Lib.hid (BPV1.out.setOther (a := ⟨n, 3, none⟩) (by have := hnl.out; have := hw2.out; show n ≠ w.heap.size; omega) (Value.int .i64 (sent + 1)))
          rw [hV] at BPV2
          have BV2 := Lib.hid (BV1.out.setOther (a := ⟨n, 3, none⟩) (by have := hnl.out; have := hw2.out; show n ≠ w2.heap.size; omega) (Value.int .i64 (sent + 1)))
          rw [hV] at BV2
          have hpV2 : Hid (Rd byteE V2 da dn dc d) := Lib.hid (rd_set hpV1.out QV1.out.blk (by simp) hV.symm)
          clear hV NV c3 f3 QV1 tV1 BPV1 BV1 hpV1
          have d0 : V2.cell? ⟨w2.heap.size, 0, none⟩ = some (.int .i64 3) := (BV2.out.cell 0).trans rfl
          have p0 : V2.cell? ⟨w.heap.size, 0, none⟩ = some (.int .u32 h.from_) := (BPV2.out.cell 0).trans rfl
          have p1 : V2.cell? ⟨w.heap.size, 1, none⟩ = some (.int .u16 h.fport) := (BPV2.out.cell 1).trans rfl
          have p2 : V2.cell? ⟨w.heap.size, 2, none⟩ = some (.int .u32 h.to_) := (BPV2.out.cell 2).trans rfl
          have p3 : V2.cell? ⟨w.heap.size, 3, none⟩ = some (.int .u16 h.tport) := (BPV2.out.cell 3).trans rfl
          have p4 : V2.cell? ⟨w.heap.size, 4, none⟩ = some (.bool h.stream) := (BPV2.out.cell 4).trans rfl
          have p5 : V2.cell? ⟨w.heap.size, 5, none⟩ = some (.slice da dn dc) := (BPV2.out.cell 5).trans rfl
          have hown := Lib.hid (own_any h hpV2.out hdn)
          unfold pkV at hown
          go_wp2_with fail
          refine hown.out.mono ?_
          rintro e w5 ⟨⟨a', dc', rfl, ho⟩, hb5⟩
          dsimp only
          have hlV : Hid (w.heap.size < V2.heap.size ∧ w2.heap.size < V2.heap.size ∧ n < V2.heap.size) := Lib.hid ⟨BPV2.out.lt, BV2.out.lt, QV2.out.blk.lt⟩
          have O5 := Lib.hid ho
          have k5 := Lib.hid hb5
          have B5 := Lib.hid (BV2.out.below hb5 BV2.out.lt)
          have BP5 := Lib.hid (BPV2.out.below hb5 BPV2.out.lt)
          have Q5 := Lib.hid (QV2.out.ext hb5)
          have t5 : Hid (Tch S w w5) := Lib.hid (tV2.out.trans (Tch.of_below (S := S) hb5) (fun _ _ hb => hb))
          clear ho hb5 hown d0 p0 p1 p2 p3 p4 p5 BV2 BPV2 QV2
          go_upto_region 27 with (refine store_whole rfl 32 (.tmp 4) (.tmp 106) rfl rfl rfl BP5.out (by rfl) (by kernel_rfl) (by kernel_rfl) ?_; intro w6 hBx hgx hzx; have BP6 := Lib.hid hBx; have g6 := Lib.hid hgx; clear hBx hgx hzx)
          have hne : Hid (∀ g, S g → ¬ g = w.heap.size) := Lib.hid (fun g hg e => by have := hSw.out g hg; omega)
          have T6 : Hid (Tch (fun g => g = w.heap.size) w5 w6) := Lib.hid (Tch.of_grown (S := fun g => g = w.heap.size) g6.out (fun k e => (Option.some.inj e).symm))
          have Q6 := Lib.hid (Q5.out.tch T6.out hne.out)
          have B6 := Lib.hid (T6.out.blk B5.out (fun e => by have := hw2.out; omega))
          have O6 := Lib.hid (own_store O5.out BP5.out (by decide) g6.out)
          have t6 : Hid (Tch S w w6) := Lib.hid (t5.out.trans T6.out (fun b hb e => by omega))
          clear Q5 B5 BP5 O5 t5 T6 g6
          obtain ⟨m, rfl⟩ : ∃ m : Nat, fm = m := ⟨fm.toNat, by omega⟩
          have d1 : w6.cell? ⟨w2.heap.size, 1, none⟩ = some (.int .i64 fd) := (B6.out.cell 1).trans rfl
          have d2 : w6.cell? ⟨w2.heap.size, 2, none⟩ = some (.int .i64 (m : Int)) := (B6.out.cell 2).trans rfl
          have p0 : w6.cell? ⟨w.heap.size, 0, none⟩ = some (.int .u32 h.from_) := (BP6.out.cell 0).trans rfl
          have p1 : w6.cell? ⟨w.heap.size, 1, none⟩ = some (.int .u16 h.fport) := (BP6.out.cell 1).trans rfl
          have p2 : w6.cell? ⟨w.heap.size, 2, none⟩ = some (.int .u32 h.to_) := (BP6.out.cell 2).trans rfl
          have p3 : w6.cell? ⟨w.heap.size, 3, none⟩ = some (.int .u16 h.tport) := (BP6.out.cell 3).trans rfl
          have p4 : w6.cell? ⟨w.heap.size, 4, none⟩ = some (.bool h.stream) := (BP6.out.cell 4).trans rfl
          have p5 : w6.cell? ⟨w.heap.size, 5, none⟩ = some ((.slice a' dn dc')) := (BP6.out.cell 5).trans rfl
          skip
          by_cases hx : m / 8 < dn
          · have hxI : ((m : Int) / 8) < dn := by omega
            go_upto_region 28 with (fail)
            refine wp_region_still_tail 13 (by kernel_rfl) (by kernel_rfl) ?_
            simp only [List.take_succ_cons, List.take_zero, List.drop_succ_cons, List.drop_zero]
            obtain ⟨g, rfl, hgl, X, hX1, hX2, hX3⟩ : ∃ g, a' = some ⟨g, 0, none⟩ ∧ V2.heap.size ≤ g ∧ ∃ X, Blk w6 g 5 (0, 0) (rowOf byteE X) ∧ (X.length = dc' ∧ dn ≤ dc' ∧ dc' ≤ maxLen) ∧ X.take dn = d := by
              obtain ⟨e1, e2⟩ | ⟨g, cap, X, e1, e2, e3, e4, e5, e6, e7⟩ := O6.out
              · cases e1; omega
              · injection e1 with e8 e9 e10; exact ⟨g, e8, e2, X, e3, ⟨by omega, by omega, by omega⟩, by rw [← hdl]; exact e7⟩
            have hmX : m / 8 < X.length := by have h1 := hX3 ▸ (List.length_take (l := X) (i := dn)); omega
            have hXd : X[m / 8] = d.getD (m / 8) 0 := by rw [← hX3, List.getD_eq_getElem?_getD, List.getElem?_take, if_pos hx, List.getElem?_eq_getElem hmX]; rfl
            have hcx : w6.cell? ⟨g, m / 8, none⟩ = some (.int .u8 (d.getD (m / 8) 0).toNat) := by rw [hX1.cell, ← hXd]; have := rowOf_get byteE X (m / 8) 0 hmX (by decide); simpa [byteE] using this
            obtain ⟨c8, hc8⟩ : ∃ c8, d.getD (m / 8) 0 = c8 := ⟨_, rfl⟩
            rw [hc8] at hcx
            have hX1' := Lib.hid hX1
            have hX2' := Lib.hid hX2
            have hX3' := Lib.hid hX3
            have hc8' := Lib.hid hc8
            have hgl' := Lib.hid hgl
            clear hX1 hX2 hX3 hc8 hgl hXd
            obtain ⟨q, hq⟩ : ∃ q : Nat, m / 8 = q := ⟨_, rfl⟩
            obtain ⟨r, hr⟩ : ∃ r : Nat, m % 8 = r := ⟨_, rfl⟩
            have hqw : IntKind.i64.wrap ((m : Int) / 8) = (q : Int) := by rw [IntWalk.i64_in _ (by omega)]; omega
            have hrw : (m : Int).tmod 8 = (r : Int) := by rw [← hr]; rfl
            have hqn : (q : Int) < dn := by omega
            have hq0 : (0 : Int) ≤ q := by omega
            have hr0 : (0 : Int) ≤ r := by omega
            have hr8 : (r : Int) < 8 := by omega
            rw [hq] at hcx
            have hq' := Lib.hid hq
            have hr' := Lib.hid hr
            clear hq hr
            iterate 13 still_step
            refine wpStill_nil ?_
            rw [flip_bits c8 (by omega)]
            change wpList _ _ _ _ _ w6.drew
            have QZ := Lib.hid (Q6.out.ext (Below.refl _ _).drew)
            have BZ := Lib.hid B6.out.drew
            have BPZ := Lib.hid BP6.out.drew
            have XZ := Lib.hid hX1'.out.drew
            have tZ : Hid (Tch S w w6.drew) := Lib.hid (t6.out.trans (Tch.drew S _) (fun _ _ h => h))
            have hcz : w6.drew.cell? ⟨g, q, none⟩ = some (.int .u8 c8.toNat) := hcx
            have hks : Hid (V2.heap.size ≤ w6.heap.size) := Lib.hid (by have h1 := k5.out.size; have h2 := hX1'.out.lt; have := hgl'.out; omega)
            generalize w6.drew = Z at *
            clear Q6 B6 BP6 hX1' t6 hcx d1 d2 p0 p1 p2 p3 p4 p5 O6
            have fz : Z.frozen? ⟨g, q, none⟩ = false := by rw [XZ.out.frozen]; try simp
            go_upto_region 29 with (fail)
            obtain ⟨U, hU⟩ : ∃ U, Z.setCell ⟨g, q, none⟩ (.int .u8 (flipB c8 r).toNat) = U := ⟨_, rfl⟩
            try rw [hU]
            have TU : Hid (Tch (fun k => k = g) Z U) := Lib.hid (by rw [← hU]; exact Tch.setCell (S := fun k => k = g) Z (p := ⟨g, q, none⟩) rfl _)
            have XU : Hid (Blk U g 5 (0, 0) (rowOf byteE (X.set q (flipB c8 r)))) := Lib.hid (by rw [← hU, row_set]; exact XZ.out.set q _)
            have QU := Lib.hid (QZ.out.tch TU.out (fun k hk e => by have h1 := hSw.out k hk; have h2 := hgl'.out; have h3 := hlV.out.1; omega))
            have BU := Lib.hid (TU.out.blk BZ.out (fun e => by have h2 := hgl'.out; have h3 := hlV.out.2.1; omega))
            have BPU := Lib.hid (TU.out.blk BPZ.out (fun e => by have h2 := hgl'.out; have h3 := hlV.out.1; omega))
            have tU : Hid (Tch S w U) := Lib.hid (tZ.out.trans TU.out (fun b hb e => by have h2 := hgl'.out; have h3 := hlV.out.1; omega))
            have hfd : Hid (flip d m = (X.set q (flipB c8 r)).take dn) := Lib.hid (by unfold flip; rw [hc8'.out, hq'.out, hr'.out, List.take_set, hX3'.out])
            have OU : Hid (Own byteE U 0 (.slice (some ⟨g, 0, none⟩) dn dc') (flip d m)) := Lib.hid (.inr ⟨g, dc', X.set q (flipB c8 r), by unfold flip; rw [List.length_set, hdl], Nat.zero_le _, XU.out, by rw [List.length_set]; exact hX2'.out.1, by unfold flip; rw [List.length_set, hdl]; exact hX2'.out.2.1, hX2'.out.2.2, by unfold flip at hfd ⊢; rw [List.length_set, hdl]; exact hfd.out.symm⟩)
            clear hU QZ BZ BPZ XZ tZ TU XU hcz fz hfd hmX
            have d1 : U.cell? ⟨w2.heap.size, 1, none⟩ = some (.int .i64 fd) := (BU.out.cell 1).trans rfl
            have p0 : U.cell? ⟨w.heap.size, 0, none⟩ = some (.int .u32 h.from_) := (BPU.out.cell 0).trans rfl
            have p1 : U.cell? ⟨w.heap.size, 1, none⟩ = some (.int .u16 h.fport) := (BPU.out.cell 1).trans rfl
            have p2 : U.cell? ⟨w.heap.size, 2, none⟩ = some (.int .u32 h.to_) := (BPU.out.cell 2).trans rfl
            have p3 : U.cell? ⟨w.heap.size, 3, none⟩ = some (.int .u16 h.tport) := (BPU.out.cell 3).trans rfl
            have p4 : U.cell? ⟨w.heap.size, 4, none⟩ = some (.bool h.stream) := (BPU.out.cell 4).trans rfl
            have p5 : U.cell? ⟨w.heap.size, 5, none⟩ = some ((.slice (some ⟨g, 0, none⟩) dn dc')) := (BPU.out.cell 5).trans rfl
            have hrd := Lib.hid (own_rd_at OU.out).1
            have hfly := Lib.hid (fly_any QU.out hsrt.out (by omega) h hrd.out hdn (y + fd))
            unfold pkV at hfly
            go_wp2_with fail
            refine hfly.out.mono ?_
            rintro e w9 ⟨rfl, ⟨v', ob', FL', hq⟩, ht⟩
            have hq' := Lib.hid hq
            have ht' := Lib.hid ht
            clear hq ht hfly p0 p1 p2 p3 p4 p5 d1
            go_wp2_with fail
            refine bodyPost_ret (results_tmp2 rfl _ _ _) rfl ?_
            rw [hf.out]
            refine ⟨rfl, ⟨(some ⟨fb, fo, none⟩), fn, fc, v', ob', FL', ?_⟩, tU.out.trans ht'.out (fun b _ hb => by rcases hb with rfl | hb; exact hsn.out; exact hso.out b hb)⟩
            dsimp only
            rw [hmin.out]
            exact hq'.out.mono (fun g hg => by have h1 := tU.out.size; rcases hg with hg | hg; exact .inl hg; exact .inr (by omega))
          · have hxI : ¬ ((m : Int) / 8) < dn := by omega
            have hfl : Hid (flip d (m : Int).toNat = d) := Lib.hid (by show flip d m = d; unfold flip; rw [List.set_eq_of_length_le (by omega)])
            have hrd := Lib.hid (own_rd_at O6.out).1
            have hfly := Lib.hid (fly_any Q6.out hsrt.out (by omega) h hrd.out hdn (y + fd))
            unfold pkV at hfly
            go_wp2_with fail
            refine hfly.out.mono ?_
            rintro e w9 ⟨rfl, ⟨v', ob', FL', hq⟩, ht⟩
            have hq' := Lib.hid hq
            have ht' := Lib.hid ht
            clear hq ht hfly p0 p1 p2 p3 p4 p5 d1
            go_wp2_with fail
            refine bodyPost_ret (results_tmp2 rfl _ _ _) rfl ?_
            rw [hf.out]
            refine ⟨rfl, ⟨(some ⟨fb, fo, none⟩), fn, fc, v', ob', FL', ?_⟩, t6.out.trans ht'.out (fun b _ hb => by rcases hb with rfl | hb; exact hsn.out; exact hso.out b hb)⟩
            dsimp only
            rw [hmin.out, hfl.out]
            exact hq'.out.mono (fun g hg => by have h1 := t6.out.size; rcases hg with hg | hg; exact .inl hg; exact .inr (by omega))
    · have hI : ¬ (at_ : Int) < fn := by omega
      go_quiet (fail)
      rename_i nq _
      obtain ⟨X, hX⟩ : ∃ X, W4.drewN nq = X := ⟨_, rfl⟩
      have hkX : Below W4.heap.size W4 X := by rw [← hX]; exact below_drewN (Below.refl _ _) nq
      have QX := Lib.hid (Q4.out.ext hkX)
      have BX0 := Lib.hid (B4.out.below hkX B4.out.lt)
      have BPX := Lib.hid (B24.out.below hkX B24.out.lt)
      have hpX := Lib.hid (hp4.out.ext hkX)
      have kX := Lib.hid (kb4.out.trans (hkX.mono kb4.out.size))
      have hff : Hid (fk = 0 ∧ fd = 0 ∧ fm = 0) := Lib.hid (by
        have := hfg'.out
        rw [List.getElem?_eq_none (by omega)] at this
        simpa using this)
      obtain ⟨e1, e2, e3⟩ := hff.out
      have BX : Hid (Blk X w2.heap.size 51 (0, 0) [.int .i64 fk, .int .i64 fd, .int .i64 fm]) := Lib.hid (by rw [e1, e2, e3]; exact BX0.out)
      rw [hX]
      clear hX hkX Q4 B4 B24 hp4 kb4 BX0 c0 c1 e1 e2 e3
      have tX : Hid (Tch S w X) := Lib.hid (Tch.of_below kX.out)
      have hmin : Hid (((min (at_ + 1) F.length : Nat) : Int) = (fn : Int)) := Lib.hid (by omega)
      have hmI : (fn : Int) < (at_ : Int) + 1 := by omega
      clear kX
      rcases hk with hk | hk | hk | hk
      · subst hk
        have d0 : X.cell? ⟨w2.heap.size, 0, none⟩ = some (.int .i64 0) := (BX.out.cell 0).trans rfl
        have d1 : X.cell? ⟨w2.heap.size, 1, none⟩ = some (.int .i64 fd) := (BX.out.cell 1).trans rfl
        have d2 : X.cell? ⟨w2.heap.size, 2, none⟩ = some (.int .i64 fm) := (BX.out.cell 2).trans rfl
        have c0 : X.cell? ⟨n, 0, none⟩ = some (.slice fa fn fc) := (QX.out.blk.cell 0).trans rfl
        have c1 : X.cell? ⟨n, 1, none⟩ = some (.int .i64 at_) := (QX.out.blk.cell 1).trans rfl
        have c2 : X.cell? ⟨n, 2, none⟩ = some (.slice va FL.length vc) := (QX.out.blk.cell 2).trans rfl
        by_cases hfull : 16384 < A.length + 1
        · have hf : Hid (sendS ⟨F, at_, A, ⟨sent, lost, forged, taken⟩⟩ h d y = (0, 14, ⟨F, at_, A, ⟨sent, lost, forged, taken⟩⟩)) := Lib.hid (by unfold sendS; rw [hdl, if_neg (by simp [hc1.out]), hfe'.out, if_pos (by exact hfull)])
          have hfI : (16384 : Int) < (FL.length : Int) + 1 := by omega
          clear hfull
          go_wp2_with fail
          refine bodyPost_ret (results_tmp2 rfl _ _ _) rfl ?_
          rw [hf.out]
          exact ⟨rfl, ⟨fa, fn, fc, _, ob, FL, QX.out.mono (fun g hg => .inl hg)⟩, tX.out⟩
        · have hfu := Lib.hid hfull
          have hfI : ¬ (16384 : Int) < (FL.length : Int) + 1 := by omega
          clear hfull
          go_upto_region 15 with (fail)
          have hf : Hid (sendS ⟨F, at_, A, ⟨sent, lost, forged, taken⟩⟩ h d y = (1, 0, ⟨F, min (at_ + 1) F.length, insU ⟨y + fd, h, d⟩ A, ⟨sent + 1, lost, forged, taken⟩⟩)) := Lib.hid (by unfold sendS; rw [hdl, if_neg (by simp [hc1.out]), hfe'.out, if_neg (by exact hfu.out)]; rfl)
          refine wp_region_still_tail 14 (by kernel_rfl) (by kernel_rfl) ?_
          simp only [List.take_succ_cons, List.take_zero, List.drop_succ_cons, List.drop_zero]
          iterate 14 still_step
          refine wpStill_nil ?_
          have hw1 : IntKind.i64.wrap ((at_ : Int) + 1) = (at_ : Int) + 1 := IntWalk.i64_in _ (by omega)
          simp only [hw1]
          clear hw1
          rw [if_pos hmI]
          change wpList _ _ _ _ _ X.drew
          have QY := Lib.hid (QX.out.ext (Below.refl _ _).drew)
          have BY := Lib.hid BX.out.drew
          have BPY := Lib.hid BPX.out.drew
          have hpY := Lib.hid (hpX.out.ext (Below.refl _ _).drew)
          have tY : Hid (Tch S w X.drew) := Lib.hid (tX.out.trans (Tch.drew S _) (fun _ _ h => h))
          generalize X.drew = Y at *
          clear QX BX BPX hpX tX c0 c1 c2 d0 d1 d2
          have c1 : Y.cell? ⟨n, 1, none⟩ = some (.int .i64 at_) := (QY.out.blk.cell 1).trans rfl
          have f1 : Y.frozen? ⟨n, 1, none⟩ = false := by rw [QY.out.blk.frozen]; try simp
          go_upto_region 16 with (fail)
          obtain ⟨V1, hV⟩ : ∃ V, Y.setCell ⟨n, 1, none⟩ (.int .i64 ((fn : Int))) = V := ⟨_, rfl⟩
          try rw [hV]
          have NV : Blk V1 n 63 (0, 0) [.slice fa fn fc, .int .i64 (fn : Int), .slice va FL.length vc, .int .i64 (sent), .int .i64 (lost), .int .i64 forged, .int .i64 taken, .bool true] := by rw [← hV]; exact QY.out.blk.set 1 _
          have QV1 := Lib.hid (QY.out.set (c2 := ⟨sent, lost, forged, taken⟩) hV.symm NV)
          have tV1 : Hid (Tch S w V1) := Lib.hid (tY.out.trans (by rw [← hV]; exact Tch.setCell Y (p := ⟨n, 1, none⟩) hsn.out _) (fun _ _ h => h))
          have BPV1 := Lib.hid (BPY.out.setOther (a := ⟨n, 1, none⟩) (by have := hnl.out; have := hw2.out; show n ≠ w.heap.size; omega) (Value.int .i64 ((fn : Int))))
          rw [hV] at BPV1
          have BV1 := Lib.hid (BY.out.setOther (a := ⟨n, 1, none⟩) (by have := hnl.out; have := hw2.out; show n ≠ w2.heap.size; omega) (Value.int .i64 ((fn : Int))))
          rw [hV] at BV1
          have hpV1 : Hid (Rd byteE V1 da dn dc d) := Lib.hid (rd_set hpY.out QY.out.blk (by simp) hV.symm)
          clear hV NV c1 f1 QY tY BPY BY hpY
          have c3 : V1.cell? ⟨n, 3, none⟩ = some (.int .i64 (sent)) := (QV1.out.blk.cell 3).trans rfl
          have f3 : V1.frozen? ⟨n, 3, none⟩ = false := by rw [QV1.out.blk.frozen]; try simp
          go_upto_region 17 with (fail)
          obtain ⟨V2, hV⟩ : ∃ V, V1.setCell ⟨n, 3, none⟩ (.int .i64 (sent + 1)) = V := ⟨_, rfl⟩
          try rw [hV]
          have NV : Blk V2 n 63 (0, 0) [.slice fa fn fc, .int .i64 (fn : Int), .slice va FL.length vc, .int .i64 (sent + 1), .int .i64 (lost), .int .i64 forged, .int .i64 taken, .bool true] := by rw [← hV]; exact QV1.out.blk.set 3 _
          have QV2 := Lib.hid (QV1.out.set (c2 := ⟨sent + 1, lost, forged, taken⟩) hV.symm NV)
          have tV2 : Hid (Tch S w V2) := Lib.hid (tV1.out.trans (by rw [← hV]; exact Tch.setCell V1 (p := ⟨n, 3, none⟩) hsn.out _) (fun _ _ h => h))
          have BPV2 := Lib.hid (BPV1.out.setOther (a := ⟨n, 3, none⟩) (by have := hnl.out; have := hw2.out; show n ≠ w.heap.size; omega) (Value.int .i64 (sent + 1)))
          rw [hV] at BPV2
          have BV2 := Lib.hid (BV1.out.setOther (a := ⟨n, 3, none⟩) (by have := hnl.out; have := hw2.out; show n ≠ w2.heap.size; omega) (Value.int .i64 (sent + 1)))
          rw [hV] at BV2
          have hpV2 : Hid (Rd byteE V2 da dn dc d) := Lib.hid (rd_set hpV1.out QV1.out.blk (by simp) hV.symm)
          clear hV NV c3 f3 QV1 tV1 BPV1 BV1 hpV1
          have d0 : V2.cell? ⟨w2.heap.size, 0, none⟩ = some (.int .i64 0) := (BV2.out.cell 0).trans rfl
          have d1 : V2.cell? ⟨w2.heap.size, 1, none⟩ = some (.int .i64 fd) := (BV2.out.cell 1).trans rfl
          have p0 : V2.cell? ⟨w.heap.size, 0, none⟩ = some (.int .u32 h.from_) := (BPV2.out.cell 0).trans rfl
          have p1 : V2.cell? ⟨w.heap.size, 1, none⟩ = some (.int .u16 h.fport) := (BPV2.out.cell 1).trans rfl
          have p2 : V2.cell? ⟨w.heap.size, 2, none⟩ = some (.int .u32 h.to_) := (BPV2.out.cell 2).trans rfl
          have p3 : V2.cell? ⟨w.heap.size, 3, none⟩ = some (.int .u16 h.tport) := (BPV2.out.cell 3).trans rfl
          have p4 : V2.cell? ⟨w.heap.size, 4, none⟩ = some (.bool h.stream) := (BPV2.out.cell 4).trans rfl
          have p5 : V2.cell? ⟨w.heap.size, 5, none⟩ = some (.slice da dn dc) := (BPV2.out.cell 5).trans rfl
          have hfly := Lib.hid (fly_any QV2.out hsrt.out (by omega) h hpV2.out hdn (y + fd))
          unfold pkV at hfly
          go_wp2_with fail
          refine hfly.out.mono ?_
          rintro e w5 ⟨rfl, ⟨v', ob', FL', hq⟩, ht⟩
          have hq' := Lib.hid hq
          have ht' := Lib.hid ht
          clear hq ht hfly
          go_wp2_with fail
          refine bodyPost_ret (results_tmp2 rfl _ _ _) rfl ?_
          rw [hf.out]
          refine ⟨rfl, ⟨fa, fn, fc, v', ob', FL', ?_⟩, tV2.out.trans ht'.out (fun b _ hb => by rcases hb with rfl | hb; exact hsn.out; exact hso.out b hb)⟩
          dsimp only
          rw [hmin.out]
          exact hq'.out.mono (fun g hg => hg.imp id (fun hg => Nat.le_trans tV2.out.size hg))
      · subst hk
        have d0 : X.cell? ⟨w2.heap.size, 0, none⟩ = some (.int .i64 1) := (BX.out.cell 0).trans rfl
        have d1 : X.cell? ⟨w2.heap.size, 1, none⟩ = some (.int .i64 fd) := (BX.out.cell 1).trans rfl
        have d2 : X.cell? ⟨w2.heap.size, 2, none⟩ = some (.int .i64 fm) := (BX.out.cell 2).trans rfl
        have c0 : X.cell? ⟨n, 0, none⟩ = some (.slice fa fn fc) := (QX.out.blk.cell 0).trans rfl
        have c1 : X.cell? ⟨n, 1, none⟩ = some (.int .i64 at_) := (QX.out.blk.cell 1).trans rfl
        have c2 : X.cell? ⟨n, 2, none⟩ = some (.slice va FL.length vc) := (QX.out.blk.cell 2).trans rfl
        by_cases hfull : 16384 < A.length + 0
        · have hf : Hid (sendS ⟨F, at_, A, ⟨sent, lost, forged, taken⟩⟩ h d y = (0, 14, ⟨F, at_, A, ⟨sent, lost, forged, taken⟩⟩)) := Lib.hid (by unfold sendS; rw [hdl, if_neg (by simp [hc1.out]), hfe'.out, if_pos (by exact hfull)])
          omega
        · have hfu := Lib.hid hfull
          have hfI : ¬ (16384 : Int) < (FL.length : Int) + 0 := by omega
          clear hfull
          go_upto_region 15 with (fail)
          have hf : Hid (sendS ⟨F, at_, A, ⟨sent, lost, forged, taken⟩⟩ h d y = (0, 0, ⟨F, min (at_ + 1) F.length, A, ⟨sent + 1, lost + 1, forged, taken⟩⟩)) := Lib.hid (by unfold sendS; rw [hdl, if_neg (by simp [hc1.out]), hfe'.out, if_neg (by exact hfu.out)]; rfl)
          refine wp_region_still_tail 14 (by kernel_rfl) (by kernel_rfl) ?_
          simp only [List.take_succ_cons, List.take_zero, List.drop_succ_cons, List.drop_zero]
          iterate 14 still_step
          refine wpStill_nil ?_
          have hw1 : IntKind.i64.wrap ((at_ : Int) + 1) = (at_ : Int) + 1 := IntWalk.i64_in _ (by omega)
          simp only [hw1]
          clear hw1
          rw [if_pos hmI]
          change wpList _ _ _ _ _ X.drew
          have QY := Lib.hid (QX.out.ext (Below.refl _ _).drew)
          have BY := Lib.hid BX.out.drew
          have BPY := Lib.hid BPX.out.drew
          have hpY := Lib.hid (hpX.out.ext (Below.refl _ _).drew)
          have tY : Hid (Tch S w X.drew) := Lib.hid (tX.out.trans (Tch.drew S _) (fun _ _ h => h))
          generalize X.drew = Y at *
          clear QX BX BPX hpX tX c0 c1 c2 d0 d1 d2
          have c1 : Y.cell? ⟨n, 1, none⟩ = some (.int .i64 at_) := (QY.out.blk.cell 1).trans rfl
          have f1 : Y.frozen? ⟨n, 1, none⟩ = false := by rw [QY.out.blk.frozen]; try simp
          go_upto_region 16 with (fail)
          obtain ⟨V1, hV⟩ : ∃ V, Y.setCell ⟨n, 1, none⟩ (.int .i64 ((fn : Int))) = V := ⟨_, rfl⟩
          try rw [hV]
          have NV : Blk V1 n 63 (0, 0) [.slice fa fn fc, .int .i64 (fn : Int), .slice va FL.length vc, .int .i64 (sent), .int .i64 (lost), .int .i64 forged, .int .i64 taken, .bool true] := by rw [← hV]; exact QY.out.blk.set 1 _
          have QV1 := Lib.hid (QY.out.set (c2 := ⟨sent, lost, forged, taken⟩) hV.symm NV)
          have tV1 : Hid (Tch S w V1) := Lib.hid (tY.out.trans (by rw [← hV]; exact Tch.setCell Y (p := ⟨n, 1, none⟩) hsn.out _) (fun _ _ h => h))
          have BPV1 := Lib.hid (BPY.out.setOther (a := ⟨n, 1, none⟩) (by have := hnl.out; have := hw2.out; show n ≠ w.heap.size; omega) (Value.int .i64 ((fn : Int))))
          rw [hV] at BPV1
          have BV1 := Lib.hid (BY.out.setOther (a := ⟨n, 1, none⟩) (by have := hnl.out; have := hw2.out; show n ≠ w2.heap.size; omega) (Value.int .i64 ((fn : Int))))
          rw [hV] at BV1
          have hpV1 : Hid (Rd byteE V1 da dn dc d) := Lib.hid (rd_set hpY.out QY.out.blk (by simp) hV.symm)
          clear hV NV c1 f1 QY tY BPY BY hpY
          have c3 : V1.cell? ⟨n, 3, none⟩ = some (.int .i64 (sent)) := (QV1.out.blk.cell 3).trans rfl
          have f3 : V1.frozen? ⟨n, 3, none⟩ = false := by rw [QV1.out.blk.frozen]; try simp
          go_upto_region 17 with (fail)
          obtain ⟨V2, hV⟩ : ∃ V, V1.setCell ⟨n, 3, none⟩ (.int .i64 (sent + 1)) = V := ⟨_, rfl⟩
          try rw [hV]
          have NV : Blk V2 n 63 (0, 0) [.slice fa fn fc, .int .i64 (fn : Int), .slice va FL.length vc, .int .i64 (sent + 1), .int .i64 (lost), .int .i64 forged, .int .i64 taken, .bool true] := by rw [← hV]; exact QV1.out.blk.set 3 _
          have QV2 := Lib.hid (QV1.out.set (c2 := ⟨sent + 1, lost, forged, taken⟩) hV.symm NV)
          have tV2 : Hid (Tch S w V2) := Lib.hid (tV1.out.trans (by rw [← hV]; exact Tch.setCell V1 (p := ⟨n, 3, none⟩) hsn.out _) (fun _ _ h => h))
          have BPV2 := Lib.hid (BPV1.out.setOther (a := ⟨n, 3, none⟩) (by have := hnl.out; have := hw2.out; show n ≠ w.heap.size; omega) (Value.int .i64 (sent + 1)))
          rw [hV] at BPV2
          have BV2 := Lib.hid (BV1.out.setOther (a := ⟨n, 3, none⟩) (by have := hnl.out; have := hw2.out; show n ≠ w2.heap.size; omega) (Value.int .i64 (sent + 1)))
          rw [hV] at BV2
          have hpV2 : Hid (Rd byteE V2 da dn dc d) := Lib.hid (rd_set hpV1.out QV1.out.blk (by simp) hV.symm)
          clear hV NV c3 f3 QV1 tV1 BPV1 BV1 hpV1
          have d0 : V2.cell? ⟨w2.heap.size, 0, none⟩ = some (.int .i64 1) := (BV2.out.cell 0).trans rfl
          have c4 : V2.cell? ⟨n, 4, none⟩ = some (.int .i64 (lost)) := (QV2.out.blk.cell 4).trans rfl
          have f4 : V2.frozen? ⟨n, 4, none⟩ = false := by rw [QV2.out.blk.frozen]; try simp
          go_upto_region 20 with (fail)
          obtain ⟨V3, hV⟩ : ∃ V, V2.setCell ⟨n, 4, none⟩ (.int .i64 (lost + 1)) = V := ⟨_, rfl⟩
          try rw [hV]
          have NV : Blk V3 n 63 (0, 0) [.slice fa fn fc, .int .i64 (fn : Int), .slice va FL.length vc, .int .i64 (sent + 1), .int .i64 (lost + 1), .int .i64 forged, .int .i64 taken, .bool true] := by rw [← hV]; exact QV2.out.blk.set 4 _
          have QV3 := Lib.hid (QV2.out.set (c2 := ⟨sent + 1, lost + 1, forged, taken⟩) hV.symm NV)
          have tV3 : Hid (Tch S w V3) := Lib.hid (tV2.out.trans (by rw [← hV]; exact Tch.setCell V2 (p := ⟨n, 4, none⟩) hsn.out _) (fun _ _ h => h))
          have BPV3 := Lib.hid (BPV2.out.setOther (a := ⟨n, 4, none⟩) (by have := hnl.out; have := hw2.out; show n ≠ w.heap.size; omega) (Value.int .i64 (lost + 1)))
          rw [hV] at BPV3
          have BV3 := Lib.hid (BV2.out.setOther (a := ⟨n, 4, none⟩) (by have := hnl.out; have := hw2.out; show n ≠ w2.heap.size; omega) (Value.int .i64 (lost + 1)))
          rw [hV] at BV3
          have hpV3 : Hid (Rd byteE V3 da dn dc d) := Lib.hid (rd_set hpV2.out QV2.out.blk (by simp) hV.symm)
          clear hV NV c4 f4 QV2 tV2 BPV2 BV2 hpV2
          go_wp2_with fail
          refine bodyPost_ret (results_tmp2 rfl _ _ _) rfl ?_
          rw [hf.out]
          refine ⟨rfl, ⟨fa, fn, fc, .slice va FL.length vc, ob, FL, ?_⟩, tV3.out⟩
          dsimp only
          rw [hmin.out]
          exact QV3.out.mono (fun g hg => .inl hg)
      · subst hk
        have d0 : X.cell? ⟨w2.heap.size, 0, none⟩ = some (.int .i64 2) := (BX.out.cell 0).trans rfl
        have d1 : X.cell? ⟨w2.heap.size, 1, none⟩ = some (.int .i64 fd) := (BX.out.cell 1).trans rfl
        have d2 : X.cell? ⟨w2.heap.size, 2, none⟩ = some (.int .i64 fm) := (BX.out.cell 2).trans rfl
        have c0 : X.cell? ⟨n, 0, none⟩ = some (.slice fa fn fc) := (QX.out.blk.cell 0).trans rfl
        have c1 : X.cell? ⟨n, 1, none⟩ = some (.int .i64 at_) := (QX.out.blk.cell 1).trans rfl
        have c2 : X.cell? ⟨n, 2, none⟩ = some (.slice va FL.length vc) := (QX.out.blk.cell 2).trans rfl
        by_cases hfull : 16384 < A.length + 2
        · have hf : Hid (sendS ⟨F, at_, A, ⟨sent, lost, forged, taken⟩⟩ h d y = (0, 14, ⟨F, at_, A, ⟨sent, lost, forged, taken⟩⟩)) := Lib.hid (by unfold sendS; rw [hdl, if_neg (by simp [hc1.out]), hfe'.out, if_pos (by exact hfull)])
          have hfI : (16384 : Int) < (FL.length : Int) + 2 := by omega
          clear hfull
          go_wp2_with fail
          refine bodyPost_ret (results_tmp2 rfl _ _ _) rfl ?_
          rw [hf.out]
          exact ⟨rfl, ⟨fa, fn, fc, _, ob, FL, QX.out.mono (fun g hg => .inl hg)⟩, tX.out⟩
        · have hfu := Lib.hid hfull
          have hfI : ¬ (16384 : Int) < (FL.length : Int) + 2 := by omega
          clear hfull
          go_upto_region 15 with (fail)
          have hf : Hid (sendS ⟨F, at_, A, ⟨sent, lost, forged, taken⟩⟩ h d y = (2, 0, ⟨F, min (at_ + 1) F.length, insU ⟨y + fd + fm, h, d⟩ (insU ⟨y + fd, h, d⟩ A), ⟨sent + 1, lost, forged, taken⟩⟩)) := Lib.hid (by unfold sendS; rw [hdl, if_neg (by simp [hc1.out]), hfe'.out, if_neg (by exact hfu.out)]; rfl)
          refine wp_region_still_tail 14 (by kernel_rfl) (by kernel_rfl) ?_
          simp only [List.take_succ_cons, List.take_zero, List.drop_succ_cons, List.drop_zero]
          iterate 14 still_step
          refine wpStill_nil ?_
          have hw1 : IntKind.i64.wrap ((at_ : Int) + 1) = (at_ : Int) + 1 := IntWalk.i64_in _ (by omega)
          simp only [hw1]
          clear hw1
          rw [if_pos hmI]
          change wpList _ _ _ _ _ X.drew
          have QY := Lib.hid (QX.out.ext (Below.refl _ _).drew)
          have BY := Lib.hid BX.out.drew
          have BPY := Lib.hid BPX.out.drew
          have hpY := Lib.hid (hpX.out.ext (Below.refl _ _).drew)
          have tY : Hid (Tch S w X.drew) := Lib.hid (tX.out.trans (Tch.drew S _) (fun _ _ h => h))
          generalize X.drew = Y at *
          clear QX BX BPX hpX tX c0 c1 c2 d0 d1 d2
          have c1 : Y.cell? ⟨n, 1, none⟩ = some (.int .i64 at_) := (QY.out.blk.cell 1).trans rfl
          have f1 : Y.frozen? ⟨n, 1, none⟩ = false := by rw [QY.out.blk.frozen]; try simp
          go_upto_region 16 with (fail)
          obtain ⟨V1, hV⟩ : ∃ V, Y.setCell ⟨n, 1, none⟩ (.int .i64 ((fn : Int))) = V := ⟨_, rfl⟩
          try rw [hV]
          have NV : Blk V1 n 63 (0, 0) [.slice fa fn fc, .int .i64 (fn : Int), .slice va FL.length vc, .int .i64 (sent), .int .i64 (lost), .int .i64 forged, .int .i64 taken, .bool true] := by rw [← hV]; exact QY.out.blk.set 1 _
          have QV1 := Lib.hid (QY.out.set (c2 := ⟨sent, lost, forged, taken⟩) hV.symm NV)
          have tV1 : Hid (Tch S w V1) := Lib.hid (tY.out.trans (by rw [← hV]; exact Tch.setCell Y (p := ⟨n, 1, none⟩) hsn.out _) (fun _ _ h => h))
          have BPV1 := Lib.hid (BPY.out.setOther (a := ⟨n, 1, none⟩) (by have := hnl.out; have := hw2.out; show n ≠ w.heap.size; omega) (Value.int .i64 ((fn : Int))))
          rw [hV] at BPV1
          have BV1 := Lib.hid (BY.out.setOther (a := ⟨n, 1, none⟩) (by have := hnl.out; have := hw2.out; show n ≠ w2.heap.size; omega) (Value.int .i64 ((fn : Int))))
          rw [hV] at BV1
          have hpV1 : Hid (Rd byteE V1 da dn dc d) := Lib.hid (rd_set hpY.out QY.out.blk (by simp) hV.symm)
          clear hV NV c1 f1 QY tY BPY BY hpY
          have c3 : V1.cell? ⟨n, 3, none⟩ = some (.int .i64 (sent)) := (QV1.out.blk.cell 3).trans rfl
          have f3 : V1.frozen? ⟨n, 3, none⟩ = false := by rw [QV1.out.blk.frozen]; try simp
          go_upto_region 17 with (fail)
          obtain ⟨V2, hV⟩ : ∃ V, V1.setCell ⟨n, 3, none⟩ (.int .i64 (sent + 1)) = V := ⟨_, rfl⟩
          try rw [hV]
          have NV : Blk V2 n 63 (0, 0) [.slice fa fn fc, .int .i64 (fn : Int), .slice va FL.length vc, .int .i64 (sent + 1), .int .i64 (lost), .int .i64 forged, .int .i64 taken, .bool true] := by rw [← hV]; exact QV1.out.blk.set 3 _
          have QV2 := Lib.hid (QV1.out.set (c2 := ⟨sent + 1, lost, forged, taken⟩) hV.symm NV)
          have tV2 : Hid (Tch S w V2) := Lib.hid (tV1.out.trans (by rw [← hV]; exact Tch.setCell V1 (p := ⟨n, 3, none⟩) hsn.out _) (fun _ _ h => h))
          have BPV2 := Lib.hid (BPV1.out.setOther (a := ⟨n, 3, none⟩) (by have := hnl.out; have := hw2.out; show n ≠ w.heap.size; omega) (Value.int .i64 (sent + 1)))
          rw [hV] at BPV2
          have BV2 := Lib.hid (BV1.out.setOther (a := ⟨n, 3, none⟩) (by have := hnl.out; have := hw2.out; show n ≠ w2.heap.size; omega) (Value.int .i64 (sent + 1)))
          rw [hV] at BV2
          have hpV2 : Hid (Rd byteE V2 da dn dc d) := Lib.hid (rd_set hpV1.out QV1.out.blk (by simp) hV.symm)
          clear hV NV c3 f3 QV1 tV1 BPV1 BV1 hpV1
          have d0 : V2.cell? ⟨w2.heap.size, 0, none⟩ = some (.int .i64 2) := (BV2.out.cell 0).trans rfl
          have d1 : V2.cell? ⟨w2.heap.size, 1, none⟩ = some (.int .i64 fd) := (BV2.out.cell 1).trans rfl
          have p0 : V2.cell? ⟨w.heap.size, 0, none⟩ = some (.int .u32 h.from_) := (BPV2.out.cell 0).trans rfl
          have p1 : V2.cell? ⟨w.heap.size, 1, none⟩ = some (.int .u16 h.fport) := (BPV2.out.cell 1).trans rfl
          have p2 : V2.cell? ⟨w.heap.size, 2, none⟩ = some (.int .u32 h.to_) := (BPV2.out.cell 2).trans rfl
          have p3 : V2.cell? ⟨w.heap.size, 3, none⟩ = some (.int .u16 h.tport) := (BPV2.out.cell 3).trans rfl
          have p4 : V2.cell? ⟨w.heap.size, 4, none⟩ = some (.bool h.stream) := (BPV2.out.cell 4).trans rfl
          have p5 : V2.cell? ⟨w.heap.size, 5, none⟩ = some (.slice da dn dc) := (BPV2.out.cell 5).trans rfl
          have hfly := Lib.hid (fly_any QV2.out hsrt.out (by omega) h hpV2.out hdn (y + fd))
          unfold pkV at hfly
          go_wp2_with fail
          refine hfly.out.mono ?_
          rintro e w5 ⟨rfl, ⟨v5, ob5, FL5, hq⟩, ht⟩
          have Q5 := Lib.hid hq
          have T5 := Lib.hid ht
          clear hq ht hfly p0 p1 p2 p3 p4 p5 d0 d1
          have B5 := Lib.hid (T5.out.blk BV2.out (fun hb => by have := hnl.out; have := hw2.out; rcases hb with hb | hb; omega; exact QV2.out.own.ne BV2.out (by decide) hb))
          have BP5 := Lib.hid (T5.out.blk BPV2.out (fun hb => by have := hnl.out; have := hw2.out; rcases hb with hb | hb; omega; exact QV2.out.own.ne BPV2.out (by decide) hb))
          have hp5 : Hid (Rd byteE w5 da dn dc d) := Lib.hid (T5.out.rd0 hpV2.out (fun b o s h0 e hb => hap'.out b o s h0 e (by rcases hb with rfl | hb; exact hsn.out; exact hso.out b hb)))
          have t5 : Hid (Tch S w w5) := Lib.hid (tV2.out.trans T5.out (fun b _ hb => by rcases hb with rfl | hb; exact hsn.out; exact hso.out b hb))
          clear T5 BV2 BPV2 hpV2
          have d1 : w5.cell? ⟨w2.heap.size, 1, none⟩ = some (.int .i64 fd) := (B5.out.cell 1).trans rfl
          have d2 : w5.cell? ⟨w2.heap.size, 2, none⟩ = some (.int .i64 fm) := (B5.out.cell 2).trans rfl
          have p0 : w5.cell? ⟨w.heap.size, 0, none⟩ = some (.int .u32 h.from_) := (BP5.out.cell 0).trans rfl
          have p1 : w5.cell? ⟨w.heap.size, 1, none⟩ = some (.int .u16 h.fport) := (BP5.out.cell 1).trans rfl
          have p2 : w5.cell? ⟨w.heap.size, 2, none⟩ = some (.int .u32 h.to_) := (BP5.out.cell 2).trans rfl
          have p3 : w5.cell? ⟨w.heap.size, 3, none⟩ = some (.int .u16 h.tport) := (BP5.out.cell 3).trans rfl
          have p4 : w5.cell? ⟨w.heap.size, 4, none⟩ = some (.bool h.stream) := (BP5.out.cell 4).trans rfl
          have p5 : w5.cell? ⟨w.heap.size, 5, none⟩ = some (.slice da dn dc) := (BP5.out.cell 5).trans rfl
          have hfly := Lib.hid (fly_any Q5.out (insU_srt _ _ hsrt.out) (by rw [insU_len]; omega) h hp5.out hdn (y + fd + fm))
          unfold pkV at hfly
          go_wp2_with fail
          refine hfly.out.mono ?_
          rintro e w6 ⟨rfl, ⟨v', ob', FL', hq⟩, ht⟩
          have hq' := Lib.hid hq
          have ht' := Lib.hid ht
          clear hq ht hfly p0 p1 p2 p3 p4 p5 d1 d2
          go_wp2_with fail
          refine bodyPost_ret (results_tmp2 rfl _ _ _) rfl ?_
          rw [hf.out]
          refine ⟨rfl, ⟨fa, fn, fc, v', ob', FL', ?_⟩, t5.out.trans ht'.out (fun b hb' hb => by have h1 := tV2.out.size; rcases hb with rfl | hb; exact hsn.out; exact (Q5.out.so b hb).elim id (fun hx => absurd hx (by omega)))⟩
          dsimp only
          rw [hmin.out]
          exact hq'.out.mono (fun g hg => by have h1 := tV2.out.size; have h2 := t5.out.size; rcases hg with (hg | hg) | hg; exact .inl hg; exact .inr (by omega); exact .inr (by omega))
      · subst hk
        have d0 : X.cell? ⟨w2.heap.size, 0, none⟩ = some (.int .i64 3) := (BX.out.cell 0).trans rfl
        have d1 : X.cell? ⟨w2.heap.size, 1, none⟩ = some (.int .i64 fd) := (BX.out.cell 1).trans rfl
        have d2 : X.cell? ⟨w2.heap.size, 2, none⟩ = some (.int .i64 fm) := (BX.out.cell 2).trans rfl
        have c0 : X.cell? ⟨n, 0, none⟩ = some (.slice fa fn fc) := (QX.out.blk.cell 0).trans rfl
        have c1 : X.cell? ⟨n, 1, none⟩ = some (.int .i64 at_) := (QX.out.blk.cell 1).trans rfl
        have c2 : X.cell? ⟨n, 2, none⟩ = some (.slice va FL.length vc) := (QX.out.blk.cell 2).trans rfl
        by_cases hfull : 16384 < A.length + 1
        · have hf : Hid (sendS ⟨F, at_, A, ⟨sent, lost, forged, taken⟩⟩ h d y = (0, 14, ⟨F, at_, A, ⟨sent, lost, forged, taken⟩⟩)) := Lib.hid (by unfold sendS; rw [hdl, if_neg (by simp [hc1.out]), hfe'.out, if_pos (by exact hfull)])
          have hfI : (16384 : Int) < (FL.length : Int) + 1 := by omega
          clear hfull
          go_wp2_with fail
          refine bodyPost_ret (results_tmp2 rfl _ _ _) rfl ?_
          rw [hf.out]
          exact ⟨rfl, ⟨fa, fn, fc, _, ob, FL, QX.out.mono (fun g hg => .inl hg)⟩, tX.out⟩
        · have hfu := Lib.hid hfull
          have hfI : ¬ (16384 : Int) < (FL.length : Int) + 1 := by omega
          clear hfull
          go_upto_region 15 with (fail)
          have hf : Hid (sendS ⟨F, at_, A, ⟨sent, lost, forged, taken⟩⟩ h d y = (1, 0, ⟨F, min (at_ + 1) F.length, insU ⟨y + fd, h, flip d fm.toNat⟩ A, ⟨sent + 1, lost, forged, taken⟩⟩)) := Lib.hid (by unfold sendS; rw [hdl, if_neg (by simp [hc1.out]), hfe'.out, if_neg (by exact hfu.out)]; rfl)
          refine wp_region_still_tail 14 (by kernel_rfl) (by kernel_rfl) ?_
          simp only [List.take_succ_cons, List.take_zero, List.drop_succ_cons, List.drop_zero]
          iterate 14 still_step
          refine wpStill_nil ?_
          have hw1 : IntKind.i64.wrap ((at_ : Int) + 1) = (at_ : Int) + 1 := IntWalk.i64_in _ (by omega)
          simp only [hw1]
          clear hw1
          rw [if_pos hmI]
          change wpList _ _ _ _ _ X.drew
          have QY := Lib.hid (QX.out.ext (Below.refl _ _).drew)
          have BY := Lib.hid BX.out.drew
          have BPY := Lib.hid BPX.out.drew
          have hpY := Lib.hid (hpX.out.ext (Below.refl _ _).drew)
          have tY : Hid (Tch S w X.drew) := Lib.hid (tX.out.trans (Tch.drew S _) (fun _ _ h => h))
          generalize X.drew = Y at *
          clear QX BX BPX hpX tX c0 c1 c2 d0 d1 d2
          have c1 : Y.cell? ⟨n, 1, none⟩ = some (.int .i64 at_) := (QY.out.blk.cell 1).trans rfl
          have f1 : Y.frozen? ⟨n, 1, none⟩ = false := by rw [QY.out.blk.frozen]; try simp
          go_upto_region 16 with (fail)
          obtain ⟨V1, hV⟩ : ∃ V, Y.setCell ⟨n, 1, none⟩ (.int .i64 ((fn : Int))) = V := ⟨_, rfl⟩
          try rw [hV]
          have NV : Blk V1 n 63 (0, 0) [.slice fa fn fc, .int .i64 (fn : Int), .slice va FL.length vc, .int .i64 (sent), .int .i64 (lost), .int .i64 forged, .int .i64 taken, .bool true] := by rw [← hV]; exact QY.out.blk.set 1 _
          have QV1 := Lib.hid (QY.out.set (c2 := ⟨sent, lost, forged, taken⟩) hV.symm NV)
          have tV1 : Hid (Tch S w V1) := Lib.hid (tY.out.trans (by rw [← hV]; exact Tch.setCell Y (p := ⟨n, 1, none⟩) hsn.out _) (fun _ _ h => h))
          have BPV1 := Lib.hid (BPY.out.setOther (a := ⟨n, 1, none⟩) (by have := hnl.out; have := hw2.out; show n ≠ w.heap.size; omega) (Value.int .i64 ((fn : Int))))
          rw [hV] at BPV1
          have BV1 := Lib.hid (BY.out.setOther (a := ⟨n, 1, none⟩) (by have := hnl.out; have := hw2.out; show n ≠ w2.heap.size; omega) (Value.int .i64 ((fn : Int))))
          rw [hV] at BV1
          have hpV1 : Hid (Rd byteE V1 da dn dc d) := Lib.hid (rd_set hpY.out QY.out.blk (by simp) hV.symm)
          clear hV NV c1 f1 QY tY BPY BY hpY
          have c3 : V1.cell? ⟨n, 3, none⟩ = some (.int .i64 (sent)) := (QV1.out.blk.cell 3).trans rfl
          have f3 : V1.frozen? ⟨n, 3, none⟩ = false := by rw [QV1.out.blk.frozen]; try simp
          go_upto_region 17 with (fail)
          obtain ⟨V2, hV⟩ : ∃ V, V1.setCell ⟨n, 3, none⟩ (.int .i64 (sent + 1)) = V := ⟨_, rfl⟩
          try rw [hV]
          have NV : Blk V2 n 63 (0, 0) [.slice fa fn fc, .int .i64 (fn : Int), .slice va FL.length vc, .int .i64 (sent + 1), .int .i64 (lost), .int .i64 forged, .int .i64 taken, .bool true] := by rw [← hV]; exact QV1.out.blk.set 3 _
          have QV2 := Lib.hid (QV1.out.set (c2 := ⟨sent + 1, lost, forged, taken⟩) hV.symm NV)
          have tV2 : Hid (Tch S w V2) := Lib.hid (tV1.out.trans (by rw [← hV]; exact Tch.setCell V1 (p := ⟨n, 3, none⟩) hsn.out _) (fun _ _ h => h))
          have BPV2 := Lib.hid (BPV1.out.setOther (a := ⟨n, 3, none⟩) (by have := hnl.out; have := hw2.out; show n ≠ w.heap.size; omega) (Value.int .i64 (sent + 1)))
          rw [hV] at BPV2
          have BV2 := Lib.hid (BV1.out.setOther (a := ⟨n, 3, none⟩) (by have := hnl.out; have := hw2.out; show n ≠ w2.heap.size; omega) (Value.int .i64 (sent + 1)))
          rw [hV] at BV2
          have hpV2 : Hid (Rd byteE V2 da dn dc d) := Lib.hid (rd_set hpV1.out QV1.out.blk (by simp) hV.symm)
          clear hV NV c3 f3 QV1 tV1 BPV1 BV1 hpV1
          have d0 : V2.cell? ⟨w2.heap.size, 0, none⟩ = some (.int .i64 3) := (BV2.out.cell 0).trans rfl
          have p0 : V2.cell? ⟨w.heap.size, 0, none⟩ = some (.int .u32 h.from_) := (BPV2.out.cell 0).trans rfl
          have p1 : V2.cell? ⟨w.heap.size, 1, none⟩ = some (.int .u16 h.fport) := (BPV2.out.cell 1).trans rfl
          have p2 : V2.cell? ⟨w.heap.size, 2, none⟩ = some (.int .u32 h.to_) := (BPV2.out.cell 2).trans rfl
          have p3 : V2.cell? ⟨w.heap.size, 3, none⟩ = some (.int .u16 h.tport) := (BPV2.out.cell 3).trans rfl
          have p4 : V2.cell? ⟨w.heap.size, 4, none⟩ = some (.bool h.stream) := (BPV2.out.cell 4).trans rfl
          have p5 : V2.cell? ⟨w.heap.size, 5, none⟩ = some (.slice da dn dc) := (BPV2.out.cell 5).trans rfl
          have hown := Lib.hid (own_any h hpV2.out hdn)
          unfold pkV at hown
          go_wp2_with fail
          refine hown.out.mono ?_
          rintro e w5 ⟨⟨a', dc', rfl, ho⟩, hb5⟩
          dsimp only
          have hlV : Hid (w.heap.size < V2.heap.size ∧ w2.heap.size < V2.heap.size ∧ n < V2.heap.size) := Lib.hid ⟨BPV2.out.lt, BV2.out.lt, QV2.out.blk.lt⟩
          have O5 := Lib.hid ho
          have k5 := Lib.hid hb5
          have B5 := Lib.hid (BV2.out.below hb5 BV2.out.lt)
          have BP5 := Lib.hid (BPV2.out.below hb5 BPV2.out.lt)
          have Q5 := Lib.hid (QV2.out.ext hb5)
          have t5 : Hid (Tch S w w5) := Lib.hid (tV2.out.trans (Tch.of_below (S := S) hb5) (fun _ _ hb => hb))
          clear ho hb5 hown d0 p0 p1 p2 p3 p4 p5 BV2 BPV2 QV2
          go_upto_region 27 with (refine store_whole rfl 32 (.tmp 4) (.tmp 106) rfl rfl rfl BP5.out (by rfl) (by kernel_rfl) (by kernel_rfl) ?_; intro w6 hBx hgx hzx; have BP6 := Lib.hid hBx; have g6 := Lib.hid hgx; clear hBx hgx hzx)
          have hne : Hid (∀ g, S g → ¬ g = w.heap.size) := Lib.hid (fun g hg e => by have := hSw.out g hg; omega)
          have T6 : Hid (Tch (fun g => g = w.heap.size) w5 w6) := Lib.hid (Tch.of_grown (S := fun g => g = w.heap.size) g6.out (fun k e => (Option.some.inj e).symm))
          have Q6 := Lib.hid (Q5.out.tch T6.out hne.out)
          have B6 := Lib.hid (T6.out.blk B5.out (fun e => by have := hw2.out; omega))
          have O6 := Lib.hid (own_store O5.out BP5.out (by decide) g6.out)
          have t6 : Hid (Tch S w w6) := Lib.hid (t5.out.trans T6.out (fun b hb e => by omega))
          clear Q5 B5 BP5 O5 t5 T6 g6
          obtain ⟨m, rfl⟩ : ∃ m : Nat, fm = m := ⟨fm.toNat, by omega⟩
          have d1 : w6.cell? ⟨w2.heap.size, 1, none⟩ = some (.int .i64 fd) := (B6.out.cell 1).trans rfl
          have d2 : w6.cell? ⟨w2.heap.size, 2, none⟩ = some (.int .i64 (m : Int)) := (B6.out.cell 2).trans rfl
          have p0 : w6.cell? ⟨w.heap.size, 0, none⟩ = some (.int .u32 h.from_) := (BP6.out.cell 0).trans rfl
          have p1 : w6.cell? ⟨w.heap.size, 1, none⟩ = some (.int .u16 h.fport) := (BP6.out.cell 1).trans rfl
          have p2 : w6.cell? ⟨w.heap.size, 2, none⟩ = some (.int .u32 h.to_) := (BP6.out.cell 2).trans rfl
          have p3 : w6.cell? ⟨w.heap.size, 3, none⟩ = some (.int .u16 h.tport) := (BP6.out.cell 3).trans rfl
          have p4 : w6.cell? ⟨w.heap.size, 4, none⟩ = some (.bool h.stream) := (BP6.out.cell 4).trans rfl
          have p5 : w6.cell? ⟨w.heap.size, 5, none⟩ = some ((.slice a' dn dc')) := (BP6.out.cell 5).trans rfl
          skip
          by_cases hx : m / 8 < dn
          · have hxI : ((m : Int) / 8) < dn := by omega
            go_upto_region 28 with (fail)
            refine wp_region_still_tail 13 (by kernel_rfl) (by kernel_rfl) ?_
            simp only [List.take_succ_cons, List.take_zero, List.drop_succ_cons, List.drop_zero]
            obtain ⟨g, rfl, hgl, X, hX1, hX2, hX3⟩ : ∃ g, a' = some ⟨g, 0, none⟩ ∧ V2.heap.size ≤ g ∧ ∃ X, Blk w6 g 5 (0, 0) (rowOf byteE X) ∧ (X.length = dc' ∧ dn ≤ dc' ∧ dc' ≤ maxLen) ∧ X.take dn = d := by
              obtain ⟨e1, e2⟩ | ⟨g, cap, X, e1, e2, e3, e4, e5, e6, e7⟩ := O6.out
              · cases e1; omega
              · injection e1 with e8 e9 e10; exact ⟨g, e8, e2, X, e3, ⟨by omega, by omega, by omega⟩, by rw [← hdl]; exact e7⟩
            have hmX : m / 8 < X.length := by have h1 := hX3 ▸ (List.length_take (l := X) (i := dn)); omega
            have hXd : X[m / 8] = d.getD (m / 8) 0 := by rw [← hX3, List.getD_eq_getElem?_getD, List.getElem?_take, if_pos hx, List.getElem?_eq_getElem hmX]; rfl
            have hcx : w6.cell? ⟨g, m / 8, none⟩ = some (.int .u8 (d.getD (m / 8) 0).toNat) := by rw [hX1.cell, ← hXd]; have := rowOf_get byteE X (m / 8) 0 hmX (by decide); simpa [byteE] using this
            obtain ⟨c8, hc8⟩ : ∃ c8, d.getD (m / 8) 0 = c8 := ⟨_, rfl⟩
            rw [hc8] at hcx
            have hX1' := Lib.hid hX1
            have hX2' := Lib.hid hX2
            have hX3' := Lib.hid hX3
            have hc8' := Lib.hid hc8
            have hgl' := Lib.hid hgl
            clear hX1 hX2 hX3 hc8 hgl hXd
            obtain ⟨q, hq⟩ : ∃ q : Nat, m / 8 = q := ⟨_, rfl⟩
            obtain ⟨r, hr⟩ : ∃ r : Nat, m % 8 = r := ⟨_, rfl⟩
            have hqw : IntKind.i64.wrap ((m : Int) / 8) = (q : Int) := by rw [IntWalk.i64_in _ (by omega)]; omega
            have hrw : (m : Int).tmod 8 = (r : Int) := by rw [← hr]; rfl
            have hqn : (q : Int) < dn := by omega
            have hq0 : (0 : Int) ≤ q := by omega
            have hr0 : (0 : Int) ≤ r := by omega
            have hr8 : (r : Int) < 8 := by omega
            rw [hq] at hcx
            have hq' := Lib.hid hq
            have hr' := Lib.hid hr
            clear hq hr
            iterate 13 still_step
            refine wpStill_nil ?_
            rw [flip_bits c8 (by omega)]
            change wpList _ _ _ _ _ w6.drew
            have QZ := Lib.hid (Q6.out.ext (Below.refl _ _).drew)
            have BZ := Lib.hid B6.out.drew
            have BPZ := Lib.hid BP6.out.drew
            have XZ := Lib.hid hX1'.out.drew
            have tZ : Hid (Tch S w w6.drew) := Lib.hid (t6.out.trans (Tch.drew S _) (fun _ _ h => h))
            have hcz : w6.drew.cell? ⟨g, q, none⟩ = some (.int .u8 c8.toNat) := hcx
            have hks : Hid (V2.heap.size ≤ w6.heap.size) := Lib.hid (by have h1 := k5.out.size; have h2 := hX1'.out.lt; have := hgl'.out; omega)
            generalize w6.drew = Z at *
            clear Q6 B6 BP6 hX1' t6 hcx d1 d2 p0 p1 p2 p3 p4 p5 O6
            have fz : Z.frozen? ⟨g, q, none⟩ = false := by rw [XZ.out.frozen]; try simp
            go_upto_region 29 with (fail)
            obtain ⟨U, hU⟩ : ∃ U, Z.setCell ⟨g, q, none⟩ (.int .u8 (flipB c8 r).toNat) = U := ⟨_, rfl⟩
            try rw [hU]
            have TU : Hid (Tch (fun k => k = g) Z U) := Lib.hid (by rw [← hU]; exact Tch.setCell (S := fun k => k = g) Z (p := ⟨g, q, none⟩) rfl _)
            have XU : Hid (Blk U g 5 (0, 0) (rowOf byteE (X.set q (flipB c8 r)))) := Lib.hid (by rw [← hU, row_set]; exact XZ.out.set q _)
            have QU := Lib.hid (QZ.out.tch TU.out (fun k hk e => by have h1 := hSw.out k hk; have h2 := hgl'.out; have h3 := hlV.out.1; omega))
            have BU := Lib.hid (TU.out.blk BZ.out (fun e => by have h2 := hgl'.out; have h3 := hlV.out.2.1; omega))
            have BPU := Lib.hid (TU.out.blk BPZ.out (fun e => by have h2 := hgl'.out; have h3 := hlV.out.1; omega))
            have tU : Hid (Tch S w U) := Lib.hid (tZ.out.trans TU.out (fun b hb e => by have h2 := hgl'.out; have h3 := hlV.out.1; omega))
            have hfd : Hid (flip d m = (X.set q (flipB c8 r)).take dn) := Lib.hid (by unfold flip; rw [hc8'.out, hq'.out, hr'.out, List.take_set, hX3'.out])
            have OU : Hid (Own byteE U 0 (.slice (some ⟨g, 0, none⟩) dn dc') (flip d m)) := Lib.hid (.inr ⟨g, dc', X.set q (flipB c8 r), by unfold flip; rw [List.length_set, hdl], Nat.zero_le _, XU.out, by rw [List.length_set]; exact hX2'.out.1, by unfold flip; rw [List.length_set, hdl]; exact hX2'.out.2.1, hX2'.out.2.2, by unfold flip at hfd ⊢; rw [List.length_set, hdl]; exact hfd.out.symm⟩)
            clear hU QZ BZ BPZ XZ tZ TU XU hcz fz hfd hmX
            have d1 : U.cell? ⟨w2.heap.size, 1, none⟩ = some (.int .i64 fd) := (BU.out.cell 1).trans rfl
            have p0 : U.cell? ⟨w.heap.size, 0, none⟩ = some (.int .u32 h.from_) := (BPU.out.cell 0).trans rfl
            have p1 : U.cell? ⟨w.heap.size, 1, none⟩ = some (.int .u16 h.fport) := (BPU.out.cell 1).trans rfl
            have p2 : U.cell? ⟨w.heap.size, 2, none⟩ = some (.int .u32 h.to_) := (BPU.out.cell 2).trans rfl
            have p3 : U.cell? ⟨w.heap.size, 3, none⟩ = some (.int .u16 h.tport) := (BPU.out.cell 3).trans rfl
            have p4 : U.cell? ⟨w.heap.size, 4, none⟩ = some (.bool h.stream) := (BPU.out.cell 4).trans rfl
            have p5 : U.cell? ⟨w.heap.size, 5, none⟩ = some ((.slice (some ⟨g, 0, none⟩) dn dc')) := (BPU.out.cell 5).trans rfl
            have hrd := Lib.hid (own_rd_at OU.out).1
            have hfly := Lib.hid (fly_any QU.out hsrt.out (by omega) h hrd.out hdn (y + fd))
            unfold pkV at hfly
            go_wp2_with fail
            refine hfly.out.mono ?_
            rintro e w9 ⟨rfl, ⟨v', ob', FL', hq⟩, ht⟩
            have hq' := Lib.hid hq
            have ht' := Lib.hid ht
            clear hq ht hfly p0 p1 p2 p3 p4 p5 d1
            go_wp2_with fail
            refine bodyPost_ret (results_tmp2 rfl _ _ _) rfl ?_
            rw [hf.out]
            refine ⟨rfl, ⟨fa, fn, fc, v', ob', FL', ?_⟩, tU.out.trans ht'.out (fun b _ hb => by rcases hb with rfl | hb; exact hsn.out; exact hso.out b hb)⟩
            dsimp only
            rw [hmin.out]
            exact hq'.out.mono (fun g hg => by have h1 := tU.out.size; rcases hg with hg | hg; exact .inl hg; exact .inr (by omega))
          · have hxI : ¬ ((m : Int) / 8) < dn := by omega
            have hfl : Hid (flip d (m : Int).toNat = d) := Lib.hid (by show flip d m = d; unfold flip; rw [List.set_eq_of_length_le (by omega)])
            have hrd := Lib.hid (own_rd_at O6.out).1
            have hfly := Lib.hid (fly_any Q6.out hsrt.out (by omega) h hrd.out hdn (y + fd))
            unfold pkV at hfly
            go_wp2_with fail
            refine hfly.out.mono ?_
            rintro e w9 ⟨rfl, ⟨v', ob', FL', hq⟩, ht⟩
            have hq' := Lib.hid hq
            have ht' := Lib.hid ht
            clear hq ht hfly p0 p1 p2 p3 p4 p5 d1
            go_wp2_with fail
            refine bodyPost_ret (results_tmp2 rfl _ _ _) rfl ?_
            rw [hf.out]
            refine ⟨rfl, ⟨fa, fn, fc, v', ob', FL', ?_⟩, t6.out.trans ht'.out (fun b _ hb => by rcases hb with rfl | hb; exact hsn.out; exact hso.out b hb)⟩
            dsimp only
            rw [hmin.out, hfl.out]
            exact hq'.out.mono (fun g hg => by have h1 := t6.out.size; rcases hg with hg | hg; exact .inl hg; exact .inr (by omega))
  · have hcb : (chk dn y != 0) = true := by simpa using hc
    have hf : Hid (sendS ⟨F, at_, A, ⟨sent, lost, forged, taken⟩⟩ h d y = (0, chk dn y, ⟨F, at_, A, ⟨sent, lost, forged, taken⟩⟩)) := Lib.hid (by unfold sendS; rw [hdl, if_pos hc])
    clear hc
    go_enter Try.func14, Try.ntmps14
    go_wp2_with fail
    try rw [hW1]
    clear hW1
    refine hch.out.mono ?_
    rintro e w2 ⟨rfl, hb⟩
    have kb := Lib.hid (k1.out.trans (hb.mono k1.out.size))
    have Q2 := Lib.hid (Q1.out.ext hb)
    clear hb Q1 hp1 B1 k1 hch p0 p1 p2 p3 p4 p5
    go_wp2_with fail
    refine bodyPost_ret (results_tmp2 rfl _ _ _) rfl ?_
    rw [hf.out]
    exact ⟨rfl, ⟨fa, fn, fc, _, ob, FL, Q2.out.mono (fun g hg => .inl hg)⟩, Tch.of_below kb.out⟩
theorem NetQ.shrink {w : World} {n : Nat} {S : Nat → Prop} {fa : Option Addr} {fn fc : Nat} {F : List Fate} {at_ : Int} {v : Value} {ob : Option Nat} {FL : List FD} {A : List Fl} {c : Cn} (h : NetQ w n S fa fn fc F at_ v ob FL A c) : NetQ w n (fun g => S g ∧ g < w.heap.size) fa fn fc F at_ v ob FL A c :=
  ⟨h.blk, h.fates, h.own, h.rep, ⟨h.sn, h.blk.lt⟩, fun g hg => ⟨h.sf g hg, (h.fates.lt g hg).2⟩, fun g hg => ⟨h.so g hg, h.own.lt g hg⟩, fun q hq g hg => ⟨h.sd q hq g hg, h.rep.lt q hq g hg⟩⟩
theorem send_any {w : World} {n : Nat} {S : Nat → Prop} {s : NS} (hP : NetP w n S s) (hok : s.ok) (hF : ∀ f ∈ s.F, mayF f = true) (h : Hd) {da : Option Addr} {dn dc : Nat} {d : List UInt8} (hp : Rd byteE w da dn dc d) (hap : ∀ b o s, 0 < dn → da = some ⟨b, o, s⟩ → ¬ S b) (hdn : dn ≤ 140737488355328) (y : Int) :
    Calls Try.prog 14 #[.pointer (some ⟨n, 0, none⟩), pkV h (.slice da dn dc), .int .i64 y] w fun e w' => e = .returned (.tuple #[.int .i64 (sendS s h d y).1, .int .i64 (sendS s h d y).2.1]) ∧ NetP w' n (fun g => S g ∨ w.heap.size ≤ g) (sendS s h d y).2.2 ∧ Tch S w w' := by
  obtain ⟨fa, fn, fc, v, ob, FL, hQ⟩ := hP
  refine (send_core (S := fun g => S g ∧ g < w.heap.size) ⟨fa, fn, fc, v, ob, FL, hQ.shrink⟩ hok hF (fun g hg => hg.2) h hp (fun b o s h0 e hb => hap b o s h0 e hb.1) hdn y).mono ?_
  rintro e w' ⟨h1, h2, h3⟩
  exact ⟨h1, h2.mono (fun g hg => hg.imp (fun h => h.1) id), h3.mono (fun b _ hb => hb.1)⟩
end Go.Proofs.Ythdnbipfdahnlaa
