/- The program's network: its states; check 24, Forge 11, Next 15, Counts 17. Printed by gen_ntd.py. -/
import Derived.Test.YthdnbipfdahnlaaNtC
namespace Go.Proofs.Ythdnbipfdahnlaa
open Go Go.RowKit
/-- a network's state -/
structure NS where
  F : List Fate
  at_ : Nat
  A : List Fl
  c : Cn
def NetP (w : World) (n : Nat) (S : Nat → Prop) (s : NS) : Prop := ∃ fa fn fc v ob FL, NetQ w n S fa fn fc s.F s.at_ v ob FL s.A s.c
/-- small counts, flights in order -/
structure NS.ok (s : NS) : Prop where
  srt : SrtA s.A
  room : s.A.length ≤ 16384
  fates : s.F.length ≤ 65536
  at_ : s.at_ ≤ s.F.length
  sent : 0 ≤ s.c.sent ∧ s.c.sent ≤ 1000000000000
  lost : 0 ≤ s.c.lost ∧ s.c.lost ≤ 1000000000000
  forged : 0 ≤ s.c.forged ∧ s.c.forged ≤ 1000000000000
  taken : 0 ≤ s.c.taken ∧ s.c.taken ≤ 1000000000000
theorem NetP.tch {w w' : World} {n : Nat} {S T : Nat → Prop} {s : NS} (h : NetP w n S s) (t : Tch T w w') (hT : ∀ g, S g → ¬ T g) : NetP w' n S s := by
  obtain ⟨fa, fn, fc, v, ob, FL, h⟩ := h
  exact ⟨fa, fn, fc, v, ob, FL, h.tch t hT⟩
theorem NetP.ext {w w' : World} {n : Nat} {S : Nat → Prop} {s : NS} (h : NetP w n S s) (hb : Below w.heap.size w w') : NetP w' n S s := h.tch (Tch.of_below (S := fun _ => False) hb) (fun _ _ h => h)
theorem NetP.mono {w : World} {n : Nat} {S S' : Nat → Prop} {s : NS} (h : NetP w n S s) (hS : ∀ g, S g → S' g) : NetP w n S' s := by
  obtain ⟨fa, fn, fc, v, ob, FL, h⟩ := h
  exact ⟨fa, fn, fc, v, ob, FL, h.mono hS⟩
def chk (dn : Nat) (y : Int) : Int := if 65535 < dn then 3 else if y < 0 ∨ 1099511627776 < y then 2 else 0
theorem chk_ok {dn : Nat} {y : Int} (h : chk dn y = 0) : dn ≤ 65535 ∧ 0 ≤ y ∧ y ≤ 1099511627776 := by
  unfold chk at h
  by_cases h1 : 65535 < dn
  · rw [if_pos h1] at h; cases h
  · rw [if_neg h1] at h
    by_cases h2 : y < 0 ∨ 1099511627776 < y
    · rw [if_pos h2] at h; cases h
    · omega
set_option maxHeartbeats 8000000 in
set_option maxRecDepth 100000 in
theorem check_any {w : World} {n : Nat} {S : Nat → Prop} {fa : Option Addr} {fn fc : Nat} {F : List Fate} {at_ : Int} {v : Value} {ob : Option Nat} {FL : List FD} {A : List Fl} {c : Cn} (hQ : NetQ w n S fa fn fc F at_ v ob FL A c) (h : Hd) (da : Option Addr) {dn dc : Nat} (hdn : dn ≤ 140737488355328) (y : Int) :
    Calls Try.prog 24 #[.pointer (some ⟨n, 0, none⟩), .agg #[.int .u32 h.from_, .int .u16 h.fport, .int .u32 h.to_, .int .u16 h.tport, .bool h.stream, .slice da dn dc], .int .i64 y] w fun e w' => e = .returned (.int .i64 (chk dn y)) ∧ Below w.heap.size w w' := by
  unfold chk
  obtain ⟨W1, hW1⟩ : ∃ W, w.alloc (.cells #[.int .u32 h.from_, .int .u16 h.fport, .int .u32 h.to_, .int .u16 h.tport, .bool h.stream, .slice da dn dc] 32) = W := ⟨_, rfl⟩
  have B1 : Hid (Blk W1 w.heap.size 32 (0, 0) [.int .u32 h.from_, .int .u16 h.fport, .int .u32 h.to_, .int .u16 h.tport, .bool h.stream, .slice da dn dc]) := Lib.hid (by rw [← hW1]; exact Blk.new w 32 (0, 0) #[.int .u32 h.from_, .int .u16 h.fport, .int .u32 h.to_, .int .u16 h.tport, .bool h.stream, .slice da dn dc])
  have k1 : Hid (Below w.heap.size w W1) := Lib.hid (by rw [← hW1]; exact alloc_bel _ _)
  have hno := Lib.hid (none_ok (hQ.ext k1.out))
  clear hQ
  have p5 : W1.cell? ⟨w.heap.size, 5, none⟩ = some (.slice da dn dc) := (B1.out.cell 5).trans rfl
  have hdnI : (dn : Int) ≤ 140737488355328 := by omega
  by_cases h1 : 65535 < dn
  · rw [if_pos h1]
    have h1I : (65535 : Int) < dn := by omega
    go_enter Try.func24, Try.ntmps24
    go_wp2_with fail
    try rw [hW1]
    clear hW1
    refine hno.out.mono ?_
    rintro e w2 ⟨rfl, rfl⟩
    go_wp2_with fail
    go_ret
    exact ⟨rfl, k1.out⟩
  rw [if_neg h1]
  have h1I : ¬ (65535 : Int) < dn := by omega
  by_cases h2 : y < 0
  · rw [if_pos (.inl h2)]
    go_enter Try.func24, Try.ntmps24
    go_wp2_with fail
    try rw [hW1]
    clear hW1
    refine hno.out.mono ?_
    rintro e w2 ⟨rfl, rfl⟩
    go_wp2_with fail
    go_ret
    exact ⟨rfl, k1.out⟩
  by_cases h3 : 1099511627776 < y
  · rw [if_pos (.inr h3)]
    go_enter Try.func24, Try.ntmps24
    go_wp2_with fail
    try rw [hW1]
    clear hW1
    refine hno.out.mono ?_
    rintro e w2 ⟨rfl, rfl⟩
    go_wp2_with fail
    go_ret
    exact ⟨rfl, k1.out⟩
  · rw [if_neg (by omega)]
    go_enter Try.func24, Try.ntmps24
    go_wp2_with fail
    try rw [hW1]
    clear hW1
    refine hno.out.mono ?_
    rintro e w2 ⟨rfl, rfl⟩
    go_wp2_with fail
    go_ret
    exact ⟨rfl, k1.out⟩
def forgeS (s : NS) (h : Hd) (d : List UInt8) (y : Int) : Int × NS :=
  if chk d.length y ≠ 0 then (chk d.length y, s) else if 16384 < s.A.length + 1 then (14, s) else (0, { s with A := insU ⟨y, h, d⟩ s.A, c := { s.c with forged := s.c.forged + 1 } })
/-- a number of the network's own is turned -/
theorem NetQ.set {w : World} {x : Value} {n : Nat} {S : Nat → Prop} {fa : Option Addr} {fn fc : Nat} {F : List Fate} {at_ : Int} {v : Value} {ob : Option Nat} {FL : List FD} {A : List Fl} {c : Cn} {V : World} (hQ : NetQ w n S fa fn fc F at_ v ob FL A c) {k : Nat} {at2 : Int} {c2 : Cn} (hV : V = w.setCell ⟨n, k, none⟩ x) (hN : Blk V n 63 (0, 0) [.slice fa fn fc, .int .i64 at2, v, .int .i64 c2.sent, .int .i64 c2.lost, .int .i64 c2.forged, .int .i64 c2.taken, .bool true]) : NetQ V n S fa fn fc F at2 v ob FL A c2 := by
  have ht : Tch (fun g => g = n) w V := by rw [hV]; exact Tch.setCell (S := fun g => g = n) w (p := ⟨n, k, none⟩) rfl x
  have hne : ∀ {g : Nat} {e : TypeId} {C : List Value}, Blk w g e (0, 0) C → e ≠ 63 → g ≠ n := fun hC he e2 => by subst e2; exact he (blk_type hC hQ.blk)
  refine ⟨hN, ht.own hQ.fates (fun g hg => ?_), hQ.own.tch ht (fun g hg => ?_), hQ.rep.keep (fun q hq g hg => ?_), hQ.sn, hQ.sf, hQ.so, hQ.sd⟩
  · obtain ⟨C, hC⟩ := own_blkE hQ.fates g hg
    exact hne hC (by decide)
  · obtain ⟨C, hC⟩ := hQ.own.blkE hg
    exact hne hC (by decide)
  · obtain ⟨C, hC⟩ := hQ.rep.blk q hq g hg
    exact ht.block g hC.lt (hne hC (by decide))
theorem rd_set {w V : World} {da : Option Addr} {dn dc : Nat} {d : List UInt8} {n k : Nat} {x : Value} {e : TypeId} {fz : Nat × Nat} {C : List Value} (hp : Rd byteE w da dn dc d) (hB : Blk w n e fz C) (hC : ∀ v ∈ C, ∀ z, v ≠ .int .u8 z) (hV : V = w.setCell ⟨n, k, none⟩ x) : Rd byteE V da dn dc d := by
  by_cases h0 : 0 < dn
  · obtain ⟨b, o, rfl, hlt, hc⟩ := hp.addr h0
    have hl := hp.len
    have hne : b ≠ n := by
      rintro rfl
      have h1 := hc 0 (by omega) 0 (by decide)
      rw [hB.cell] at h1
      have h2 : (byteE.f d[0])[0]? = some (.int .u8 (d[0].toNat : Nat)) := rfl
      rw [h2] at h1
      exact hC _ (List.mem_of_getElem? h1) _ rfl
    refine hp.keep fun b' o' s' e' _ => ?_
    simp only [Option.some.injEq, Addr.mk.injEq] at e'
    obtain ⟨rfl, _⟩ := e'
    rw [hV]
    exact Below.heap_setCell _ _ _ _ hne
  · have hl := hp.len
    have : d = [] := List.eq_nil_of_length_eq_zero (by omega)
    subst this
    have hn0 : dn = 0 := by omega
    subst hn0
    exact Rd.zero _ _ _ _ hp.most
set_option maxHeartbeats 8000000 in
set_option maxRecDepth 100000 in
theorem forge_any {w : World} {n : Nat} {S : Nat → Prop} {s : NS} (hP : NetP w n S s) (hok : s.ok) (h : Hd) {da : Option Addr} {dn dc : Nat} {d : List UInt8} (hp : Rd byteE w da dn dc d) (hdn : dn ≤ 140737488355328) (y : Int) :
    Calls Try.prog 11 #[.pointer (some ⟨n, 0, none⟩), pkV h (.slice da dn dc), .int .i64 y] w fun e w' => e = .returned (.int .i64 (forgeS s h d y).1) ∧ NetP w' n (fun g => S g ∨ w.heap.size ≤ g) (forgeS s h d y).2 ∧ Tch S w w' := by
  obtain ⟨fa, fn, fc, v, ob, FL, hQ⟩ := hP
  obtain ⟨F, at_, A, c⟩ := s
  obtain ⟨sent, lost, forged, taken⟩ := c
  dsimp only at hQ
  have hdl := hp.len
  unfold pkV
  have hnl : Hid (n < w.heap.size) := Lib.hid hQ.blk.lt
  have hsn : Hid (S n) := Lib.hid hQ.sn
  have hso := Lib.hid hQ.so
  have hfo := hok.forged
  dsimp only at hfo
  have hsrt := Lib.hid hok.srt
  have hroom : A.length ≤ 16384 := hok.room
  clear hok
  obtain ⟨va, vc, rfl, _⟩ := hQ.own.rd
  have hFA := hQ.rep.len
  obtain ⟨W1, hW1⟩ : ∃ W, w.alloc (.cells #[.int .u32 h.from_, .int .u16 h.fport, .int .u32 h.to_, .int .u16 h.tport, .bool h.stream, .slice da dn dc] 32) = W := ⟨_, rfl⟩
  have B1 : Hid (Blk W1 w.heap.size 32 (0, 0) [.int .u32 h.from_, .int .u16 h.fport, .int .u32 h.to_, .int .u16 h.tport, .bool h.stream, .slice da dn dc]) := Lib.hid (by rw [← hW1]; exact Blk.new w 32 (0, 0) #[.int .u32 h.from_, .int .u16 h.fport, .int .u32 h.to_, .int .u16 h.tport, .bool h.stream, .slice da dn dc])
  have k1 : Hid (Below w.heap.size w W1) := Lib.hid (by rw [← hW1]; exact alloc_bel _ _)
  have Q1 := Lib.hid (hQ.ext k1.out)
  have hp1 := Lib.hid (hp.ext k1.out)
  have hch := Lib.hid (check_any Q1.out h da (dc := dc) hdn y)
  clear hQ hp
  have p0 : W1.cell? ⟨w.heap.size, 0, none⟩ = some (.int .u32 h.from_) := (B1.out.cell 0).trans rfl
  have p1 : W1.cell? ⟨w.heap.size, 1, none⟩ = some (.int .u16 h.fport) := (B1.out.cell 1).trans rfl
  have p2 : W1.cell? ⟨w.heap.size, 2, none⟩ = some (.int .u32 h.to_) := (B1.out.cell 2).trans rfl
  have p3 : W1.cell? ⟨w.heap.size, 3, none⟩ = some (.int .u16 h.tport) := (B1.out.cell 3).trans rfl
  have p4 : W1.cell? ⟨w.heap.size, 4, none⟩ = some (.bool h.stream) := (B1.out.cell 4).trans rfl
  have p5 : W1.cell? ⟨w.heap.size, 5, none⟩ = some (.slice da dn dc) := (B1.out.cell 5).trans rfl
  by_cases hc : chk dn y = 0
  · rw [hc] at hch
    have hc1 := Lib.hid hc
    have hn2 := chk_ok hc
    clear hc
    go_enter Try.func11, Try.ntmps11
    go_wp2_with fail
    try rw [hW1]
    clear hW1
    refine hch.out.mono ?_
    rintro e w2 ⟨rfl, hb⟩
    have kb := Lib.hid (k1.out.trans (hb.mono k1.out.size))
    have Q2 := Lib.hid (Q1.out.ext hb)
    have hp2 := Lib.hid (hp1.out.ext hb)
    have B2 := Lib.hid (B1.out.below hb B1.out.lt)
    clear hb Q1 hp1 B1 k1 hch p0 p1 p2 p3 p4 p5
    have c2 : w2.cell? ⟨n, 2, none⟩ = some (.slice va FL.length vc) := (Q2.out.blk.cell 2).trans rfl
    have c5 : w2.cell? ⟨n, 5, none⟩ = some (.int .i64 forged) := (Q2.out.blk.cell 5).trans rfl
    have p0 : w2.cell? ⟨w.heap.size, 0, none⟩ = some (.int .u32 h.from_) := (B2.out.cell 0).trans rfl
    have p1 : w2.cell? ⟨w.heap.size, 1, none⟩ = some (.int .u16 h.fport) := (B2.out.cell 1).trans rfl
    have p2 : w2.cell? ⟨w.heap.size, 2, none⟩ = some (.int .u32 h.to_) := (B2.out.cell 2).trans rfl
    have p3 : w2.cell? ⟨w.heap.size, 3, none⟩ = some (.int .u16 h.tport) := (B2.out.cell 3).trans rfl
    have p4 : w2.cell? ⟨w.heap.size, 4, none⟩ = some (.bool h.stream) := (B2.out.cell 4).trans rfl
    have p5 : w2.cell? ⟨w.heap.size, 5, none⟩ = some (.slice da dn dc) := (B2.out.cell 5).trans rfl
    have f5 : w2.frozen? ⟨n, 5, none⟩ = false := by rw [Q2.out.blk.frozen]; try simp
    have hFl : FL.length ≤ 16384 := by omega
    by_cases hfull : 16384 < A.length + 1
    · have hf : Hid (forgeS ⟨F, at_, A, ⟨sent, lost, forged, taken⟩⟩ h d y = (14, ⟨F, at_, A, ⟨sent, lost, forged, taken⟩⟩)) := Lib.hid (by unfold forgeS; rw [hdl, if_neg (by simp [hc1.out]), if_pos hfull])
      have hI : (16384 : Int) < (FL.length : Int) + 1 := by omega
      clear hfull
      go_wp2_with fail
      go_ret
      rw [hf.out]
      exact ⟨rfl, ⟨fa, fn, fc, _, ob, FL, Q2.out.mono (fun g hg => .inl hg)⟩, Tch.of_below kb.out⟩
    · have hf : Hid (forgeS ⟨F, at_, A, ⟨sent, lost, forged, taken⟩⟩ h d y = (0, ⟨F, at_, insU ⟨y, h, d⟩ A, ⟨sent, lost, forged + 1, taken⟩⟩)) := Lib.hid (by unfold forgeS; rw [hdl, if_neg (by simp [hc1.out]), if_neg hfull])
      have hI : ¬ (16384 : Int) < (FL.length : Int) + 1 := by omega
      clear hfull
      go_upto_region 7 with (fail)
      obtain ⟨V, hV⟩ : ∃ V, w2.setCell ⟨n, 5, none⟩ (.int .i64 (forged + 1)) = V := ⟨_, rfl⟩
      try rw [hV]
      have NV : Blk V n 63 (0, 0) [.slice fa fn fc, .int .i64 at_, .slice va FL.length vc, .int .i64 sent, .int .i64 lost, .int .i64 (forged + 1), .int .i64 taken, .bool true] := by rw [← hV]; exact Q2.out.blk.set 5 _
      have QV := Lib.hid (Q2.out.set (c2 := ⟨sent, lost, forged + 1, taken⟩) hV.symm NV)
      have TV : Hid (Tch S w2 V) := Lib.hid (by rw [← hV]; exact Tch.setCell w2 (p := ⟨n, 5, none⟩) hsn.out _)
      have BV : Hid (Blk V w.heap.size 32 (0, 0) [.int .u32 h.from_, .int .u16 h.fport, .int .u32 h.to_, .int .u16 h.tport, .bool h.stream, .slice da dn dc]) := Lib.hid (by rw [← hV]; exact B2.out.setOther (by have := hnl.out; show n ≠ w.heap.size; omega) _)
      have hpV : Hid (Rd byteE V da dn dc d) := Lib.hid (rd_set hp2.out Q2.out.blk (by simp) hV.symm)
      clear hV NV c2 c5 f5 p0 p1 p2 p3 p4 p5 Q2 B2 hp2
      have p0 : V.cell? ⟨w.heap.size, 0, none⟩ = some (.int .u32 h.from_) := (BV.out.cell 0).trans rfl
      have p1 : V.cell? ⟨w.heap.size, 1, none⟩ = some (.int .u16 h.fport) := (BV.out.cell 1).trans rfl
      have p2 : V.cell? ⟨w.heap.size, 2, none⟩ = some (.int .u32 h.to_) := (BV.out.cell 2).trans rfl
      have p3 : V.cell? ⟨w.heap.size, 3, none⟩ = some (.int .u16 h.tport) := (BV.out.cell 3).trans rfl
      have p4 : V.cell? ⟨w.heap.size, 4, none⟩ = some (.bool h.stream) := (BV.out.cell 4).trans rfl
      have p5 : V.cell? ⟨w.heap.size, 5, none⟩ = some (.slice da dn dc) := (BV.out.cell 5).trans rfl
      have hfly := Lib.hid (fly_any QV.out hsrt.out (by omega) h hpV.out hdn y)
      unfold pkV at hfly
      go_wp2_with fail
      refine hfly.out.mono ?_
      rintro e w5 ⟨rfl, ⟨v', ob', FL', hq⟩, ht⟩
      have hq' := Lib.hid hq
      have ht' := Lib.hid ht
      clear hq ht hfly
      go_wp2_with fail
      go_ret
      rw [hf.out]
      refine ⟨rfl, ⟨fa, fn, fc, v', ob', FL', hq'.out.mono (fun g hg => ?_)⟩, ?_⟩
      · rcases hg with hg | hg
        · exact .inl hg
        · exact .inr (Nat.le_trans (Nat.le_trans kb.out.size TV.out.size) hg)
      · have t1 : Tch S w w2 := Tch.of_below kb.out
        refine (t1.trans TV.out (fun b _ hb => hb)).trans ht'.out (fun b _ hb => ?_)
        rcases hb with rfl | hb
        · exact hsn.out
        · exact hso.out b hb
  · have hcb : (chk dn y != 0) = true := by simpa using hc
    have hf : Hid (forgeS ⟨F, at_, A, ⟨sent, lost, forged, taken⟩⟩ h d y = (chk dn y, ⟨F, at_, A, ⟨sent, lost, forged, taken⟩⟩)) := Lib.hid (by unfold forgeS; rw [hdl, if_pos hc])
    clear hc
    go_enter Try.func11, Try.ntmps11
    go_wp2_with fail
    try rw [hW1]
    clear hW1
    refine hch.out.mono ?_
    rintro e w2 ⟨rfl, hb⟩
    have kb := Lib.hid (k1.out.trans (hb.mono k1.out.size))
    have Q2 := Lib.hid (Q1.out.ext hb)
    clear hb Q1 hp1 B1 k1 hch p0 p1 p2 p3 p4 p5
    go_wp2_with fail
    go_ret
    rw [hf.out]
    exact ⟨rfl, ⟨fa, fn, fc, _, ob, FL, Q2.out.mono (fun g hg => .inl hg)⟩, Tch.of_below kb.out⟩
end Go.Proofs.Ythdnbipfdahnlaa
