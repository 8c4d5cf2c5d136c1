/- The law's packets: bytes 10, same 27, packets 13. Printed by gen_ntj.py. -/
import Derived.Test.YthdnbipfdahnlaaNtF
import Derived.Test.YthdnbipfdahnlaaKitC
namespace Go.Proofs.Ythdnbipfdahnlaa
open Go Go.RowKit
def hdB : Hd := ⟨1, 0, 2, 53, false⟩
set_option maxHeartbeats 8000000 in
set_option maxRecDepth 100000 in
theorem bytes_any (w : World) (a : Option Addr) (n c : Nat) : Calls Try.prog 10 #[.slice a n c] w fun e w' => e = .returned (pkV hdB (.slice a n c)) ∧ Below w.heap.size w w' := by
  obtain ⟨W1, hW1⟩ : ∃ W, w.alloc (.cells #[.int .u32 0, .int .u16 0, .int .u32 0, .int .u16 0, .bool false, .slice none 0 0] 32) = W := ⟨_, rfl⟩
  have B1 : Hid (Blk W1 w.heap.size 32 (0, 0) [.int .u32 0, .int .u16 0, .int .u32 0, .int .u16 0, .bool false, .slice none 0 0]) := Lib.hid (by rw [← hW1]; exact Blk.new w 32 (0, 0) #[.int .u32 0, .int .u16 0, .int .u32 0, .int .u16 0, .bool false, .slice none 0 0])
  have k1 : Hid (Below w.heap.size w W1) := Lib.hid (by rw [← hW1]; exact alloc_bel _ _)
  go_enter Try.func10, Try.ntmps10
  go_wp2_with (refine store_whole rfl 32 (.tmp 2) (.tmp 4) rfl rfl rfl B1.out (by rfl) (by kernel_rfl) (by first | kernel_rfl | rfl) ?_; intro w2 hBx hgx hzx; have R2 := Lib.hid hBx; have k2 := Lib.hid (fresh_store k1.out hgx); clear hBx hgx hzx)
  refine bodyPost_ret (results_c rfl _ rfl R2.out Try.underlying32 rfl (by kernel_rfl)) rfl ?_
  exact ⟨rfl, k2.out⟩
abbrev Pk := Hd × List UInt8
def sameB (x y : Pk) : Bool := decide (x.1.from_ = y.1.from_) && decide (x.1.fport = y.1.fport) && decide (x.1.to_ = y.1.to_) && decide (x.1.tport = y.1.tport) && (x.1.stream == y.1.stream) && (x.2 == y.2)
def sameL : List Pk → List Pk → Bool
  | [], [] => true
  | x :: r, y :: s => sameB x y && sameL r s
  | _, _ => false
theorem sameB_refl (x : Pk) : sameB x x = true := by simp [sameB]
theorem sameL_refl : ∀ L : List Pk, sameL L L = true
  | [] => rfl
  | x :: r => by rw [sameL, sameB_refl, sameL_refl r]; rfl
theorem sameL_len : ∀ L M : List Pk, L.length ≠ M.length → sameL L M = false
  | [], [], h => absurd rfl h
  | [], y :: s, _ => rfl
  | x :: r, [], _ => rfl
  | x :: r, y :: s, h => by rw [sameL, sameL_len r s (fun e => h (by simp [e])), Bool.and_false]
set_option maxHeartbeats 8000000 in
set_option maxRecDepth 100000 in
theorem same_any {w : World} {a a' : Option Addr} {n c n' c' : Nat} {l l' : List UInt8} (h : Rd byteE w a n c l) (h' : Rd byteE w a' n' c' l') (x y : Hd) :
    Calls Try.prog 27 #[pkV x (.slice a n c), pkV y (.slice a' n' c')] w fun e w' => e = .returned (.bool (sameB (x, l) (y, l'))) ∧ Below w.heap.size w w' := by
  unfold pkV
  obtain ⟨xfrom_, xfport, xto_, xtport, xstream⟩ := x
  obtain ⟨yfrom_, yfport, yto_, ytport, ystream⟩ := y
  dsimp only
  obtain ⟨W1, hW1⟩ : ∃ W, w.alloc (.cells #[.int .u32 xfrom_, .int .u16 xfport, .int .u32 xto_, .int .u16 xtport, .bool xstream, (.slice a n c)] 32) = W := ⟨_, rfl⟩
  have B1 : Hid (Blk W1 w.heap.size 32 (0, 0) [.int .u32 xfrom_, .int .u16 xfport, .int .u32 xto_, .int .u16 xtport, .bool xstream, (.slice a n c)]) := Lib.hid (by rw [← hW1]; exact Blk.new w 32 (0, 0) #[.int .u32 xfrom_, .int .u16 xfport, .int .u32 xto_, .int .u16 xtport, .bool xstream, (.slice a n c)])
  have k1 : Hid (Below w.heap.size w W1) := Lib.hid (by rw [← hW1]; exact alloc_bel _ _)
  obtain ⟨W2, hW2⟩ : ∃ W, W1.alloc (.cells #[.int .u32 yfrom_, .int .u16 yfport, .int .u32 yto_, .int .u16 ytport, .bool ystream, (.slice a' n' c')] 32) = W := ⟨_, rfl⟩
  have B2 : Hid (Blk W2 W1.heap.size 32 (0, 0) [.int .u32 yfrom_, .int .u16 yfport, .int .u32 yto_, .int .u16 ytport, .bool ystream, (.slice a' n' c')]) := Lib.hid (by rw [← hW2]; exact Blk.new W1 32 (0, 0) #[.int .u32 yfrom_, .int .u16 yfport, .int .u32 yto_, .int .u16 ytport, .bool ystream, (.slice a' n' c')])
  have k2 : Hid (Below W1.heap.size W1 W2) := Lib.hid (by rw [← hW2]; exact alloc_bel _ _)
  have k3 := Lib.hid (k1.out.trans (k2.out.mono k1.out.size))
  have B3 := Lib.hid (B1.out.below k2.out B1.out.lt)
  have r1 := h.ext k3.out
  have r2 := h'.ext k3.out
  have hs := Lib.hid (same_bytes r1 r2)
  clear h h' r1 r2
  have p0 : W2.cell? ⟨w.heap.size, 0, none⟩ = some (.int .u32 xfrom_) := (B3.out.cell 0).trans rfl
  have p1 : W2.cell? ⟨w.heap.size, 1, none⟩ = some (.int .u16 xfport) := (B3.out.cell 1).trans rfl
  have p2 : W2.cell? ⟨w.heap.size, 2, none⟩ = some (.int .u32 xto_) := (B3.out.cell 2).trans rfl
  have p3 : W2.cell? ⟨w.heap.size, 3, none⟩ = some (.int .u16 xtport) := (B3.out.cell 3).trans rfl
  have p4 : W2.cell? ⟨w.heap.size, 4, none⟩ = some (.bool xstream) := (B3.out.cell 4).trans rfl
  have p5 : W2.cell? ⟨w.heap.size, 5, none⟩ = some ((.slice a n c)) := (B3.out.cell 5).trans rfl
  have q0 : W2.cell? ⟨W1.heap.size, 0, none⟩ = some (.int .u32 yfrom_) := (B2.out.cell 0).trans rfl
  have q1 : W2.cell? ⟨W1.heap.size, 1, none⟩ = some (.int .u16 yfport) := (B2.out.cell 1).trans rfl
  have q2 : W2.cell? ⟨W1.heap.size, 2, none⟩ = some (.int .u32 yto_) := (B2.out.cell 2).trans rfl
  have q3 : W2.cell? ⟨W1.heap.size, 3, none⟩ = some (.int .u16 ytport) := (B2.out.cell 3).trans rfl
  have q4 : W2.cell? ⟨W1.heap.size, 4, none⟩ = some (.bool ystream) := (B2.out.cell 4).trans rfl
  have q5 : W2.cell? ⟨W1.heap.size, 5, none⟩ = some ((.slice a' n' c')) := (B2.out.cell 5).trans rfl
  clear B1 B2 B3 k1 k2
  by_cases e0 : xfrom_ = yfrom_
  rotate_left
  · have hf : Hid (sameB (⟨xfrom_, xfport, xto_, xtport, xstream⟩, l) (⟨yfrom_, yfport, yto_, ytport, ystream⟩, l') = false) := Lib.hid (by unfold sameB; simp [e0])
    go_enter Try.func27, Try.ntmps27
    go_wp2_with fail
    go_ret
    exact ⟨by rw [hf.out]; rfl, k3.out⟩
  subst e0
  by_cases e1 : xfport = yfport
  rotate_left
  · have hf : Hid (sameB (⟨xfrom_, xfport, xto_, xtport, xstream⟩, l) (⟨xfrom_, yfport, yto_, ytport, ystream⟩, l') = false) := Lib.hid (by unfold sameB; simp [e1])
    go_enter Try.func27, Try.ntmps27
    go_wp2_with fail
    go_ret
    exact ⟨by rw [hf.out]; rfl, k3.out⟩
  subst e1
  by_cases e2 : xto_ = yto_
  rotate_left
  · have hf : Hid (sameB (⟨xfrom_, xfport, xto_, xtport, xstream⟩, l) (⟨xfrom_, xfport, yto_, ytport, ystream⟩, l') = false) := Lib.hid (by unfold sameB; simp [e2])
    go_enter Try.func27, Try.ntmps27
    go_wp2_with fail
    go_ret
    exact ⟨by rw [hf.out]; rfl, k3.out⟩
  subst e2
  by_cases e3 : xtport = ytport
  rotate_left
  · have hf : Hid (sameB (⟨xfrom_, xfport, xto_, xtport, xstream⟩, l) (⟨xfrom_, xfport, xto_, ytport, ystream⟩, l') = false) := Lib.hid (by unfold sameB; simp [e3])
    go_enter Try.func27, Try.ntmps27
    go_wp2_with fail
    go_ret
    exact ⟨by rw [hf.out]; rfl, k3.out⟩
  subst e3
  by_cases e4 : xstream = ystream
  rotate_left
  · have hf : Hid (sameB (⟨xfrom_, xfport, xto_, xtport, xstream⟩, l) (⟨xfrom_, xfport, xto_, xtport, ystream⟩, l') = false) := Lib.hid (by unfold sameB; simp [e4])
    have hb4 : (xstream == ystream) = false := by simpa using e4
    go_enter Try.func27, Try.ntmps27
    go_wp2_with fail
    go_ret
    exact ⟨by rw [hf.out]; rfl, k3.out⟩
  subst e4
  have hf : Hid (sameB (⟨xfrom_, xfport, xto_, xtport, xstream⟩, l) (⟨xfrom_, xfport, xto_, xtport, xstream⟩, l') = (l == l')) := Lib.hid (by unfold sameB; simp)
  go_enter Try.func27, Try.ntmps27
  go_wp2_with fail
  refine hs.out.mono ?_
  rintro e w3 ⟨rfl, rfl⟩
  go_wp2_with fail
  go_ret
  exact ⟨by rw [hf.out]; rfl, k3.out⟩
theorem rd_pk {w : World} {a : Option Addr} {n c : Nat} {l : List PD} (h : Rd pkE w a n c l) (h0 : 0 < n) : ∃ b o, a = some ⟨b, o, none⟩ ∧ b < w.heap.size ∧ ∀ j (hj : j < l.length), w.cell? ⟨b, o + j * 6, none⟩ = some (.int .u32 l[j].h.from_) ∧ w.cell? ⟨b, o + j * 6 + 1, none⟩ = some (.int .u16 l[j].h.fport) ∧ w.cell? ⟨b, o + j * 6 + 2, none⟩ = some (.int .u32 l[j].h.to_) ∧ w.cell? ⟨b, o + j * 6 + 3, none⟩ = some (.int .u16 l[j].h.tport) ∧ w.cell? ⟨b, o + j * 6 + 4, none⟩ = some (.bool l[j].h.stream) ∧ w.cell? ⟨b, o + j * 6 + 5, none⟩ = some (.slice l[j].da l[j].dn l[j].dc) := by
  obtain ⟨b, o, h1, h2, h3⟩ := h.addr h0
  exact ⟨b, o, h1, h2, fun j hj => ⟨h3 j hj 0 (by decide), h3 j hj 1 (by decide), h3 j hj 2 (by decide), h3 j hj 3 (by decide), h3 j hj 4 (by decide), h3 j hj 5 (by decide)⟩⟩
/-- packets as they read -/
def RdP (w : World) (a : Option Addr) (n c : Nat) (L : List Pk) : Prop := ∃ OP : List PD, Rd pkE w a n c OP ∧ OP.length = L.length ∧ ∀ (j : Nat) (q : PD) (x : Pk), OP[j]? = some q → L[j]? = some x → q.h = x.1 ∧ Rd byteE w q.da q.dn q.dc x.2
theorem RdP.ext {w w' : World} {a : Option Addr} {n c : Nat} {L : List Pk} (h : RdP w a n c L) (hb : Below w.heap.size w w') : RdP w' a n c L := by
  obtain ⟨OP, h1, h2, h3⟩ := h
  exact ⟨OP, h1.ext hb, h2, fun j q x hq hx => ⟨(h3 j q x hq hx).1, (h3 j q x hq hx).2.ext hb⟩⟩
theorem RdP.len {w : World} {a : Option Addr} {n c : Nat} {L : List Pk} (h : RdP w a n c L) : L.length = n := by
  obtain ⟨OP, h1, h2, h3⟩ := h
  have := h1.len
  omega
theorem RdP.at_ {w : World} {a : Option Addr} {n c : Nat} {L : List Pk} (h : RdP w a n c L) {k : Nat} (hk : k < n) : ∃ (b o : Nat) (q : PD), a = some ⟨b, o, none⟩ ∧ (w.cell? ⟨b, o + k * 6, none⟩ = some (.int .u32 q.h.from_) ∧ w.cell? ⟨b, o + k * 6 + 1, none⟩ = some (.int .u16 q.h.fport) ∧ w.cell? ⟨b, o + k * 6 + 2, none⟩ = some (.int .u32 q.h.to_) ∧ w.cell? ⟨b, o + k * 6 + 3, none⟩ = some (.int .u16 q.h.tport) ∧ w.cell? ⟨b, o + k * 6 + 4, none⟩ = some (.bool q.h.stream) ∧ w.cell? ⟨b, o + k * 6 + 5, none⟩ = some (.slice q.da q.dn q.dc)) ∧ ∃ x, L[k]? = some x ∧ q.h = x.1 ∧ Rd byteE w q.da q.dn q.dc x.2 := by
  obtain ⟨OP, h1, h2, h3⟩ := h
  have hl := h1.len
  obtain ⟨b, o, e, -, hc⟩ := rd_pk h1 (by omega)
  obtain ⟨x, hx⟩ : ∃ x, L[k]? = some x := ⟨L[k]'(by omega), List.getElem?_eq_getElem _⟩
  exact ⟨b, o, OP[k]'(by omega), e, hc k (by omega), x, hx, h3 k _ x (List.getElem?_eq_getElem _) hx⟩
set_option maxHeartbeats 8000000 in
set_option maxRecDepth 100000 in
theorem packets_any {w : World} {a a' : Option Addr} {n c n' c' : Nat} {L M : List Pk} (h : RdP w a n c L) (h' : RdP w a' n' c' M) (hn : n ≤ 100000000000) :
    Calls Try.prog 13 #[.slice a n c, .slice a' n' c'] w fun e w' => e = .returned (.bool (sameL L M)) ∧ Below w.heap.size w w' := by
  have hl := h.len
  have hl' := h'.len
  have hH := Lib.hid h
  have hH' := Lib.hid h'
  clear h h'
  by_cases hnn : n = n'
  rotate_left
  · have hI : ¬ (n : Int) = n' := by omega
    have hf : Hid (sameL L M = false) := Lib.hid (sameL_len L M (by omega))
    go_enter Try.func13, Try.ntmps13
    go_wp2_with fail
    go_ret
    exact ⟨by rw [hf.out]; rfl, Below.refl _ _⟩
  subst hnn
  go_enter Try.func13, Try.ntmps13
  go_wp2_with fail
  go_loopw [5] (fun i wr => ∃ k : Nat, k ≤ n ∧ i = .int .i64 k ∧ Hid (sameL L M = sameL (L.drop k) (M.drop k)) ∧ Hid (Below w.heap.size w wr)) (fun i _ => n - (intOf i).toNat)
  case atStart => exact ⟨0, Nat.zero_le _, rfl, Lib.hid rfl, Lib.hid (Below.refl _ _)⟩
  case round =>
    obtain ⟨k, hk, rfl, hs, hb⟩ := hrel
    by_cases hlt : k < n
    · have hkI : (k : Int) < n := by omega
      have hk0 : 0 ≤ (k : Int) := by omega
      obtain ⟨b, o, q, rfl, ⟨c0, c1, c2, c3, c4, c5⟩, x, hx, q1, q2⟩ := (hH.out.ext hb.out).at_ hlt
      obtain ⟨b', o', q', rfl, ⟨d0, d1, d2, d3, d4, d5⟩, x', hx', q1', q2'⟩ := (hH'.out.ext hb.out).at_ hlt
      have hd : Hid (sameL L M = (sameB x x' && sameL (L.drop (k + 1)) (M.drop (k + 1)))) := Lib.hid (by
        have e1 : L.drop k = x :: L.drop (k + 1) := by
          have hkL : k < L.length := by omega
          rw [List.getElem?_eq_getElem hkL] at hx
          rw [List.drop_eq_getElem_cons hkL, Option.some.inj hx]
        have e2 : M.drop k = x' :: M.drop (k + 1) := by
          have hkL : k < M.length := by omega
          rw [List.getElem?_eq_getElem hkL] at hx'
          rw [List.drop_eq_getElem_cons hkL, Option.some.inj hx']
        rw [hs.out, e1, e2, sameL])
      have hkd : Hid (Below wr.heap.size wr wr.drew) := Lib.hid (Below.refl _ _).drew
      obtain ⟨hx0, l⟩ := x
      obtain ⟨hx0', l'⟩ := x'
      obtain ⟨qh, da, dn, dc⟩ := q
      obtain ⟨qh', da', dn', dc'⟩ := q'
      dsimp only at c0 c1 c2 c3 c4 c5 d0 d1 d2 d3 d4 d5 q1 q1' q2 q2'
      subst q1 q1'
      have hcall := Lib.hid (same_any (q2.ext hkd.out) (q2'.ext hkd.out) qh qh')
      unfold pkV at hcall
      clear q2 q2' hx hx' hs
      go_wp2_with fail
      refine wp_region_still_tail 8 (by kernel_rfl) (by kernel_rfl) ?_
      simp only [List.take_succ_cons, List.take_zero, List.drop_succ_cons, List.drop_zero]
      iterate 8 still_step
      refine wpStill_nil ?_
      change wpList _ _ _ _ _ wr.drew
      generalize wr.drew = w2 at *
      go_wp2_with fail
      refine hcall.out.mono ?_
      rintro e w3 ⟨rfl, hb3⟩
      have hb4 := Lib.hid (hb.out.trans (hkd.out.trans (hb3.mono hkd.out.size) |>.mono hb.out.size))
      clear hb3 hcall c0 c1 c2 c3 c4 c5 d0 d1 d2 d3 d4 d5
      cases hB : sameB (qh, l) (qh', l') with
      | true =>
        rw [hB, Bool.true_and] at hd
        clear hB
        go_wp2_with fail
        go_roundw
        case rel => exact ⟨k + 1, by omega, by go_num, hd, hb4⟩
        case measure => simp [intOf]; omega
      | false =>
        rw [hB, Bool.false_and] at hd
        clear hB
        go_wp2_with fail
        go_ret
        exact ⟨by rw [hd.out]; rfl, hb4.out⟩
    · have hk' : k = n := by omega
      subst hk'
      have hd : Hid (sameL L M = true) := Lib.hid (by rw [hs.out, List.drop_of_length_le (by omega), List.drop_of_length_le (by omega)]; rfl)
      clear hs
      go_wp2_with fail
      go_ret
      exact ⟨by rw [hd.out]; rfl, hb.out⟩
/-- what Due told reads as packets -/
theorem OutP.rdP {w : World} {b : Nat} {v : Value} {L : List Fl} {T : Nat → Prop} {OP : List PD} (h : OutP w b v L T OP) : ∃ a n c, v = .slice a n c ∧ RdP w a n c (L.map fun f => (f.h, f.d)) := by
  obtain ⟨a, c, e, hr⟩ := h.own.rd
  refine ⟨a, OP.length, c, e, OP, hr, by simp [h.len], fun j q x hq hx => ?_⟩
  rw [List.getElem?_map] at hx
  obtain ⟨f, hf, rfl⟩ := Option.map_eq_some_iff.1 hx
  have h1 := h.rep j q f hq hf
  have h2 := own_rd_at h1.2
  exact ⟨h1.1, h2.1⟩
end Go.Proofs.Ythdnbipfdahnlaa
