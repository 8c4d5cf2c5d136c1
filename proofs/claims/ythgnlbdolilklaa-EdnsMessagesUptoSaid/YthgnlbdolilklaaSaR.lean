/- Texts, names, data, records that are alike: SameTexts 65, SameName 44, SameData 45, SameRecord 15. -/
import Derived.Test.YthgnlbdolilklaaOpenR
namespace Go.Proofs.Ythgnlbdolilklaa
open Go Go.RowKit
theorem Rd.drewN {α : Type} {E : Enc α} {w : World} {a : Option Addr} {n c : Nat} {l : List α} (h : Rd E w a n c l) (q : Nat) : Rd E (w.drewN q) a n c l := h.keep fun _ _ _ _ _ => rfl
set_option maxHeartbeats 1000000 in
set_option maxRecDepth 100000 in
theorem same_texts {w : World} {a a' : Option Addr} {n c n' c' : Nat} {l l' : Nm} (h : Rd strE w a n c l) (h' : Rd strE w a' n' c' l') :
    Calls Try.prog 65 #[.slice a n c, .slice a' n' c'] w fun e w' => e = .returned (.bool (l == l')) ∧ ∃ q, w' = w.drewN q := by
  have hl := h.len
  have hl' := h'.len
  have hm := h.most
  have hc := h.cap
  have hm' := h'.most
  have hc' := h'.cap
  have hH := Lib.hid h
  have hH' := Lib.hid h'
  have hL := Lib.hid (And.intro hl hl')
  clear h h' hl hl'
  simp only [maxLen] at hm hm'
  by_cases e : n = n'
  · subst e
    go_enter Try.func65, Try.ntmps65
    go_wp2_with fail
    go_loopw [5] (fun i wr => ∃ k : Nat, k ≤ n ∧ i = .int .i64 k ∧ l.take k = l'.take k ∧ Hid (∃ q, wr = w.drewN q))
      (fun i _ => n - (intOf i).toNat)
    case atStart => exact ⟨0, Nat.zero_le _, rfl, rfl, Lib.hid ⟨0, rfl⟩⟩
    case round =>
      obtain ⟨k, hk, rfl, hp0, hw⟩ := hrel
      have hp := Lib.hid hp0
      clear hp0
      have ⟨hl, hl'⟩ := hL.out
      by_cases hlt : k < n
      · have hhp : wr.heap = w.heap := by obtain ⟨q, e⟩ := hw.out; rw [e]; rfl
        have hr1 := hH.out.keep (w' := wr) fun _ _ _ _ _ => by rw [hhp]
        have hr2 := hH'.out.keep (w' := wr) fun _ _ _ _ _ => by rw [hhp]
        have hwd : Hid (∃ q, wr.drew = w.drewN q) := Lib.hid (by obtain ⟨q, e⟩ := hw.out; exact ⟨q + 1, by rw [e]; rfl⟩)
        clear hhp
        obtain ⟨b, o, rfl, hcs⟩ := rd_str hr1 (by omega)
        obtain ⟨b', o', rfl, hcs'⟩ := rd_str hr2 (by omega)
        have hck := hcs k (by omega)
        have hck' := hcs' k (by omega)
        have e1 : l.take (k + 1) = l.take k ++ [l[k]'(by omega)] := List.take_succ_eq_append_getElem (by omega)
        have e2 : l'.take (k + 1) = l'.take k ++ [l'[k]'(by omega)] := List.take_succ_eq_append_getElem (by omega)
        have e3 : (l[k]'(by omega)) ≠ (l'[k]'(by omega)) → (l == l') = false := fun h => by
          rw [beq_eq_false_iff_ne]; intro e; subst e; exact h rfl
        clear hcs hcs' hr1 hr2
        generalize (l[k]'(by omega)) = X at *
        generalize (l'[k]'(by omega)) = Y at *
        clear hl hl'
        have e4 := Lib.hid (And.intro e1 e2)
        clear e1 e2
        have hlt2 : (k : Int) < n := by omega
        have hk0 : 0 ≤ (k : Int) := by omega
        by_cases hxy : X = Y
        · subst hxy
          go_wp2_with fail
          go_region
          go_wp2_with fail
          go_roundw
          case rel => exact ⟨k + 1, by omega, by go_num, by rw [e4.out.1, e4.out.2, hp.out], hwd⟩
          case measure => simp [intOf]; omega
        · have hne : (X == Y) = false := by rw [beq_eq_false_iff_ne]; exact hxy
          have hres := e3 hxy
          go_wp2_with fail
          go_region
          go_wp2_with fail
          go_ret
          exact ⟨by rw [hres]; rfl, hwd.out⟩
      · have hk' : k = n := by omega
        subst hk'
        have hres : (l == l') = true := by
          have := hp.out
          rw [List.take_of_length_le (by omega), List.take_of_length_le (by omega)] at this
          rw [this]; exact beq_self_eq_true _
        clear hl hl'
        go_wp2_with fail
        go_ret
        exact ⟨by rw [hres]; rfl, hw.out⟩
  · have e2 : ¬ ((n : Int) = (n' : Int)) := by omega
    have hres : (l == l') = false := by
      have := hL.out
      rw [beq_eq_false_iff_ne]; intro e; subst e; omega
    go_enter Try.func65, Try.ntmps65
    go_wp2_with fail
    go_ret
    exact ⟨by rw [hres]; rfl, 0, rfl⟩
theorem same_name {w : World} {a a' : Option Addr} {n c n' c' : Nat} {l l' : Nm} (h : Rd strE w a n c l) (h' : Rd strE w a' n' c' l') :
    Calls Try.prog 44 #[.slice a n c, .slice a' n' c'] w fun e w' => e = .returned (.bool (l == l')) ∧ ∃ q, w' = w.drewN q := by
  have hH := Lib.hid h
  have hH' := Lib.hid h'
  clear h h'
  go_enter Try.func44, Try.ntmps44
  go_wp2_with fail
  refine (same_texts hH.out hH'.out).mono ?_
  rintro e w1 ⟨rfl, q, rfl⟩
  go_wp2_with fail
  go_ret
  exact ⟨rfl, q, rfl⟩
/-- data by value -/
def dV (nm nu tx raw : Value) : Value := .agg #[nm, nu, tx, raw]
theorem cell_old {w w' : World} {x : Addr} {v : Value} (h : w.cell? x = some v) (hb : Below w.heap.size w w') : w'.cell? x = some v := (hb.cell (World.block_lt_of_cell? w _ h)).trans h
theorem RdN.at_ {w : World} {a : Option Addr} {n c : Nat} {XS : List Nm} (h : RdN w a n c XS) (h0 : 0 < n) : ∃ b o, a = some ⟨b, o, none⟩ ∧ b < w.heap.size ∧ ∀ j (hj : j < XS.length), ∃ a' n' c', w.cell? ⟨b, o + j, none⟩ = some (.slice a' n' c') ∧ RdT w a' n' c' XS[j] := by
  obtain ⟨ps, h1, h2, _, h3⟩ := h
  obtain ⟨b, o, hab, hlt, hc⟩ := h1.addr h0
  refine ⟨b, o, hab, hlt, fun j hj => ?_⟩
  have hj' : j < ps.length := by omega
  have h := hc j hj' 0 (by decide)
  have e : o + (j * slN.k + 0) = o + j := by show o + (j * 1 + 0) = o + j; omega
  rw [e] at h
  exact ⟨_, _, _, h, h3 j ps[j] XS[j] (List.getElem?_eq_getElem hj') (List.getElem?_eq_getElem hj)⟩
theorem rd_u32 {w : World} {a : Option Addr} {n c : Nat} {l : List Nat} (h : Rd u32E w a n c l) (h0 : 0 < n) : ∃ b o, a = some ⟨b, o, none⟩ ∧ ∀ j (hj : j < l.length), w.cell? ⟨b, o + j, none⟩ = some (.int .u32 (l[j] : Nat)) := by
  obtain ⟨b, o, h1, _, h2⟩ := h.addr h0
  exact ⟨b, o, h1, fun j hj => by have := h2 j hj 0 (by decide); simpa [u32E] using this⟩
set_option maxHeartbeats 4000000 in
set_option maxRecDepth 100000 in
theorem same_data {w : World} {ma : Option Addr} {mn mc : Nat} {ua : Option Addr} {un uc : Nat} {xa : Option Addr} {xn xc : Nat} {ra : Option Addr} {rn rc : Nat} {ma' : Option Addr} {mn' mc' : Nat} {ua' : Option Addr} {un' uc' : Nat} {xa' : Option Addr} {xn' xc' : Nat} {ra' : Option Addr} {rn' rc' : Nat}
    {nm : List Nm} {nu : List Nat} {tx : Nm} {raw : List UInt8} (h1 : RdN w ma mn mc nm) (h1' : RdN w ma' mn' mc' nm) (h2 : Rd u32E w ua un uc nu) (h2' : Rd u32E w ua' un' uc' nu) (h3 : Rd strE w xa xn xc tx) (h3' : Rd strE w xa' xn' xc' tx)
    (h4 : Rd byteE w ra rn rc raw) (h4' : Rd byteE w ra' rn' rc' raw) :
    Calls Try.prog 45 #[dV (.slice ma mn mc) (.slice ua un uc) (.slice xa xn xc) (.slice ra rn rc), dV (.slice ma' mn' mc') (.slice ua' un' uc') (.slice xa' xn' xc') (.slice ra' rn' rc')] w fun e w' => e = .returned (.bool true) ∧ Below w.heap.size w w' := by
  unfold dV
  have l1 := h1.len
  have l1' := h1'.len
  have l2 := h2.len
  have l2' := h2'.len
  obtain rfl : mn = mn' := by omega
  obtain rfl : un = un' := by omega
  have m1 : mn ≤ 9223372036854775807 := by obtain ⟨ps, q, _⟩ := h1; have := q.cap; have := q.most; simp only [maxLen] at this; omega
  have m2 : un ≤ 9223372036854775807 := by have := h2.cap; have := h2.most; simp only [maxLen] at this; omega
  obtain ⟨W1, hW1⟩ : ∃ W1, w.alloc (.cells #[.slice ma mn mc, .slice ua un uc, .slice xa xn xc, .slice ra rn rc] 35) = W1 := ⟨_, rfl⟩
  obtain ⟨W2, hW2⟩ : ∃ W2, W1.alloc (.cells #[.slice ma' mn mc', .slice ua' un uc', .slice xa' xn' xc', .slice ra' rn' rc'] 35) = W2 := ⟨_, rfl⟩
  have hb1 : Below w.heap.size w W1 := by rw [← hW1]; exact (Below.refl _ _).alloc (Nat.le_refl _) _
  have hB1 : Blk W1 w.heap.size 35 (0, 0) [.slice ma mn mc, .slice ua un uc, .slice xa xn xc, .slice ra rn rc] := by rw [← hW1]; exact Blk.new w 35 (0, 0) #[.slice ma mn mc, .slice ua un uc, .slice xa xn xc, .slice ra rn rc]
  have hB2 : Blk W2 W1.heap.size 35 (0, 0) [.slice ma' mn mc', .slice ua' un uc', .slice xa' xn' xc', .slice ra' rn' rc'] := by rw [← hW2]; exact Blk.new W1 35 (0, 0) #[.slice ma' mn mc', .slice ua' un uc', .slice xa' xn' xc', .slice ra' rn' rc']
  have hB1' : Blk W2 w.heap.size 35 (0, 0) [.slice ma mn mc, .slice ua un uc, .slice xa xn xc, .slice ra rn rc] := by rw [← hW2]; exact hB1.alloc _
  have hb2 : Below w.heap.size w W2 := by rw [← hW2]; exact hb1.alloc hb1.size _
  have p0 : W2.cell? ⟨w.heap.size, 0, none⟩ = some (.slice ma mn mc) := (hB1'.cell 0).trans rfl
  have p1 : W2.cell? ⟨w.heap.size, 1, none⟩ = some (.slice ua un uc) := (hB1'.cell 1).trans rfl
  have p2 : W2.cell? ⟨w.heap.size, 2, none⟩ = some (.slice xa xn xc) := (hB1'.cell 2).trans rfl
  have p3 : W2.cell? ⟨w.heap.size, 3, none⟩ = some (.slice ra rn rc) := (hB1'.cell 3).trans rfl
  have q0 : W2.cell? ⟨W1.heap.size, 0, none⟩ = some (.slice ma' mn mc') := (hB2.cell 0).trans rfl
  have q1 : W2.cell? ⟨W1.heap.size, 1, none⟩ = some (.slice ua' un uc') := (hB2.cell 1).trans rfl
  have q2 : W2.cell? ⟨W1.heap.size, 2, none⟩ = some (.slice xa' xn' xc') := (hB2.cell 2).trans rfl
  have q3 : W2.cell? ⟨W1.heap.size, 3, none⟩ = some (.slice ra' rn' rc') := (hB2.cell 3).trans rfl
  have g1 := Lib.hid (h1.ext hb2)
  have g1' := Lib.hid (h1'.ext hb2)
  have g2 := Lib.hid (h2.ext hb2)
  have g2' := Lib.hid (h2'.ext hb2)
  have g3 := Lib.hid (h3.ext hb2)
  have g3' := Lib.hid (h3'.ext hb2)
  have g4 := Lib.hid (h4.ext hb2)
  have g4' := Lib.hid (h4'.ext hb2)
  have hb2' := Lib.hid hb2
  clear h1 h1' h2 h2' h3 h3' h4 h4' hb1 hB1 hB2 hB1' hb2 l1' l2'
  have ll := Lib.hid (And.intro l1 l2)
  clear l1 l2
  go_enter Try.func45, Try.ntmps45
  go_wp2_with fail
  try rw [hW1]
  try rw [hW2]
  clear hW2 hW1
  refine (same_texts g3.out g3'.out).mono ?_
  rw [beq_self_eq_true]
  rintro e w1 ⟨rfl, q, rfl⟩
  go_wp2_with fail
  have s4 : Calls Try.prog 20 #[.slice ra rn rc, .slice ra' rn' rc'] (W2.drewN q) fun e w' => e = .returned (.bool (raw == raw)) ∧ W2.drewN q = w' := same_bytes (g4.out.drewN q) (g4'.out.drewN q)
  refine s4.mono ?_
  rw [beq_self_eq_true]
  rintro e w1 ⟨rfl, rfl⟩
  have hc := Lib.hid (And.intro (And.intro p0 q0) (And.intro p1 q1))
  clear p0 p1 p2 p3 q0 q1 q2 q3 s4
  have hcx : W2.cell? ⟨w.heap.size, 0, none⟩ = some (.slice ma mn mc) := hc.out.1.1
  go_upto_region 4 with (fail)
  go_loopw [5] (fun i wr => ∃ k : Nat, k ≤ mn ∧ i = .int .i64 k ∧ Hid (∃ q, wr = W2.drewN q)) (fun i _ => mn - (intOf i).toNat)
  case atStart => exact ⟨0, Nat.zero_le _, rfl, Lib.hid ⟨q, rfl⟩⟩
  case round =>
    obtain ⟨k, hk, rfl, hw⟩ := hrel
    have cc : ∀ x, wr.cell? x = W2.cell? x := fun x => by obtain ⟨q, e⟩ := hw.out; rw [e]; rfl
    have p0 : wr.cell? ⟨w.heap.size, 0, none⟩ = some (.slice ma mn mc) := (cc _).trans hc.out.1.1
    have q0 : wr.cell? ⟨W1.heap.size, 0, none⟩ = some (.slice ma' mn mc') := (cc _).trans hc.out.1.2
    by_cases hlt : k < mn
    · obtain ⟨b, o, rfl, _, hcs⟩ := g1.out.at_ (by omega)
      obtain ⟨b', o', rfl, _, hcs'⟩ := g1'.out.at_ (by omega)
      obtain ⟨ax, nx, cx, r1, r2⟩ := hcs k (by have := ll.out.1; omega)
      obtain ⟨ay, ny, cy, s1, s2⟩ := hcs' k (by have := ll.out.1; omega)
      have hkI : (k : Int) < mn := by omega
      have hk0 : 0 ≤ (k : Int) := by omega
      have r1' : wr.cell? ⟨b, o + k, none⟩ = some (.slice ax nx cx) := (cc _).trans r1
      have s1' : wr.cell? ⟨b', o' + k, none⟩ = some (.slice ay ny cy) := (cc _).trans s1
      have hcall : ∀ q, Calls Try.prog 44 #[.slice ax nx cx, .slice ay ny cy] (wr.drewN q) fun e w' => e = .returned (.bool true) ∧ ∃ q', w' = wr.drewN q' := fun q => by
        obtain ⟨q0, e⟩ := hw.out
        have hx : (wr.drewN q).heap = W2.heap := by rw [e]; rfl
        have := same_name (r2.1.keep (w' := wr.drewN q) fun _ _ _ _ _ => by rw [hx]) (s2.1.keep (w' := wr.drewN q) fun _ _ _ _ _ => by rw [hx])
        rw [beq_self_eq_true] at this
        exact this.mono fun _ _ h => ⟨h.1, by obtain ⟨q', h⟩ := h.2; exact ⟨_, h.trans (by rw [World.drewN_drewN])⟩⟩
      have hcall' := Lib.hid hcall
      clear hcall r1 s1 r2 s2 hcs hcs' hcx cc
      go_wp2_with fail
      go_quiet ((go_at_call 44; exact hcall'.out _))
      rename_i nq _
      have hw2 : Hid (∃ q, wr.drewN nq = W2.drewN q) := Lib.hid (by obtain ⟨q, e⟩ := hw.out; exact ⟨_, by rw [e, World.drewN_drewN]⟩)
      go_wp2_with fail
      go_roundw
      case rel => exact ⟨k + 1, by omega, by go_num, hw2⟩
      case measure => simp [intOf]; omega
    · have hk' : k = mn := by omega
      subst hk'
      obtain ⟨q, rfl⟩ := hw.out
      clear cc
      have p1 : W2.cell? ⟨w.heap.size, 1, none⟩ = some (.slice ua un uc) := hc.out.2.1
      go_upto_region 9 with (fail)
      go_loopw [6] (fun i wr => ∃ k q : Nat, k ≤ un ∧ i = .int .i64 k ∧ wr = W2.drewN q) (fun i _ => un - (intOf i).toNat)
      case atStart => exact ⟨0, _, Nat.zero_le _, rfl, rfl⟩
      case round =>
        obtain ⟨k, q, hk, rfl, rfl⟩ := hrel
        have p1 : W2.cell? ⟨w.heap.size, 1, none⟩ = some (.slice ua un uc) := hc.out.2.1
        have q1 : W2.cell? ⟨W1.heap.size, 1, none⟩ = some (.slice ua' un uc') := hc.out.2.2
        by_cases hlt : k < un
        · obtain ⟨b, o, rfl, hcs⟩ := rd_u32 g2.out (by omega)
          obtain ⟨b', o', rfl, hcs'⟩ := rd_u32 g2'.out (by omega)
          have r1 : W2.cell? ⟨b, o + k, none⟩ = _ := hcs k (by have := ll.out.2; omega)
          have s1 : W2.cell? ⟨b', o' + k, none⟩ = _ := hcs' k (by have := ll.out.2; omega)
          have hkI : (k : Int) < un := by omega
          have hk0 : 0 ≤ (k : Int) := by omega
          generalize nu[k]'(by have := ll.out.2; omega) = X at *
          clear hcs hcs' hcx p0 q0
          go_wp2_with fail
          go_quiet (fail)
          go_wp2_with fail
          go_roundw
          case rel => exact ⟨k + 1, _, by omega, by go_num, rfl⟩
          case measure => simp [intOf]; omega
        · have hk' : k = un := by omega
          subst hk'
          go_wp2_with fail
          go_ret
          exact ⟨rfl, below_drewN hb2'.out _⟩
set_option maxHeartbeats 4000000 in
set_option maxRecDepth 100000 in
theorem same_rec {w : World} {q q' : RD} {L : RL} (h : RecR w q L) (h' : RecR w q' L) (hty : q.ty = q'.ty) (hcl : q.cl = q'.cl) (httl : q.ttl = q'.ttl) :
    Calls Try.prog 15 #[q.val, q'.val] w fun e w' => e = .returned (.bool true) ∧ Below w.heap.size w w' := by
  obtain ⟨oa, on, oc, ty, cl, ttl, ma, mn, mc, ua, un, uc, xa, xn, xc, ra, rn, rc⟩ := q
  obtain ⟨oa', on', oc', ty', cl', ttl', ma', mn', mc', ua', un', uc', xa', xn', xc', ra', rn', rc'⟩ := q'
  dsimp only at hty hcl httl
  subst hty hcl httl
  unfold RD.val rV
  dsimp only
  obtain ⟨W1, hW1⟩ : ∃ W1, w.alloc (.cells #[.slice oa on oc, .int .u16 ty, .int .u16 cl, .int .u32 ttl, .slice ma mn mc, .slice ua un uc, .slice xa xn xc, .slice ra rn rc] 37) = W1 := ⟨_, rfl⟩
  obtain ⟨W2, hW2⟩ : ∃ W2, W1.alloc (.cells #[.slice oa' on' oc', .int .u16 ty, .int .u16 cl, .int .u32 ttl, .slice ma' mn' mc', .slice ua' un' uc', .slice xa' xn' xc', .slice ra' rn' rc'] 37) = W2 := ⟨_, rfl⟩
  have hb1 : Below w.heap.size w W1 := by rw [← hW1]; exact (Below.refl _ _).alloc (Nat.le_refl _) _
  have hB1 : Blk W1 w.heap.size 37 (0, 0) [.slice oa on oc, .int .u16 ty, .int .u16 cl, .int .u32 ttl, .slice ma mn mc, .slice ua un uc, .slice xa xn xc, .slice ra rn rc] := by rw [← hW1]; exact Blk.new w 37 (0, 0) #[.slice oa on oc, .int .u16 ty, .int .u16 cl, .int .u32 ttl, .slice ma mn mc, .slice ua un uc, .slice xa xn xc, .slice ra rn rc]
  have hB2 : Blk W2 W1.heap.size 37 (0, 0) [.slice oa' on' oc', .int .u16 ty, .int .u16 cl, .int .u32 ttl, .slice ma' mn' mc', .slice ua' un' uc', .slice xa' xn' xc', .slice ra' rn' rc'] := by rw [← hW2]; exact Blk.new W1 37 (0, 0) #[.slice oa' on' oc', .int .u16 ty, .int .u16 cl, .int .u32 ttl, .slice ma' mn' mc', .slice ua' un' uc', .slice xa' xn' xc', .slice ra' rn' rc']
  have hB1' : Blk W2 w.heap.size 37 (0, 0) [.slice oa on oc, .int .u16 ty, .int .u16 cl, .int .u32 ttl, .slice ma mn mc, .slice ua un uc, .slice xa xn xc, .slice ra rn rc] := by rw [← hW2]; exact hB1.alloc _
  have hb2 : Below w.heap.size w W2 := by rw [← hW2]; exact hb1.alloc hb1.size _
  have p0 : W2.cell? ⟨w.heap.size, 0, none⟩ = some (.slice oa on oc) := (hB1'.cell 0).trans rfl
  have p1 : W2.cell? ⟨w.heap.size, 1, none⟩ = some (.int .u16 ty) := (hB1'.cell 1).trans rfl
  have p2 : W2.cell? ⟨w.heap.size, 2, none⟩ = some (.int .u16 cl) := (hB1'.cell 2).trans rfl
  have p3 : W2.cell? ⟨w.heap.size, 3, none⟩ = some (.int .u32 ttl) := (hB1'.cell 3).trans rfl
  have p4 : W2.cell? ⟨w.heap.size, 4, none⟩ = some (.slice ma mn mc) := (hB1'.cell 4).trans rfl
  have p5 : W2.cell? ⟨w.heap.size, 5, none⟩ = some (.slice ua un uc) := (hB1'.cell 5).trans rfl
  have p6 : W2.cell? ⟨w.heap.size, 6, none⟩ = some (.slice xa xn xc) := (hB1'.cell 6).trans rfl
  have p7 : W2.cell? ⟨w.heap.size, 7, none⟩ = some (.slice ra rn rc) := (hB1'.cell 7).trans rfl
  have q0 : W2.cell? ⟨W1.heap.size, 0, none⟩ = some (.slice oa' on' oc') := (hB2.cell 0).trans rfl
  have q1 : W2.cell? ⟨W1.heap.size, 1, none⟩ = some (.int .u16 ty) := (hB2.cell 1).trans rfl
  have q2 : W2.cell? ⟨W1.heap.size, 2, none⟩ = some (.int .u16 cl) := (hB2.cell 2).trans rfl
  have q3 : W2.cell? ⟨W1.heap.size, 3, none⟩ = some (.int .u32 ttl) := (hB2.cell 3).trans rfl
  have q4 : W2.cell? ⟨W1.heap.size, 4, none⟩ = some (.slice ma' mn' mc') := (hB2.cell 4).trans rfl
  have q5 : W2.cell? ⟨W1.heap.size, 5, none⟩ = some (.slice ua' un' uc') := (hB2.cell 5).trans rfl
  have q6 : W2.cell? ⟨W1.heap.size, 6, none⟩ = some (.slice xa' xn' xc') := (hB2.cell 6).trans rfl
  have q7 : W2.cell? ⟨W1.heap.size, 7, none⟩ = some (.slice ra' rn' rc') := (hB2.cell 7).trans rfl
  have g := Lib.hid (h.ext hb2)
  have g' := Lib.hid (h'.ext hb2)
  have hb2' := Lib.hid hb2
  clear h h' hb1 hB1 hB2 hB1' hb2
  have hn : Calls Try.prog 44 #[.slice oa on oc, .slice oa' on' oc'] W2 fun e w' => e = .returned (.bool (L.ow == L.ow)) ∧ ∃ q, w' = W2.drewN q := same_name g.out.ow.1 g'.out.ow.1
  have hd : ∀ q, Calls Try.prog 45 #[.agg #[.slice ma mn mc, .slice ua un uc, .slice xa xn xc, .slice ra rn rc], .agg #[.slice ma' mn' mc', .slice ua' un' uc', .slice xa' xn' xc', .slice ra' rn' rc']] (W2.drewN q) fun e w' => e = .returned (.bool true) ∧ Below (W2.drewN q).heap.size (W2.drewN q) w' := fun q =>
    same_data (g.out.nm.ext (below_drewN (Below.refl _ _) q)) (g'.out.nm.ext (below_drewN (Below.refl _ _) q)) (g.out.nu.drewN q) (g'.out.nu.drewN q) (g.out.tx.1.drewN q) (g'.out.tx.1.drewN q) (g.out.raw.drewN q) (g'.out.raw.drewN q)
  have hn' := Lib.hid hn
  have hd' := Lib.hid hd
  clear hn hd g g'
  go_enter Try.func15, Try.ntmps15
  go_wp2_with fail
  try rw [hW1]
  try rw [hW2]
  clear hW2 hW1
  refine hn'.out.mono ?_
  rw [beq_self_eq_true]
  rintro e w1 ⟨rfl, q, rfl⟩
  go_wp2_with fail
  refine (hd'.out q).mono ?_
  rintro e w1 ⟨rfl, hb⟩
  have hbf := Lib.hid ((below_drewN hb2'.out q).trans (hb.mono hb2'.out.size))
  clear hb
  go_wp2_with fail
  go_ret
  exact ⟨rfl, hbf.out⟩
end Go.Proofs.Ythgnlbdolilklaa
