/- Layer 3: the text of a name, and the document's. -/
import Derived.Test.YtffdcfannnmjnaaNameI
namespace Go.Proofs.Ytffdcfannnmjnaa
open Go.RowKit
def dotL (l : Nm) : List UInt8 := l.flatMap fun s => textL s ++ [46]
def textN (l : Nm) : List UInt8 × Nat := if checkL l ≠ 0 then ([], checkL l) else if l.length = 0 then ([46], 0) else (dotL l, 0)
theorem dotL_take (l : Nm) (k : Nat) (h : k < l.length) : dotL (l.take (k + 1)) = dotL (l.take k) ++ textL l[k] ++ [46] := by
  rw [List.take_succ_eq_append_getElem h, dotL, List.flatMap_append]; simp [dotL]
theorem dotL_len : ∀ (l : Nm), (∀ s ∈ l, s.length ≤ 63) → (dotL l).length ≤ 253 * l.length
  | [], _ => by simp [dotL]
  | s :: r, h => by
    have h1 := dotL_len r fun x hx => h x (List.mem_cons_of_mem _ hx)
    have h2 := h s List.mem_cons_self
    have h3 := textL_len s
    simp only [dotL, List.flatMap_cons, List.length_append, List.length_cons, List.length_nil] at h1 ⊢
    omega
set_option maxHeartbeats 4000000 in
set_option maxRecDepth 100000 in
theorem textN_any {w : World} {a : Option Addr} {n c : Nat} {l : Nm} (h : Rd strE w a n c l) (hn : n ≤ 8796093022208) :
    Calls Try.prog 93 #[.slice a n c] w fun e w' => e = .returned (.tuple #[.string (mk (textN l).1), .int .i64 (textN l).2]) ∧ Below w.heap.size w w' := by
  have hl := h.len
  subst hl
  have hH := Lib.hid h
  clear h
  by_cases c1 : checkL l = 0
  · have b1 := checkL_len c1
    have b2 := checkL_63 c1
    by_cases c2 : l.length = 0
    · have : l = [] := List.eq_nil_of_length_eq_zero c2
      subst this
      have hP : textN [] = ([46], 0) := rfl
      go_enter Try.func93, Try.ntmps93
      go_wp2_with fail
      refine (check_any hH.out hn).mono ?_
      rw [c1]
      rintro e w1 ⟨rfl, rfl⟩
      go_wp2_with fail
      go_ret2
      rw [hP]
      exact ⟨rfl, Below.refl _ _⟩
    · have hP : textN l = (dotL l, 0) := by unfold textN; rw [if_neg (by simp [c1]), if_neg c2]
      have q2 : ((l.length : Int) == 0) = false := by rw [beq_eq_false_iff_ne]; omega
      have b2' := Lib.hid b2
      clear b2
      go_enter Try.func93, Try.ntmps93
      go_wp2_with fail
      refine (check_any hH.out hn).mono ?_
      rw [c1]
      rintro e w1 ⟨rfl, rfl⟩
      go_wp2_with fail
      obtain ⟨w0, hw0⟩ : ∃ w0, Hid (w0 = w.alloc (Obj.cells #[Value.pointer none, Value.slice none 0 0] 132)) := ⟨_, rfl⟩
      rw [← hw0.out]
      have hsz : w0.heap.size = w.heap.size + 1 := by rw [hw0.out]; simp
      have hbelow : Below w.heap.size w w0 := by rw [hw0.out]; exact (Below.refl _ w).alloc (Nat.le_refl _) _
      have hbld : Bld (w.heap.size + 1) w0 w.heap.size [] := by rw [hw0.out]; exact Bld.new _ w
      have hR0 := Lib.hid (hH.out.ext hbelow)
      have hbelow' := Lib.hid hbelow
      clear hbelow
      have hZ := Lib.hid hsz; clear hsz
      go_loopw [18] (fun i wr => ∃ k : Nat, k ≤ l.length ∧ i = .int .i64 k ∧ Bld (w.heap.size + 1) wr w.heap.size (dotL (l.take k)) ∧ Ex (w.heap.size + 1) w.heap.size w0 wr)
        (fun i _ => l.length - (intOf i).toNat)
      case atStart => exact ⟨0, Nat.zero_le _, rfl, hbld, Ex.refl _ _ _⟩
      case round =>
        obtain ⟨k, hk, rfl, hB, hex⟩ := hrel
        have hsz := hex.size
        have hz := hZ.out
        have hbw : Below w.heap.size w wr := hbelow'.out.trans (hex.below (by omega) (Nat.le_refl _))
        by_cases hlt : k < l.length
        · obtain ⟨b, o, rfl, hcs⟩ := rd_str (hH.out.ext hbw) (by omega)
          have hck := hcs k hlt
          have htk := Lib.hid (dotL_take l k hlt)
          have hel := b2'.out _ (List.getElem_mem hlt)
          have htl := textL_len l[k]
          have hdl := dotL_len (l.take k) (fun s hs => b2'.out s (List.mem_of_mem_take hs))
          rw [List.length_take] at hdl
          replace hdl : (dotL (l.take k)).length ≤ 253 * 254 := by omega
          clear hz hbld hcs
          generalize hX : l[k] = X at *
          go_wp2_with fail
          refine (text_any X wr (by omega)).mono ?_
          rintro e w1 ⟨rfl, hb1⟩
          go_wp2_with fail
          refine (bld_string (textL X) (hB.ext hb1) (by omega) (by have := hb1.size; have := hZ.out; omega)).mono ?_
          rintro e w2 ⟨rfl, hB2, hex2⟩
          have hB2' := Lib.hid hB2
          clear hB2
          go_wp2_with fail
          refine (bld_byte 46 hB2'.out (by simp; omega) (by have := hex2.size; have := hb1.size; have := hZ.out; omega)).mono ?_
          rintro e w3 ⟨rfl, hB3, hex3⟩
          have hB3' := Lib.hid hB3
          clear hB3
          go_wp2_with fail
          go_roundw
          case rel => exact ⟨k + 1, by omega, by go_num, by rw [htk.out]; exact hB3'.out, hex.trans ((((Ex.of_below hb1).mono (by have := hZ.out; omega)).trans hex2).trans hex3)⟩
          case measure => simp [intOf]; omega
        · have hk' : l.take k = l := List.take_of_length_le (by omega)
          rw [hk'] at hB
          clear hk' hz
          go_wp2_with fail
          refine (bld_done hB (by omega)).mono ?_
          rintro e w1 ⟨rfl, hb1⟩
          go_wp2_with fail
          go_ret2
          rw [hP]
          exact ⟨rfl, hbw.trans hb1⟩
  · have hP : textN l = ([], checkL l) := by unfold textN; rw [if_pos c1]
    have c1' : ¬ ((checkL l : Int) = 0) := by omega
    go_enter Try.func93, Try.ntmps93
    go_wp2_with fail
    refine (check_any hH.out hn).mono ?_
    rintro e w1 ⟨rfl, rfl⟩
    go_wp2_with fail
    go_ret2
    rw [hP]
    exact ⟨rfl, Below.refl _ _⟩
set_option maxHeartbeats 4000000 in
set_option maxRecDepth 100000 in
theorem rtextN_any {w : World} {a : Option Addr} {n c : Nat} {l : Nm} (h : Rd strE w a n c l) (hn : n ≤ 8796093022208) :
    Calls Try.prog 94 #[.slice a n c] w fun e w' => e = .returned (.tuple #[.string (mk (textN l).1), .int .i64 (textN l).2]) ∧ Below w.heap.size w w' := by
  have hl := h.len
  subst hl
  have hH := Lib.hid h
  clear h
  by_cases c1 : checkL l = 0
  · have b1 := checkL_len c1
    have b2 := checkL_63 c1
    by_cases c2 : l.length = 0
    · have : l = [] := List.eq_nil_of_length_eq_zero c2
      subst this
      have hP : textN [] = ([46], 0) := rfl
      go_enter Try.func94, Try.ntmps94
      go_wp2_with fail
      refine (rcheck_any hH.out hn).mono ?_
      rw [c1]
      rintro e w1 ⟨rfl, rfl⟩
      go_wp2_with fail
      go_ret2
      rw [hP]
      exact ⟨rfl, Below.refl _ _⟩
    · have hP : textN l = (dotL l, 0) := by unfold textN; rw [if_neg (by simp [c1]), if_neg c2]
      have q2 : ((l.length : Int) == 0) = false := by rw [beq_eq_false_iff_ne]; omega
      have b2' := Lib.hid b2
      clear b2
      go_enter Try.func94, Try.ntmps94
      go_wp2_with fail
      refine (rcheck_any hH.out hn).mono ?_
      rw [c1]
      rintro e w1 ⟨rfl, rfl⟩
      go_wp2_with fail
      go_loopw [5, 6] (fun s i wr => ∃ k : Nat, k ≤ l.length ∧ i = .int .i64 k ∧ s = .string (mk (dotL (l.take k))) ∧ Below w.heap.size w wr)
        (fun _ i _ => l.length - (intOf i).toNat)
      case atStart => exact ⟨0, Nat.zero_le _, rfl, rfl, Below.refl _ _⟩
      case round =>
        obtain ⟨k, hk, rfl, rfl, hbw⟩ := hrel
        by_cases hlt : k < l.length
        · obtain ⟨b, o, rfl, hcs⟩ := rd_str (hH.out.ext hbw) (by omega)
          have hck := hcs k hlt
          have htk := Lib.hid (dotL_take l k hlt)
          have hel := b2'.out _ (List.getElem_mem hlt)
          have htl := textL_len l[k]
          have hdl := dotL_len (l.take k) (fun s hs => b2'.out s (List.mem_of_mem_take hs))
          rw [List.length_take] at hdl
          replace hdl : (dotL (l.take k)).length ≤ 253 * 254 := by omega
          clear hcs
          generalize hX : l[k] = X at *
          generalize hD : dotL (l.take k) = D at *
          have e : mk D ++ mk (textL X) ++ ({ data := #[46] } : ByteArray) = mk (D ++ textL X ++ [46]) := by
            have h1 := mk_append (D ++ textL X) [46]
            have h2 := mk_append D (textL X)
            rw [h2]; exact h1
          have e2 : mk (D ++ textL X) ++ ({ data := #[46] } : ByteArray) = mk (D ++ textL X ++ [46]) := mk_append (D ++ textL X) [46]
          have e' := Lib.hid (And.intro e e2)
          clear e e2
          go_wp2_with fail
          refine (refText_any X wr (by omega)).mono ?_
          rintro e w1 ⟨rfl, hb1⟩
          have hb2 : Below w.heap.size w w1 := hbw.trans (hb1.mono hbw.size)
          go_wp2_with fail
          go_roundw
          case rel => exact ⟨k + 1, by omega, by go_num, by rw [htk.out]; first | rw [e'.out.1] | rw [e'.out.2], hb2⟩
          case measure => simp [intOf]; omega
        · have hk' : l.take k = l := List.take_of_length_le (by omega)
          rw [hk']
          clear hk'
          go_wp2_with fail
          go_ret2
          rw [hP]
          exact ⟨rfl, hbw⟩
  · have hP : textN l = ([], checkL l) := by unfold textN; rw [if_pos c1]
    have c1' : ¬ ((checkL l : Int) = 0) := by omega
    go_enter Try.func94, Try.ntmps94
    go_wp2_with fail
    refine (rcheck_any hH.out hn).mono ?_
    rintro e w1 ⟨rfl, rfl⟩
    go_wp2_with fail
    go_ret2
    rw [hP]
    exact ⟨rfl, Below.refl _ _⟩
end Go.Proofs.Ytffdcfannnmjnaa
