/- Layer 2, labels: the text of a label (label.Text). Texts of at most 2^40 bytes. -/
import Derived.Test.YtffdcfannnmjnaaLabel
import Derived.Test.YtffdcfannnmjnaaBld
namespace Go.Proofs.Ytffdcfannnmjnaa
open Go.RowKit

def specB (c : UInt8) : Bool := c == 46 || c == 92 || c == 34 || c == 59 || c == 40 || c == 41 || c == 64 || c == 36
def dec3 (c : UInt8) : List UInt8 := [92, UInt8.ofNat (48 + c.toNat / 100), UInt8.ofNat (48 + c.toNat / 10 % 10), UInt8.ofNat (48 + c.toNat % 10)]
def escL (c : UInt8) : List UInt8 := if c.toNat < 33 ∨ 126 < c.toNat then dec3 c else if specB c then [92, c] else [c]
def textL (l : List UInt8) : List UInt8 := l.flatMap escL

theorem idx_spec (c : UInt8) : (decide (0 ≤ Lib.indexByte [46, 92, 34, 59, 40, 41, 64, 36] c)) = specB c := by
  have h : ∀ n : Fin 256, decide (0 ≤ Lib.indexByte [46, 92, 34, 59, 40, 41, 64, 36] (UInt8.ofNat n.val)) = specB (UInt8.ofNat n.val) := by decide +kernel
  have := h ⟨c.toNat, c.toNat_lt⟩
  simpa using this
theorem spec_range (c : UInt8) (h : specB c = true) : 33 ≤ c.toNat ∧ c.toNat ≤ 126 := by
  have k : ∀ n : Fin 256, specB (UInt8.ofNat n.val) = true → 33 ≤ (UInt8.ofNat n.val).toNat ∧ (UInt8.ofNat n.val).toNat ≤ 126 := by decide +kernel
  have := k ⟨c.toNat, c.toNat_lt⟩
  simp at this; exact this h

theorem indexByte_any (c : UInt8) (w : World) : Calls Try.prog 114 #[.string { data := #[46, 92, 34, 59, 40, 41, 64, 36] }, .int .u8 c.toNat] w fun e w' => e = .returned (.int .i64 (Lib.indexByte [46, 92, 34, 59, 40, 41, 64, 36] c)) ∧ w = w' := by
  refine (Try.strings_IndexByte _ _ _).mono ?_
  rintro e w' ⟨h, rfl⟩
  refine ⟨h.trans (ret_int ?_), rfl⟩
  congr 1
  simp

set_option maxHeartbeats 2000000 in
set_option maxRecDepth 100000 in
theorem escape_any (c : UInt8) (w : World) : Calls Try.prog 120 #[.int .u8 c.toNat] w fun e w' => e = .returned (.string (mk (escL c))) ∧ Below w.heap.size w w' := by
  have hi := idx_spec c
  cases hs : specB c with
  | true =>
    have hr := spec_range c hs
    have he : escL c = [92, c] := by unfold escL; rw [if_neg (by omega), if_pos hs]
    rw [hs] at hi
    replace hi : 0 ≤ Lib.indexByte [46, 92, 34, 59, 40, 41, 64, 36] c := by simpa using hi
    rw [he]
    clear he hs
    have hcv := run_str (P := Try.prog) (w.alloc (.cells #[.int .u8 92, .int .u8 c.toNat] 5)) 27 9 5 Try.underlying27 Try.underlying5 Try.underlying9 w.heap.size 0 2 2 [92, c] rfl (by
      intro j hj
      match j, hj with
      | 0, _ => rw [World.cell?_alloc_mark]; rfl
      | 1, _ => rw [World.cell?_alloc_mark]; rfl)
    go_enter Try.func120, Try.ntmps120
    go_wp2_with fail
    refine (indexByte_any c w).mono ?_
    rintro e w1 ⟨rfl, rfl⟩
    generalize Lib.indexByte [46, 92, 34, 59, 40, 41, 64, 36] c = I at *
    go_wp2_with fail
    go_ret
    exact ⟨rfl, (Below.refl _ _).alloc (Nat.le_refl _) _⟩
  | false =>
    rw [hs] at hi
    by_cases h : c.toNat < 33 ∨ 126 < c.toNat
    · have he : escL c = dec3 c := by unfold escL; rw [if_pos h]
      rw [he]
      clear he hs
      have hd : u8s (dec3 c) = [.int .u8 92, .int .u8 (48 + (c.toNat : Int) / 100), .int .u8 (48 + (c.toNat : Int) / 10 % 10), .int .u8 (48 + (c.toNat : Int) % 10)] := by
        have := c.toNat_lt
        simp [dec3, u8s, u8]; omega
      have hcv := run_str (P := Try.prog) (w.alloc (.cells #[.int .u8 92, .int .u8 (48 + (c.toNat : Int) / 100), .int .u8 (48 + (c.toNat : Int) / 10 % 10), .int .u8 (48 + (c.toNat : Int) % 10)] 5)) 27 9 5 Try.underlying27 Try.underlying5 Try.underlying9 w.heap.size 0 4 4 (dec3 c) rfl (by
        intro j hj
        have e : (u8s (dec3 c))[j]? = some (u8 (dec3 c)[j]) := by simp [u8s, hj]
        rw [hd] at e
        rw [World.cell?_alloc_mark, Nat.zero_add, ← e]; simp)
      clear hd
      have hlt : (c.toNat : Int) < 256 := by have := c.toNat_lt; omega
      have hx : decide ((33 : Int) ≤ c.toNat) = false ∨ decide ((c.toNat : Int) ≤ 126) = false := by simp; omega
      clear h
      rcases hx with hx | hx
      all_goals
        go_enter Try.func120, Try.ntmps120
        go_wp2_with fail
        refine (indexByte_any c w).mono ?_
        rintro e w1 ⟨rfl, rfl⟩
        generalize Lib.indexByte [46, 92, 34, 59, 40, 41, 64, 36] c = I at *
        go_wp2_with fail
        all_goals
          go_ret
          exact ⟨rfl, (Below.refl _ _).alloc (Nat.le_refl _) _⟩
    · have he : escL c = [c] := by unfold escL; rw [if_neg h, hs]; rfl
      rw [he]
      clear he hs
      have hcv := run_str (P := Try.prog) (w.alloc (.cells #[.int .u8 c.toNat] 5)) 27 9 5 Try.underlying27 Try.underlying5 Try.underlying9 w.heap.size 0 1 1 [c] rfl (by
        intro j hj
        match j, hj with
        | 0, _ => rw [World.cell?_alloc_mark]; rfl)
      go_enter Try.func120, Try.ntmps120
      go_wp2_with fail
      refine (indexByte_any c w).mono ?_
      rintro e w1 ⟨rfl, rfl⟩
      generalize Lib.indexByte [46, 92, 34, 59, 40, 41, 64, 36] c = I at *
      go_wp2_with fail
      go_ret
      exact ⟨rfl, (Below.refl _ _).alloc (Nat.le_refl _) _⟩
theorem escL_len (c : UInt8) : 1 ≤ (escL c).length ∧ (escL c).length ≤ 4 := by
  unfold escL dec3; split
  · simp
  · split <;> simp
theorem textL_len (l : List UInt8) : (textL l).length ≤ 4 * l.length := by
  induction l with
  | nil => simp [textL]
  | cons c r ih => have := escL_len c; simp [textL, List.flatMap_cons] at *; omega
theorem textL_take (l : List UInt8) (k : Nat) (h : k < l.length) : textL (l.take (k+1)) = textL (l.take k) ++ escL l[k] := by
  rw [List.take_succ_eq_append_getElem h, textL, List.flatMap_append]; simp [textL]

set_option maxHeartbeats 2000000 in
set_option maxRecDepth 100000 in
theorem text_any (l : List UInt8) (w : World) (hs : l.length ≤ 1099511627776) :
    Calls Try.prog 69 #[.string (mk l)] w fun e w' => e = .returned (.string (mk (textL l))) ∧ Below w.heap.size w w' := by
  have hcv := fun w s => run_bytes_of_string (P := Try.prog) w 9 27 5 s Try.underlying9 Try.underlying27 Try.underlying5
  go_enter Try.func69, Try.ntmps69
  go_wp2
  clear hcv
  generalize grownCap (w.alloc (Obj.cells #[Value.pointer none, Value.slice none 0 0] 132)) l.length 0 5 = cap
  obtain ⟨w0, hw0⟩ : ∃ w0, Hid (w0 = ((w.alloc (Obj.cells #[Value.pointer none, Value.slice none 0 0] 132)).alloc (Obj.cells (bytesRow (mk l) cap) 5 ((bytesRow (mk l) cap).size, (bytesRow (mk l) cap).size + 1))).drew) := ⟨_, rfl⟩
  rw [← hw0.out]
  have hsz : w0.heap.size = w.heap.size + 2 := by rw [hw0.out]; simp
  have hbelow : Below w.heap.size w w0 := by
    rw [hw0.out]; exact ((((Below.refl _ w).alloc (Nat.le_refl _) _).alloc (by simp) _)).drew
  have hbld : Bld (w.heap.size + 2) w0 w.heap.size [] := by
    rw [hw0.out]; exact ((Bld.new _ w).ext ((Below.refl _ _).alloc (Nat.le_refl _) _) : Bld _ _ _ _)
  have hrow : Blk w0 (w.heap.size + 1) 5 ((bytesRow (mk l) cap).size, (bytesRow (mk l) cap).size + 1) (u8s l ++ List.replicate (cap - l.length) (.int .u8 0)) := by
    rw [hw0.out, ← bytesRow_mk]
    have := Blk.new (w.alloc (Obj.cells #[Value.pointer none, Value.slice none 0 0] 132)) 5 ((bytesRow (mk l) cap).size, (bytesRow (mk l) cap).size + 1) (bytesRow (mk l) cap)
    simpa using this.drew
  have hS := Lib.hid hrow; clear hrow
  have hZ := Lib.hid hsz; clear hsz
  go_loopw [9] (fun i wr => ∃ k : Nat, k ≤ l.length ∧ i = .int .i64 k ∧ Bld (w.heap.size + 2) wr w.heap.size (textL (l.take k)) ∧ Ex (w.heap.size + 2) w.heap.size w0 wr)
    (fun i _ => l.length - (intOf i).toNat)
  case atStart => exact ⟨0, Nat.zero_le _, rfl, hbld, Ex.refl _ _ _⟩
  case round =>
    obtain ⟨k, hk, rfl, hB, hex⟩ := hrel
    have hsz := hex.size
    have hz := hZ.out
    by_cases hlt : k < l.length
    · have hc : wr.cell? ⟨w.heap.size + 1, k, none⟩ = some (u8 l[k]) := by
        rw [(hex.blk hS.out (by omega) (by omega)).cell, List.getElem?_append_left (by simp [u8s]; omega)]
        simp [u8s, hlt]
      unfold u8 at hc
      have htk := Lib.hid (textL_take l k hlt)
      have hel := escL_len l[k]
      have htl := textL_len (l.take k)
      rw [List.length_take] at htl
      replace htl : (textL (l.take k)).length ≤ 4 * l.length := by omega
      clear hz hbld
      go_wp2_with fail
      refine (escape_any l[k] wr).mono ?_
      rintro e w1 ⟨rfl, hb1⟩
      go_wp2_with fail
      refine (bld_string (escL l[k]) (hB.ext hb1) (by omega) (by have := hb1.size; have := hZ.out; omega)).mono ?_
      rintro e w2 ⟨rfl, hB2, hex2⟩
      go_wp2_with fail
      go_roundw
      case rel => exact ⟨k + 1, by omega, by go_num, by rw [htk.out]; exact hB2, hex.trans (((Ex.of_below hb1).mono (by have := hZ.out; omega)).trans hex2)⟩
      case measure => simp [intOf]; omega
    · have hk' : l.take k = l := List.take_of_length_le (by omega)
      rw [hk'] at hB
      clear hk' hz
      go_wp2_with fail
      refine (bld_done hB (by omega)).mono ?_
      rintro e w1 ⟨rfl, hb1⟩
      go_wp2_with fail
      go_ret
      exact ⟨rfl, hbelow.trans ((hex.below (by omega) (Nat.le_refl _)).trans hb1)⟩
end Go.Proofs.Ytffdcfannnmjnaa
