/- Layer 1: pieces joined; digits. -/
import Derived.Test.YtffdcfannnmjnaaNumA
import Derived.Test.YtffdcfannnmjnaaBld
namespace Go.Proofs.Ytffdcfannnmjnaa
open Go.RowKit
theorem flat_take (Xs : List (List UInt8)) (k : Nat) (h : k < Xs.length) : (Xs.take (k + 1)).flatten = (Xs.take k).flatten ++ Xs[k] := by
  rw [List.take_succ_eq_append_getElem h, List.flatten_append]; simp
theorem flat_le (Xs : List (List UInt8)) (k : Nat) : (Xs.take k).flatten.length ≤ Xs.flatten.length := by
  have := congrArg List.length (congrArg List.flatten (List.take_append_drop k Xs))
  rw [List.flatten_append, List.length_append] at this; omega
set_option maxHeartbeats 4000000 in
set_option maxRecDepth 100000 in
theorem octJoin {w : World} {gl : Nat} (vals : List Value) (Xs : List (List UInt8)) (hG : Blk w gl 27 (0, 0) vals) (hl : vals.length = Xs.length) (hv : ∀ (j : Nat) (X : List UInt8), Xs[j]? = some X → ∃ a n c, vals[j]? = some (.slice a n c) ∧ Rd byteE w a n c X) (hsum : Xs.flatten.length ≤ 140737488355328) (hN : Xs.length ≤ 100) :
    Calls Try.prog 59 #[.slice (some ⟨gl, 0, none⟩) Xs.length Xs.length] w fun e w' => (∃ v, e = .returned v ∧ Own byteE w' w.heap.size v Xs.flatten) ∧ Below w.heap.size w w' := by
  obtain ⟨i0, hi, hz0, hz1, hz2⟩ := info_parts Try.info5
  have hG' := Lib.hid hG
  have hv' := Lib.hid hv
  have hs' := Lib.hid hsum
  clear hG hv hsum
  generalize hNN : Xs.length = N at *
  have hNh := Lib.hid hNN
  clear hNN
  go_enter Try.func59, Try.ntmps59
  go_wp2_with fail
  go_loopw [3, 8] (fun v i wr => ∃ k : Nat, k ≤ N ∧ i = .int .i64 k ∧ Own byteE wr w.heap.size v (Xs.take k).flatten ∧ Below w.heap.size w wr)
    (fun _ i _ => N - (intOf i).toNat)
  case atStart => exact ⟨0, Nat.zero_le _, rfl, Own.nil _ _ _, Below.refl _ _⟩
  case round =>
    obtain ⟨k, hk, rfl, ho, hb⟩ := hrel
    obtain ⟨a1, cap1, rfl⟩ := ho.shape
    have ho' := Lib.hid ho
    clear ho
    by_cases hlt : k < N
    · have hkx : k < Xs.length := by rw [hNh.out]; exact hlt
      obtain ⟨a, n, c, hc1, hr⟩ := hv'.out k Xs[k] (List.getElem?_eq_getElem hkx)
      have hcell : wr.cell? ⟨gl, k, none⟩ = some (.slice a n c) := (hb.cell (p := ⟨gl, k, none⟩) hG'.out.lt).trans (by rw [hG'.out.cell]; exact hc1)
      have hsrc := Lib.hid ((hr.ext hb).src (P := Try.prog) (tx := 27) Try.underlying27)
      have htk := flat_take Xs k hkx
      have hle := flat_le Xs (k + 1)
      rw [htk, List.length_append] at hle
      have htk' := Lib.hid htk
      have hkI : (k : Int) < N := by omega
      generalize hX : Xs[k] = X at *
      generalize hD : (Xs.take k).flatten = D at *
      have hle' := Lib.hid hle
      clear hc1 htk hle hr hD hX
      go_wp2_with (at_builtin; refine app_own (E := byteE) rfl (.tmp 12) (.tmp 13) 27 27 rfl Try.underlying27 hi hz0 hz1 hz2 rfl rfl ho'.out rfl hsrc.out ?c1 ?c2 hb.size ?_)
      case c1 => have := hle'.out; have := hs'.out; simp [maxLen]; omega
      case c2 => have := hle'.out; have := hs'.out; simp; omega
      intro v3 w3 h3 hg3 _
      obtain ⟨a3, cap3, hv3⟩ := h3.shape
      subst hv3
      have hb3 : Below w.heap.size w w3 := own_below hb hg3 ho'.out hb.size (Nat.le_refl _)
      have h3' := Lib.hid h3
      clear h3
      go_wp2_with fail
      go_roundw
      case rel => exact ⟨k + 1, by omega, by go_num, by rw [htk'.out]; simpa using h3'.out, hb3⟩
      case measure => simp [intOf]; omega
    · have hk' : Xs.take k = Xs := List.take_of_length_le (by have := hNh.out; omega)
      rw [hk'] at ho'
      have hk2 : k = N := by omega
      subst hk2
      rw [hk']
      clear hk'
      go_wp2_with fail
      go_ret
      exact ⟨⟨_, rfl, ho'.out⟩, hb⟩
def dg (i : Nat) : UInt8 := if i < 10 then UInt8.ofNat (48 + i) else UInt8.ofNat (87 + i)
def hexC (c : UInt8) : List UInt8 := [dg (c.toNat / 16), dg (c.toNat % 16)]
def hexL (l : List UInt8) : List UInt8 := l.flatMap hexC
theorem dgs_get (i : Nat) (h : i < 16) : (({ data := #[48, 49, 50, 51, 52, 53, 54, 55, 56, 57, 97, 98, 99, 100, 101, 102] } : ByteArray)[i]'h) = dg i := by
  have : ∀ j : Fin 16, (({ data := #[48, 49, 50, 51, 52, 53, 54, 55, 56, 57, 97, 98, 99, 100, 101, 102] } : ByteArray)[j.1]'j.2) = dg j.1 := by decide
  exact this ⟨i, h⟩
theorem hexL_len (l : List UInt8) : (hexL l).length = 2 * l.length := by
  induction l with
  | nil => rfl
  | cons c r ih => simp only [hexL, List.flatMap_cons, List.length_append, hexC, List.length_cons, List.length_nil] at ih ⊢; omega
theorem hexL_take (l : List UInt8) (k : Nat) (h : k < l.length) : hexL (l.take (k + 1)) = hexL (l.take k) ++ [dg (l[k].toNat / 16)] ++ [dg (l[k].toNat % 16)] := by
  rw [List.take_succ_eq_append_getElem h, hexL, List.flatMap_append]; simp [hexL, hexC]
set_option maxHeartbeats 4000000 in
set_option maxRecDepth 100000 in
theorem hex_any {w : World} {a : Option Addr} {n c : Nat} {l : List UInt8} (h : Rd byteE w a n c l) (hn : n ≤ 1048576) :
    Calls Try.prog 63 #[.slice a n c] w fun e w' => e = .returned (.string (mk (hexL l))) ∧ Below w.heap.size w w' := by
  have hl := h.len
  subst hl
  have hH := Lib.hid h
  clear h
  go_enter Try.func63, Try.ntmps63
  go_wp2_with fail
  obtain ⟨w0, hw0⟩ : ∃ w0, Hid (w0 = w.alloc (Obj.cells #[Value.pointer none, Value.slice none 0 0] 132)) := ⟨_, rfl⟩
  rw [← hw0.out]
  have hsz : w0.heap.size = w.heap.size + 1 := by rw [hw0.out]; simp
  have hbelow : Below w.heap.size w w0 := by rw [hw0.out]; exact (Below.refl _ w).alloc (Nat.le_refl _) _
  have hbld : Bld (w.heap.size + 1) w0 w.heap.size [] := by rw [hw0.out]; exact Bld.new _ w
  have hbelow' := Lib.hid hbelow
  clear hbelow
  have hZ := Lib.hid hsz; clear hsz
  go_loopw [8] (fun i wr => ∃ k : Nat, k ≤ l.length ∧ i = .int .i64 k ∧ Bld (w.heap.size + 1) wr w.heap.size (hexL (l.take k)) ∧ Ex (w.heap.size + 1) w.heap.size w0 wr)
    (fun i _ => l.length - (intOf i).toNat)
  case atStart => exact ⟨0, Nat.zero_le _, rfl, hbld, Ex.refl _ _ _⟩
  case round =>
    obtain ⟨k, hk, rfl, hB, hex⟩ := hrel
    have hsz := hex.size
    have hz := hZ.out
    have hbw : Below w.heap.size w wr := hbelow'.out.trans (hex.below (by omega) (Nat.le_refl _))
    by_cases hlt : k < l.length
    · obtain ⟨b, o, rfl, hcs⟩ := rd_byte (hH.out.ext hbw) (by omega)
      have hck := hcs k hlt
      have htk := Lib.hid (hexL_take l k hlt)
      have hdl := hexL_len (l.take k)
      rw [List.length_take] at hdl
      replace hdl : (hexL (l.take k)).length ≤ 2097152 := by omega
      have hcb : (l[k].toNat : Int) < 256 := by have := l[k].toNat_lt; omega
      clear hz hbld hcs
      generalize hX : l[k] = X at *
      go_wp2_with fail
      refine (bld_byte _ hB (by omega) (by have := hZ.out; omega)).mono ?_
      rintro e w1 ⟨rfl, hB1, hex1⟩
      rw [dgs_get _ (by omega)] at hB1
      have hB1' := Lib.hid hB1
      clear hB1
      go_wp2_with fail
      refine (bld_byte _ hB1'.out (by simp; omega) (by have := hex1.size; have := hZ.out; omega)).mono ?_
      rintro e w2 ⟨rfl, hB2, hex2⟩
      rw [dgs_get _ (by omega)] at hB2
      have hB2' := Lib.hid hB2
      clear hB2
      go_wp2_with fail
      go_roundw
      case rel => exact ⟨k + 1, by omega, by go_num, by rw [htk.out]; exact hB2'.out, hex.trans (hex1.trans hex2)⟩
      case measure => simp [intOf]; omega
    · have hk' : l.take k = l := List.take_of_length_le (by omega)
      rw [hk'] at hB
      clear hk' hz
      go_wp2_with fail
      refine (bld_done hB (by omega)).mono ?_
      rintro e w1 ⟨rfl, hb1⟩
      go_wp2_with fail
      go_ret
      exact ⟨rfl, hbw.trans hb1⟩
/-- digit i of the text: its value -/
def nib (l : List UInt8) (i : Nat) : Nat := if i % 2 = 0 then (l.getD (i / 2) 0).toNat / 16 else (l.getD (i / 2) 0).toNat % 16
theorem nib_lt (l : List UInt8) (i : Nat) : nib l i < 16 := by
  unfold nib
  have := (l.getD (i / 2) 0).toNat_lt
  split <;> omega
theorem hexL_get : ∀ (l : List UInt8) (i : Nat) (h : i < (hexL l).length), (hexL l)[i] = dg (nib l i)
  | [], i, h => by simp [hexL] at h
  | c :: r, 0, _ => rfl
  | c :: r, 1, _ => rfl
  | c :: r, i + 2, h => by
    have h2 : i < (hexL r).length := by have a := hexL_len (c :: r); have b := hexL_len r; simp at a; omega
    have := hexL_get r i h2
    have e : hexL (c :: r) = dg (c.toNat / 16) :: dg (c.toNat % 16) :: hexL r := rfl
    simp only [e, List.getElem_cons_succ, this]
    congr 1
    unfold nib
    have e1 : (i + 2) / 2 = i / 2 + 1 := by omega
    have e2 : (i + 2) % 2 = i % 2 := by omega
    rw [e1, e2]; rfl
def digS : List UInt8 := [48, 49, 50, 51, 52, 53, 54, 55, 56, 57, 97, 98, 99, 100, 101, 102]
theorem idx_dg (v : Nat) (h : v < 16) : Lib.indexByte digS (dg v) = v := by
  have : ∀ j : Fin 16, Lib.indexByte digS (dg j.1) = (j.1 : Int) := by decide
  exact this ⟨v, h⟩
theorem dg_range (v : Nat) (h : v < 16) : (48 ≤ (dg v).toNat ∧ (dg v).toNat ≤ 57) ∨ (97 ≤ (dg v).toNat ∧ (dg v).toNat ≤ 102) := by
  have : ∀ j : Fin 16, (48 ≤ (dg j.1).toNat ∧ (dg j.1).toNat ≤ 57) ∨ (97 ≤ (dg j.1).toNat ∧ (dg j.1).toNat ≤ 102) := by decide
  exact this ⟨v, h⟩
theorem idx_any (c : UInt8) (w : World) : Calls Try.prog 114 #[.string { data := #[48, 49, 50, 51, 52, 53, 54, 55, 56, 57, 97, 98, 99, 100, 101, 102] }, .int .u8 c.toNat] w fun e w' => e = .returned (.int .i64 (Lib.indexByte digS c)) ∧ w = w' := by
  refine (Try.strings_IndexByte _ _ _).mono ?_
  rintro e w' ⟨h, rfl⟩
  refine ⟨h.trans (ret_int ?_), rfl⟩
  congr 1
  simp
/-- place j when i digits have been read -/
def cv (l : List UInt8) (i j : Nat) : Nat := if 2 * j + 2 ≤ i then (l.getD j 0).toNat else if 2 * j + 1 = i then (l.getD j 0).toNat / 16 else 0
def cvs (l : List UInt8) (i : Nat) : List Value := (List.range l.length).map fun j => .int .u8 (cv l i j)
theorem cvs_zero (l : List UInt8) : cvs l 0 = List.replicate l.length (.int .u8 0) := by
  unfold cvs
  apply List.ext_getElem
  · simp
  · intro j h1 h2; simp [cv]
theorem cvs_all (l : List UInt8) : cvs l (2 * l.length) = u8s l := by
  unfold cvs u8s
  apply List.ext_getElem
  · simp
  · intro j h1 h2
    have hj : j < l.length := by simpa using h1
    simp only [List.getElem_map, List.getElem_range, cv]
    rw [if_pos (by omega)]
    simp [u8, hj]
theorem cvs_step (l : List UInt8) (i : Nat) : (cvs l i).set (i / 2) (.int .u8 (cv l (i + 1) (i / 2))) = cvs l (i + 1) := by
  unfold cvs
  apply List.ext_getElem
  · simp
  · intro j h1 h2
    by_cases hj : i / 2 = j
    · subst hj; simp
    · rw [List.getElem_set_ne hj]
      simp only [List.getElem_map, List.getElem_range]
      congr 2
      unfold cv
      by_cases a : 2 * j + 2 ≤ i
      · rw [if_pos a, if_pos (by omega)]
      · rw [if_neg a, if_neg (show ¬ 2 * j + 1 = i by omega), if_neg (show ¬ 2 * j + 2 ≤ i + 1 by omega), if_neg (show ¬ 2 * j + 1 = i + 1 by omega)]
theorem cv_new (l : List UInt8) (i : Nat) : cv l (i + 1) (i / 2) = cv l i (i / 2) * 16 % 256 + nib l i ∧ (cv l i (i / 2) * 16 % 256) % 16 = 0 ∧ cv l i (i / 2) < 16 := by
  have hb := (l.getD (i / 2) 0).toNat_lt
  unfold cv nib
  rcases Nat.mod_two_eq_zero_or_one i with h | h
  · rw [if_neg (by omega), if_pos (by omega), if_neg (by omega), if_neg (by omega), if_pos h]; simp
  · rw [if_pos (by omega), if_neg (by omega), if_pos (by omega), if_neg (by omega)]
    refine ⟨?_, by omega, by omega⟩
    omega
set_option maxHeartbeats 4000000 in
set_option maxRecDepth 100000 in
theorem unhex_ok {l : List UInt8} (hn : l.length ≤ 65535) (w : World) :
    Calls Try.prog 61 #[.string (mk (hexL l))] w fun e w' => e = .returned (.tuple #[.slice (some ⟨w.heap.size, 0, none⟩) l.length l.length, .int .i64 0]) ∧ Blk w' w.heap.size 5 (0, 0) (u8s l) ∧ Below w.heap.size w w' := by
  obtain ⟨i0, hi, hz0, hz1, hz2⟩ := info_parts Try.info5
  have hlen := hexL_len l
  have hmk : ∀ u : World, (Instr.makeSlice 27 (.int .i64 (l.length : Int)) (.int .i64 (l.length : Int))).run Try.prog u =
      .ok (.slice (some ⟨u.heap.size, 0, none⟩) l.length l.length) (u.alloc (.cells (madeCells #[.int .u8 0] l.length) 5)) := fun u => by
    have h := run_make (P := Try.prog) u 27 5 i0 (.int .u8 0) Try.underlying27 hi hz0 .i64 .i64 (l.length : Int) (l.length : Int) (by omega) (Int.le_refl _) (by rw [hz2]; omega) (by omega)
    rw [Int.toNat_natCast] at h
    simpa [hz1, Value.cells] using h
  go_enter Try.func61, Try.ntmps61
  have hget := Lib.hid fun i h => hexL_get l i h
  generalize hexL l = s at *
  go_wp2_with fail
  have hB0 := Blk.new w 5 (0, 0) (madeCells #[.int .u8 0] l.length)
  rw [madeCells_one, ← cvs_zero] at hB0
  have hB0' := Lib.hid hB0
  have hb0 : Below w.heap.size w (w.alloc (.cells (madeCells #[.int .u8 0] l.length) 5)) := (Below.refl _ _).alloc (Nat.le_refl _) _
  generalize w.alloc (.cells (madeCells #[.int .u8 0] l.length) 5) = w1 at *
  clear hB0 hmk
  obtain ⟨g, hg⟩ : ∃ g, Hid (w.heap.size = g) := ⟨_, Lib.hid rfl⟩
  rw [hg.out] at hB0' hb0 ⊢
  go_loopw [21] (fun iv wr => ∃ i : Nat, i ≤ 2 * l.length ∧ iv = .int .i64 i ∧ Hid (Blk wr g 5 (0, 0) (cvs l i)) ∧ Below g w wr)
    (fun iv _ => 2 * l.length - (intOf iv).toNat)
  case atStart => exact ⟨0, Nat.zero_le _, rfl, hB0', hb0⟩
  case round =>
    clear hB0' hb0
    obtain ⟨i, hi1, rfl, hB, hb⟩ := hrel
    by_cases hlt : i < 2 * l.length
    · have his : i < s.length := by omega
      have hD := hget.out i his
      have hv := nib_lt l i
      have hdr := dg_range (nib l i) hv
      have hix := idx_dg (nib l i) hv
      rw [← hD] at hdr hix
      obtain ⟨hn1, hn2, hn3⟩ := cv_new l i
      have hst := Lib.hid (hB.out.set (i / 2) (.int .u8 (cv l (i + 1) (i / 2))))
      have hcell : wr.cell? ⟨g, i / 2, none⟩ = some (.int .u8 (cv l i (i / 2))) := by
        rw [hB.out.cell, cvs, List.getElem?_map, List.getElem?_range (by omega)]; rfl
      have hfr : wr.frozen? ⟨g, i / 2, none⟩ = false := by rw [hB.out.frozen]; simp
      have hnew := Lib.hid hn1
      have hstep := Lib.hid (cvs_step l i)
      have hor : Hid (bits .or .u8 ((cv l i (i / 2) : Int) * 16) (nib l i : Int) = (cv l (i + 1) (i / 2) : Int)) := by
        refine Lib.hid ?_
        have h1 := u8_or_nat (cv l i (i / 2) * 16) (nib l i) (by omega) (by omega)
        rw [nat_join4 _ _ (by omega) (by omega)] at h1
        have h2 : cv l i (i / 2) * 16 + nib l i = cv l (i + 1) (i / 2) := by omega
        rw [h2] at h1
        rw [← h1, Int.natCast_mul]; rfl
      have hiI : (i : Int) < 2 * (l.length : Int) := by omega
      have hiI2 : (i : Int) < s.length := by omega
      have hq : (i : Int) / 2 < l.length := by omega
      have hqn : ((i : Int) / 2).toNat = i / 2 := by omega
      generalize hDD : s[i]'his = D at *
      generalize nib l i = v at *
      generalize cv l i (i / 2) = old at *
      generalize cv l (i + 1) (i / 2) = new at *
      clear hn1 hD
      rcases hdr with ⟨hd1, hd2⟩ | ⟨hd1, hd2⟩
      · have hd1' : (48 : Int) ≤ (D.toNat : Int) := by omega
        have hd2' : (D.toNat : Int) ≤ 57 := by omega
        go_wp2_with fail
        refine (idx_any D wr).mono ?_
        rw [hix]
        rintro e w2 ⟨rfl, rfl⟩
        go_wp2_with fail
        rw [hor.out]
        go_roundw
        case rel => exact ⟨i + 1, by omega, by go_num, by rw [hstep.out] at hst; exact hst, hb.setCell (Nat.le_refl _) _⟩
        case measure => simp [intOf]; omega
      · have hd1' : (97 : Int) ≤ (D.toNat : Int) := by omega
        have hd2' : (D.toNat : Int) ≤ 102 := by omega
        go_wp2_with fail
        refine (idx_any D wr).mono ?_
        rw [hix]
        rintro e w2 ⟨rfl, rfl⟩
        go_wp2_with fail
        rw [hor.out]
        go_roundw
        case rel => exact ⟨i + 1, by omega, by go_num, by rw [hstep.out] at hst; exact hst, hb.setCell (Nat.le_refl _) _⟩
        case measure => simp [intOf]; omega
    · have hi2 : i = 2 * l.length := by omega
      rw [hi2, cvs_all] at hB
      go_wp2_with fail
      ((try simp only [Exit.inBlock, Exit.then]); refine bodyPost_ret (results_tmp2 rfl _ _ _) rfl ?_)
      rw [hg.out]
      exact ⟨rfl, hB.out, hb⟩
end Go.Proofs.Ytffdcfannnmjnaa
