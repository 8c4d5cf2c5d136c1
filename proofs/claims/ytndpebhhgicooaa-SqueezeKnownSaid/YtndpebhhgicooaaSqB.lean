/- The bytes of a name: name.Bytes 41 (turned from the seat of the names). -/
import Derived.Test.YtndpebhhgicooaaSqA
namespace Go.Proofs.Ytndpebhhgicooaa
open Go.RowKit
def octs (l : Nm) : List UInt8 := l.flatMap fun s => UInt8.ofNat s.length :: s
def octL (l : Nm) : List UInt8 := octs l ++ [0]
theorem octs_take (l : Nm) (k : Nat) (h : k < l.length) : octs (l.take (k + 1)) = octs (l.take k) ++ (UInt8.ofNat l[k].length :: l[k]) := by
  rw [List.take_succ_eq_append_getElem h, octs, List.flatMap_append]; simp [octs]
theorem octs_len (l : Nm) : (octs l).length + 1 = sizeL l := by
  induction l with
  | nil => rfl
  | cons s r ih => simp only [octs, sizeL, List.flatMap_cons, List.map_cons, List.sum_cons, List.length_append, List.length_cons] at ih ⊢; omega
theorem octL_len (l : Nm) : (octL l).length = sizeL l := by rw [← octs_len]; simp [octL]
theorem octs_split (l : Nm) (k : Nat) (h : k < l.length) : octs l = octs (l.take k) ++ (UInt8.ofNat l[k].length :: l[k]) ++ octs (l.drop (k + 1)) := by
  have e : l = l.take k ++ l[k] :: l.drop (k + 1) := by rw [← List.drop_eq_getElem_cons h, List.take_append_drop]
  have : octs l = octs (l.take k ++ l[k] :: l.drop (k + 1)) := by rw [← e]
  rw [this]; simp only [octs, List.flatMap_append, List.flatMap_cons, List.append_assoc, List.cons_append]
theorem src_str {P : Program} {w : World} {tx : TypeId} (hk : P.underlying tx = some .string) (l : List UInt8) : Src P byteE.k tx (.string (mk l)) l.length (rowOf byteE l) w := by
  have h := Src.ofString (P := P) (w := w) hk (mk l)
  rw [rowOf_byte]; exact h
theorem u8_of (n : Nat) (h : n < 256) : ((UInt8.ofNat n).toNat : Int) = n := by simp; omega
set_option maxHeartbeats 4000000 in
set_option maxRecDepth 100000 in
theorem bytes_ok {w : World} {a : Option Addr} {n c : Nat} {l : Nm} (h : Rd strE w a n c l) (c1 : checkL l = 0) :
    Calls Try.prog 41 #[.slice a n c] w fun e w' => (∃ v, e = .returned (.tuple #[v, .int .i64 0]) ∧ Own byteE w' w.heap.size v (octL l)) ∧ Below w.heap.size w w' := by
  obtain ⟨i0, hi, hz0, hz1, hz2⟩ := info_parts Try.info5
  have hl := h.len
  subst hl
  have b1 := checkL_len c1
  have b2 := Lib.hid (checkL_63 c1)
  have b3 := Lib.hid (checkL_zero c1).2
  have hH := Lib.hid h
  clear h
  go_enter Try.func41, Try.ntmps41
  go_wp2_with fail
  refine (check_any hH.out (by omega)).mono ?_
  rw [c1]
  rintro e w1 ⟨rfl, rfl⟩
  go_wp2_with fail
  go_loopw [5, 15] (fun v i wr => ∃ k : Nat, k ≤ l.length ∧ i = .int .i64 k ∧ Own byteE wr w.heap.size v (octs (l.take k)) ∧ Below w.heap.size w wr)
    (fun _ i _ => l.length - (intOf i).toNat)
  case atStart => exact ⟨0, Nat.zero_le _, rfl, Own.nil _ _ _, Below.refl _ _⟩
  case round =>
    obtain ⟨k, hk, rfl, ho, hb⟩ := hrel
    have hsz : (octs (l.take k)).length ≤ 255 := by
      have h1 := octs_len (l.take k)
      have h2 := sizeL_le l k
      have := b3.out
      omega
    obtain ⟨a1, cap1, rfl⟩ := ho.shape
    by_cases hlt : k < l.length
    · obtain ⟨b, o, rfl, hcs⟩ := rd_str (hH.out.ext hb) (by omega)
      have hck := hcs k hlt
      have htk := Lib.hid (octs_take l k hlt)
      have hel := b2.out _ (List.getElem_mem hlt)
      clear hcs
      generalize hX : l[k] = X at *
      generalize hD : octs (l.take k) = D at *
      have ho' := Lib.hid ho
      clear ho hX hD
      have hlit := src_lit (P := Try.prog) (E := byteE) (w := wr) (tx := 22) Try.underlying22 #[.int .u8 X.length] [UInt8.ofNat X.length] 1 rfl (by rw [rowOf_byte]; simp [u8s, u8]; omega)
      have hb2 : Below w.heap.size w (wr.alloc (.cells #[.int .u8 X.length] 5)) := hb.alloc hb.size _
      have ho2 := ho'.out.ext ((Below.refl _ _).alloc (Nat.le_refl _) (.cells #[.int .u8 X.length] 5))
      have ho2' := Lib.hid ho2
      have hlit' := Lib.hid hlit
      clear hlit ho2
      have hX256 : (X.length : Int) ≤ 63 := by omega
      go_wp2_with (at_builtin; refine app_own (E := byteE) rfl (.tmp 19) (.tmp 23) 22 22 rfl Try.underlying22 hi hz0 hz1 hz2 rfl rfl ho2'.out rfl hlit'.out ?c1 ?c2 hb2.size ?_)
      case c1 => simp [maxLen]; omega
      case c2 => simp; omega
      intro v3 w3 h3 hg3 _
      obtain ⟨a3, cap3, hv3⟩ := h3.shape
      subst hv3
      have hb3 : Below w.heap.size w w3 := own_below hb2 hg3 ho2'.out hb2.size (Nat.le_refl _)
      have h3s : Hid (Own byteE w3 w.heap.size (.slice a3 (D.length + 1) cap3) (D ++ [UInt8.ofNat X.length])) := Lib.hid (by simpa using h3)
      have h3' := Lib.hid h3
      clear h3
      go_wp2_with (at_builtin; refine app_own (E := byteE) rfl (.tmp 24) (.tmp 25) 22 9 rfl Try.underlying22 hi hz0 hz1 hz2 rfl rfl h3'.out rfl (src_str Try.underlying9 X) ?d1 ?d2 hb3.size ?_)
      case d1 => simp [maxLen]; omega
      case d2 => simp; omega
      intro v4 w4 h4 hg4 _
      obtain ⟨a4, cap4, hv4⟩ := h4.shape
      subst hv4
      have hb4 : Below w.heap.size w w4 := own_below hb3 hg4 h3s.out hb3.size (Nat.le_refl _)
      have h4' := Lib.hid h4
      clear h4
      go_wp2_with fail
      go_roundw
      case rel => exact ⟨k + 1, by omega, by go_num, by rw [htk.out]; simpa using h4'.out, hb4⟩
      case measure => simp [intOf]; omega
    · have hk' : k = l.length := by omega
      subst hk'
      rw [List.take_length] at ho hsz
      have ho' := Lib.hid ho
      clear ho
      have hlit := src_lit (P := Try.prog) (E := byteE) (w := wr) (tx := 22) Try.underlying22 #[.int .u8 0] [0] 1 rfl (by rw [rowOf_byte]; rfl)
      have hb2 : Below w.heap.size w (wr.alloc (.cells #[.int .u8 0] 5)) := hb.alloc hb.size _
      have ho2 := ho'.out.ext ((Below.refl _ _).alloc (Nat.le_refl _) (.cells #[.int .u8 0] 5))
      have ho2' := Lib.hid ho2
      have hlit' := Lib.hid hlit
      clear hlit ho2
      simp only [List.take_length]
      go_wp2_with (at_builtin; refine app_own (E := byteE) rfl (.tmp 28) (.tmp 29) 22 22 rfl Try.underlying22 hi hz0 hz1 hz2 rfl rfl ho2'.out rfl hlit'.out ?c1 ?c2 hb2.size ?_)
      case c1 => simp [maxLen]; omega
      case c2 => simp; omega
      intro v3 w3 h3 hg3 _
      have hb3 : Below w.heap.size w w3 := own_below hb2 hg3 ho2'.out hb2.size (Nat.le_refl _)
      have h3' := Lib.hid h3
      clear h3
      go_wp2_with fail
      go_ret2
      exact ⟨⟨_, rfl, h3'.out⟩, hb3⟩
end Go.Proofs.Ytndpebhhgicooaa
