/- Layer 3: bytes of names, and names in bytes: where the name may be. -/
import Derived.Test.YtffdcfannnmjnaaNameJ
namespace Go.Proofs.Ytffdcfannnmjnaa
open Go.RowKit
def octs (l : Nm) : List UInt8 := l.flatMap fun s => UInt8.ofNat s.length :: s
def octL (l : Nm) : List UInt8 := octs l ++ [0]
theorem octs_take (l : Nm) (k : Nat) (h : k < l.length) : octs (l.take (k + 1)) = octs (l.take k) ++ (UInt8.ofNat l[k].length :: l[k]) := by
  rw [List.take_succ_eq_append_getElem h, octs, List.flatMap_append]; simp [octs]
theorem octs_len (l : Nm) : (octs l).length + 1 = sizeL l := by
  induction l with
  | nil => rfl
  | cons s r ih => simp only [octs, sizeL, List.flatMap_cons, List.map_cons, List.sum_cons, List.length_append, List.length_cons] at ih ⊢; omega
theorem octL_len (l : Nm) : (octL l).length = sizeL l := by rw [← octs_len]; simp [octL]
theorem octs_split (l : Nm) (k : Nat) (h : k < l.length) : octs l = octs (l.take k) ++ (UInt8.ofNat l[k].length :: l[k]) ++ octs (l.drop (k + 1)) := by
  have e : l = l.take k ++ l[k] :: l.drop (k + 1) := by rw [← List.drop_eq_getElem_cons h, List.take_append_drop]
  have : octs l = octs (l.take k ++ l[k] :: l.drop (k + 1)) := by rw [← e]
  rw [this]; simp only [octs, List.flatMap_append, List.flatMap_cons, List.append_assoc, List.cons_append]
theorem src_str {P : Program} {w : World} {tx : TypeId} (hk : P.underlying tx = some .string) (l : List UInt8) : Src P byteE.k tx (.string (mk l)) l.length (rowOf byteE l) w := by
  have h := Src.ofString (P := P) (w := w) hk (mk l)
  rw [rowOf_byte]; exact h
theorem u8_of (n : Nat) (h : n < 256) : ((UInt8.ofNat n).toNat : Int) = n := by simp; omega
set_option maxHeartbeats 4000000 in
set_option maxRecDepth 100000 in
theorem bytes_ok {w : World} {a : Option Addr} {n c : Nat} {l : Nm} (h : Rd strE w a n c l) (c1 : checkL l = 0) :
    Calls Try.prog 45 #[.slice a n c] w fun e w' => (∃ v, e = .returned (.tuple #[v, .int .i64 0]) ∧ Own byteE w' w.heap.size v (octL l)) ∧ Below w.heap.size w w' := by
  obtain ⟨i0, hi, hz0, hz1, hz2⟩ := info_parts Try.info5
  have hl := h.len
  subst hl
  have b1 := checkL_len c1
  have b2 := Lib.hid (checkL_63 c1)
  have b3 := Lib.hid (checkL_zero c1).2
  have hH := Lib.hid h
  clear h
  go_enter Try.func45, Try.ntmps45
  go_wp2_with fail
  refine (check_any hH.out (by omega)).mono ?_
  rw [c1]
  rintro e w1 ⟨rfl, rfl⟩
  go_wp2_with fail
  go_loopw [5, 15] (fun v i wr => ∃ k : Nat, k ≤ l.length ∧ i = .int .i64 k ∧ Own byteE wr w.heap.size v (octs (l.take k)) ∧ Below w.heap.size w wr)
    (fun _ i _ => l.length - (intOf i).toNat)
  case atStart => exact ⟨0, Nat.zero_le _, rfl, Own.nil _ _ _, Below.refl _ _⟩
  case round =>
    obtain ⟨k, hk, rfl, ho, hb⟩ := hrel
    have hsz : (octs (l.take k)).length ≤ 255 := by
      have h1 := octs_len (l.take k)
      have h2 := sizeL_le l k
      have := b3.out
      omega
    obtain ⟨a1, cap1, rfl⟩ := ho.shape
    by_cases hlt : k < l.length
    · obtain ⟨b, o, rfl, hcs⟩ := rd_str (hH.out.ext hb) (by omega)
      have hck := hcs k hlt
      have htk := Lib.hid (octs_take l k hlt)
      have hel := b2.out _ (List.getElem_mem hlt)
      clear hcs
      generalize hX : l[k] = X at *
      generalize hD : octs (l.take k) = D at *
      have ho' := Lib.hid ho
      clear ho hX hD
      have hlit := src_lit (P := Try.prog) (E := byteE) (w := wr) (tx := 27) Try.underlying27 #[.int .u8 X.length] [UInt8.ofNat X.length] 1 rfl (by rw [rowOf_byte]; simp [u8s, u8]; omega)
      have hb2 : Below w.heap.size w (wr.alloc (.cells #[.int .u8 X.length] 5)) := hb.alloc hb.size _
      have ho2 := ho'.out.ext ((Below.refl _ _).alloc (Nat.le_refl _) (.cells #[.int .u8 X.length] 5))
      have ho2' := Lib.hid ho2
      have hlit' := Lib.hid hlit
      clear hlit ho2
      have hX256 : (X.length : Int) ≤ 63 := by omega
      go_wp2_with (at_builtin; refine app_own (E := byteE) rfl (.tmp 19) (.tmp 23) 27 27 rfl Try.underlying27 hi hz0 hz1 hz2 rfl rfl ho2'.out rfl hlit'.out ?c1 ?c2 hb2.size ?_)
      case c1 => simp [maxLen]; omega
      case c2 => simp; omega
      intro v3 w3 h3 hg3 _
      obtain ⟨a3, cap3, hv3⟩ := h3.shape
      subst hv3
      have hb3 : Below w.heap.size w w3 := own_below hb2 hg3 ho2'.out hb2.size (Nat.le_refl _)
      have h3s : Hid (Own byteE w3 w.heap.size (.slice a3 (D.length + 1) cap3) (D ++ [UInt8.ofNat X.length])) := Lib.hid (by simpa using h3)
      have h3' := Lib.hid h3
      clear h3
      go_wp2_with (at_builtin; refine app_own (E := byteE) rfl (.tmp 24) (.tmp 25) 27 9 rfl Try.underlying27 hi hz0 hz1 hz2 rfl rfl h3'.out rfl (src_str Try.underlying9 X) ?d1 ?d2 hb3.size ?_)
      case d1 => simp [maxLen]; omega
      case d2 => simp; omega
      intro v4 w4 h4 hg4 _
      obtain ⟨a4, cap4, hv4⟩ := h4.shape
      subst hv4
      have hb4 : Below w.heap.size w w4 := own_below hb3 hg4 h3s.out hb3.size (Nat.le_refl _)
      have h4' := Lib.hid h4
      clear h4
      go_wp2_with fail
      go_roundw
      case rel => exact ⟨k + 1, by omega, by go_num, by rw [htk.out]; simpa using h4'.out, hb4⟩
      case measure => simp [intOf]; omega
    · have hk' : k = l.length := by omega
      subst hk'
      rw [List.take_length] at ho hsz
      have ho' := Lib.hid ho
      clear ho
      have hlit := src_lit (P := Try.prog) (E := byteE) (w := wr) (tx := 27) Try.underlying27 #[.int .u8 0] [0] 1 rfl (by rw [rowOf_byte]; rfl)
      have hb2 : Below w.heap.size w (wr.alloc (.cells #[.int .u8 0] 5)) := hb.alloc hb.size _
      have ho2 := ho'.out.ext ((Below.refl _ _).alloc (Nat.le_refl _) (.cells #[.int .u8 0] 5))
      have ho2' := Lib.hid ho2
      have hlit' := Lib.hid hlit
      clear hlit ho2
      simp only [List.take_length]
      go_wp2_with (at_builtin; refine app_own (E := byteE) rfl (.tmp 28) (.tmp 29) 27 27 rfl Try.underlying27 hi hz0 hz1 hz2 rfl rfl ho2'.out rfl hlit'.out ?c1 ?c2 hb2.size ?_)
      case c1 => simp [maxLen]; omega
      case c2 => simp; omega
      intro v3 w3 h3 hg3 _
      have hb3 : Below w.heap.size w w3 := own_below hb2 hg3 ho2'.out hb2.size (Nat.le_refl _)
      have h3' := Lib.hid h3
      clear h3
      go_wp2_with fail
      go_ret2
      exact ⟨⟨_, rfl, h3'.out⟩, hb3⟩
set_option maxHeartbeats 4000000 in
set_option maxRecDepth 100000 in
theorem read_ok {M : Nat} (hM : 63 ≤ M) {w : World} {a : Option Addr} {n c : Nat} {l : Nm} {r : List UInt8} (h : Rd byteE w a n c (octL l ++ r)) (c1 : checkL l = 0) (hn : n ≤ 281474976710656) :
    Calls Try.prog 47 #[.slice a n c, .int .i64 0] w fun e w' => (∃ v, e = .returned (.tuple #[v, .int .i64 (sizeL l), .int .i64 0]) ∧ OwnT M w' w.heap.size v l) ∧ Below w.heap.size w w' := by
  have hl := h.len
  have hc := h.cap
  have hm := h.most
  simp only [maxLen] at hm
  have b1 := checkL_len c1
  have b2 := Lib.hid (checkL_63 c1)
  have b4 := Lib.hid (checkL_zero c1).1
  have b3 := Lib.hid (checkL_zero c1).2
  have hq : (octL l ++ r).length = sizeL l + r.length := by rw [List.length_append, octL_len]
  have hge := sizeL_ge l
  have h0 : 0 < n := by omega
  obtain ⟨b, o, rfl, hcs⟩ := rd_byte h h0
  have hcs' := Lib.hid hcs
  have hH := Lib.hid h
  have hL := Lib.hid (hl.symm.trans hq)
  clear h hcs hl hq
  have e0 : ¬ n = 0 := by omega
  go_enter Try.func47, Try.ntmps47
  go_wp2_with fail
  go_loopw [1, 7] (fun p v wr => ∃ k : Nat, k ≤ l.length ∧ p = .int .i64 (octs (l.take k)).length ∧ OwnT M wr w.heap.size v (l.take k) ∧ Below w.heap.size w wr)
    (fun p _ _ => n - (intOf p).toNat)
  case atStart => exact ⟨0, Nat.zero_le _, rfl, OwnT.nil _ _ _, Below.refl _ _⟩
  case round =>
    obtain ⟨k, hk, rfl, ho, hb⟩ := hrel
    obtain ⟨a1, cap1, rfl⟩ := ho.shape
    have hlk : (l.take k).length = k := by simp; omega
    rw [hlk] at ho ⊢
    have ho' := Lib.hid ho
    clear ho hlk
    have hpl := octs_len (l.take k)
    have hps := sizeL_le l k
    have hLn := hL.out
    by_cases hlt : k < l.length
    · have hsp := octs_split l k hlt
      have htk := octs_take l k hlt
      have hok := b4.out _ (List.getElem_mem hlt)
      have htl := congrArg List.length htk
      have hs2 := sizeL_take l k hlt
      have hs3 := sizeL_le l (k + 1)
      have htk2 : l.take (k + 1) = l.take k ++ [l[k]] := List.take_succ_eq_append_getElem hlt
      unfold okLab at hok
      generalize hX : l[k] = X at *
      generalize hD : octs (l.take k) = D at *
      have hq : octL l ++ r = D ++ (UInt8.ofNat X.length :: X) ++ (octs (l.drop (k + 1)) ++ [0] ++ r) := by
        unfold octL; rw [hsp]; simp
      have hp1 : D.length + 1 + X.length ≤ n := by omega
      have hplt : D.length < (octL l ++ r).length := by rw [hH.out.len]; omega
      have hcell : wr.cell? ⟨b, o + D.length, none⟩ = some (.int .u8 X.length) := by
        obtain ⟨b', o', e', hc'⟩ := rd_byte (hH.out.ext hb) h0
        simp only [Option.some.injEq, Addr.mk.injEq] at e'
        obtain ⟨rfl, rfl, _⟩ := e'
        have := hc' D.length hplt
        rw [this]
        have : (octL l ++ r)[D.length]'hplt = UInt8.ofNat X.length := by
          simp only [hq]
          rw [List.getElem_append_left (by simp), List.getElem_append_right (by omega)]
          simp
        rw [this]
        congr 2
        exact u8_of _ (by omega)
      obtain ⟨a2, hrun, hr2⟩ := cut_lh (P := Try.prog) (hH.out.ext hb) 27 Try.underlying27 (by kernel_rfl) .i64 .i64 ((D.length : Int) + 1) ((D.length : Int) + 1 + (X.length : Int)) (D.length + 1) (D.length + 1 + X.length) (by omega) (by omega) (by omega) hp1
      have hcut : ((octL l ++ r).take (D.length + 1 + X.length)).drop (D.length + 1) = X := by
        rw [hq, List.take_left' (by simp; omega)]
        simp
      rw [hcut] at hr2
      have hdm : D.length + 1 + X.length - (D.length + 1) = X.length := by omega
      rw [hdm] at hrun hr2
      have hstr := rd_toStr (P := Try.prog) hr2 27 9 Try.underlying27 Try.underlying5 Try.underlying9
      have htl' : (octs (l.take (k + 1))).length = D.length + 1 + X.length := by rw [htl]; simp; omega
      have hF := Lib.hid (And.intro htl' htk2)
      have hpn : (D.length : Int) < n := by omega
      have hx0 : ((X.length : Int) == 0) = false := by rw [beq_eq_false_iff_ne]; omega
      have hx63 : ¬ (63 : Int) < X.length := by omega
      have hxn : ¬ (n : Int) - ((D.length : Int) + 1) < X.length := by omega
      have ho2 := Lib.hid (ho'.out.ext ((Below.refl _ _).alloc (Nat.le_refl _) (.cells #[.string (mk X)] 9)))
      have hlit := Lib.hid (lit_rd wr X)
      have hb4 : Below w.heap.size w (wr.alloc (.cells #[.string (mk X)] 9)) := hb.alloc hb.size _
      have hX63 : X.length ≤ 63 := by omega
      clear hcut hq hsp htk htl hs2 hs3 htk2 hr2 htl' hplt hX hD hdm hLn hpl hps
      go_wp2_with (at_builtin; refine app_ownT rfl (.tmp 47) (.tmp 55) 49 49 rfl Try.underlying49 Try.underlying49 rfl ho2.out rfl hlit.out ?c1 ?c2 hb4.size ?_)
      case c1 => omega
      case c2 => first | omega | (simp; omega)
      intro v3 w3 h3 hg _
      obtain ⟨a3, cap3, hv3⟩ := h3.shape
      subst hv3
      have h3' := Lib.hid h3
      have hb5 : Below w.heap.size w w3 := own_below hb4 hg ho2.out.own hb4.size (Nat.le_refl _)
      clear h3
      go_wp2_with fail
      go_roundw
      case rel =>
        exact ⟨k + 1, by omega, by rw [hF.out.1]; simp, by rw [hF.out.2]; simpa using h3'.out, hb5⟩
      case measure => simp [intOf]; omega
    · have hk' : k = l.length := by omega
      subst hk'
      rw [List.take_length] at ho' hpl hps ⊢
      have hcell : wr.cell? ⟨b, o + (octs l).length, none⟩ = some (.int .u8 0) := by
        obtain ⟨b', o', e', hc'⟩ := rd_byte (hH.out.ext hb) h0
        simp only [Option.some.injEq, Addr.mk.injEq] at e'
        obtain ⟨rfl, rfl, _⟩ := e'
        have hplt : (octs l).length < (octL l ++ r).length := by rw [hH.out.len]; omega
        have := hc' (octs l).length hplt
        rw [this]
        have : (octL l ++ r)[(octs l).length]'hplt = 0 := by
          simp only [octL]
          rw [List.getElem_append_left (by simp), List.getElem_append_right (by omega)]
          simp
        rw [this]; rfl
      have hpn : ((octs l).length : Int) < n := by omega
      obtain ⟨a4, cap4, hv4, hrd⟩ := ho'.out.rd
      simp only [Value.slice.injEq, true_and] at hv4
      obtain ⟨rfl, rfl⟩ := hv4
      have hrd' := Lib.hid hrd
      have hS : ((octs l).length : Int) + 1 = sizeL l := by omega
      have hS' := Lib.hid hS
      clear hrd hS hLn hpl hps
      go_wp2_with fail
      refine (check_any hrd'.out (by omega)).mono ?_
      rw [c1]
      rintro e w1 ⟨rfl, rfl⟩
      go_wp2_with fail
      go_ret3
      exact ⟨⟨_, by rw [← hS'.out]; rfl, ho'.out⟩, hb⟩
end Go.Proofs.Ytffdcfannnmjnaa
