/- The document's network: Flying 36. Printed by gen_nua.py. -/
import Derived.Test.YthdnbipfdahnlaaNtZ
import Derived.Deep.QuietTactic
import Derived.BigQuiet
namespace Go.Proofs.Ythdnbipfdahnlaa
open Go Go.RowKit
theorem bel_drewN (w : World) (n : Nat) : Below w.heap.size w (w.drewN n) := ⟨rfl, rfl, rfl, Nat.le_refl _, fun _ _ => rfl⟩
theorem pw_insK {α : Type} (key : α → Int) (x : α) : ∀ A : List α, A.Pairwise (fun a b => key a ≤ key b) → (insK key x A).Pairwise (fun a b => key a ≤ key b)
  | [], _ => by simp [insK]
  | y :: r, h => by
    rw [List.pairwise_cons] at h
    rw [insK]
    split
    · rename_i hle
      rw [List.pairwise_cons]
      refine ⟨fun z hz => ?_, pw_insK key x r h.2⟩
      rcases (insK_mem key x r z).1 hz with rfl | hz
      · exact hle
      · exact h.1 z hz
    · rename_i hle
      rw [List.pairwise_cons]
      refine ⟨fun z hz => ?_, List.pairwise_cons.2 h⟩
      rcases List.mem_cons.1 hz with rfl | hz
      · omega
      · have := h.1 z hz; omega
theorem pw_fold {α : Type} (key : α → Int) : ∀ l A : List α, A.Pairwise (fun a b => key a ≤ key b) → (l.foldl (fun A x => insK key x A) A).Pairwise (fun a b => key a ≤ key b)
  | [], _, h => h
  | x :: r, A, h => by rw [List.foldl_cons]; exact pw_fold key r _ (pw_insK key x A h)
theorem srtK_le {α : Type} (key : α → Int) (l : List α) {i j : Nat} {x y : α} (hij : i ≤ j) (hx : (srtK key l)[i]? = some x) (hy : (srtK key l)[j]? = some y) : key x ≤ key y := by
  have h : (srtK key l).Pairwise (fun a b => key a ≤ key b) := pw_fold key l [] List.Pairwise.nil
  rw [List.pairwise_iff_getElem] at h
  rcases Nat.lt_or_ge j (srtK key l).length with hj | hj
  · rcases Nat.eq_or_lt_of_le hij with e | e
    · subst e; rw [hx] at hy; cases hy; exact Int.le_refl _
    · have := h i j (by omega) hj e
      rw [List.getElem?_eq_getElem (by omega)] at hx
      rw [List.getElem?_eq_getElem hj] at hy
      cases hx; cases hy; exact this
  · rw [List.getElem?_eq_none hj] at hy; cases hy
/-- flights as they lie, in the order in which they come -/
def srtD (FL : List FD) : List FD := srtK (fun q => q.at_) FL
theorem srtD_len (FL : List FD) : (srtD FL).length = FL.length := srtK_len _ _
theorem fd_cells {w : World} {a : Option Addr} {n c : Nat} {l : List FD} (h : Rd flE w a n c l) {j : Nat} {q : FD} (hj : l[j]? = some q) : ∃ b o, a = some ⟨b, o, none⟩ ∧ w.cell? ⟨b, o + j * 7, none⟩ = some (.int .i64 q.at_) ∧ w.cell? ⟨b, o + j * 7 + 1, none⟩ = some (.int .u32 q.p.h.from_) ∧ w.cell? ⟨b, o + j * 7 + 2, none⟩ = some (.int .u16 q.p.h.fport) ∧ w.cell? ⟨b, o + j * 7 + 3, none⟩ = some (.int .u32 q.p.h.to_) ∧ w.cell? ⟨b, o + j * 7 + 4, none⟩ = some (.int .u16 q.p.h.tport) ∧ w.cell? ⟨b, o + j * 7 + 5, none⟩ = some (.bool q.p.h.stream) ∧ w.cell? ⟨b, o + j * 7 + 6, none⟩ = some (.slice q.p.da q.p.dn q.p.dc) := by
  have hlt : j < l.length := by
    rcases Nat.lt_or_ge j l.length with h1 | h1
    · exact h1
    · rw [List.getElem?_eq_none h1] at hj; cases hj
  have hl := h.len
  obtain ⟨b, o, e, _, hc⟩ := rd_fl h (by omega)
  rw [List.getElem?_eq_getElem hlt] at hj
  cases hj
  have hc := hc j hlt
  exact ⟨b, o, e, by have h := hc 0 _ rfl; simpa using h, hc 1 _ rfl, hc 2 _ rfl, hc 3 _ rfl, hc 4 _ rfl, hc 5 _ rfl, hc 6 _ rfl⟩
set_option maxHeartbeats 8000000 in
set_option maxRecDepth 100000 in
theorem rflying_any {w : World} {S : Nat → Prop} {r : Nat} {fa : Option Addr} {fn fc : Nat} {F : List Fate} {la : Option Addr} {ln lc : Nat} {FL : List FD} {L : List Fl} {c : Cn} (hQ : RefQ w S r fa fn fc F la ln lc FL L c) (hL : ln ≤ 16384) :
    Calls Try.prog 36 #[.pointer (some ⟨r, 0, none⟩)] w fun e w' => (∃ v, e = .returned v ∧ Own flE w' w.heap.size v (srtD FL)) ∧ Below w.heap.size w w' := by
  obtain ⟨sent, lost, forged, taken⟩ := c
  have Kr := Lib.hid hQ.blk
  have HL := Lib.hid hQ.ls
  have hln := Lib.hid hQ.ls.len
  clear hQ
  dsimp only at Kr
  go_enter Try.func36, Try.ntmps36
  go_wp2_with fail
  go_loopw [3, 4] (fun v i wr => ∃ k : Nat, k ≤ ln ∧ i = .int .i64 k ∧ Hid (Own flE wr w.heap.size v (srtD (FL.take k))) ∧ Hid (Below w.heap.size w wr)) (fun _ i _ => ln - (intOf i).toNat)
  case atStart => exact ⟨0, Nat.zero_le _, rfl, Lib.hid (Own.nil _ _ _), Lib.hid (Below.refl _ _)⟩
  case round =>
    obtain ⟨k, hk, rfl, hO, hb⟩ := hrel
    obtain ⟨va, vc, rfl⟩ := hO.out.shape
    obtain ⟨A, hA⟩ : ∃ A, srtD (FL.take k) = A := ⟨_, rfl⟩
    rw [hA] at hO ⊢
    have hAl : A.length = k := by rw [← hA, srtD_len, List.length_take, hln.out]; omega
    rw [hAl] at hO ⊢
    have hA' := Lib.hid hA
    have hAl' := Lib.hid hAl
    clear hA hAl
    have c1 : wr.cell? ⟨r, 1, none⟩ = some (.slice la ln lc) := ((Kr.out.below hb.out Kr.out.lt).cell 1).trans rfl
    by_cases hlt : k < ln
    case neg =>
      obtain rfl : k = ln := by omega
      go_wp2_with fail
      go_ret
      refine ⟨⟨_, rfl, ?_⟩, hb.out⟩
      rw [List.take_of_length_le (by rw [hln.out]; exact Nat.le_refl _)] at hA'
      rw [hA'.out]
      exact hO.out
    case pos =>
      have hkI : (k : Int) < ln := by omega
      have hk0 : (0 : Int) ≤ k := by omega
      obtain ⟨q, hq⟩ : ∃ q, FL[k]? = some q := ⟨FL[k]'(by rw [hln.out]; exact hlt), List.getElem?_eq_getElem _⟩
      have hq' := Lib.hid hq
      clear hq
      go_wp2_with fail
      obtain ⟨w0, rfl⟩ : ∃ w0, w0 = wr := ⟨_, rfl⟩
      go_loopw [5] (fun a wr => ∃ m : Nat, m ≤ k ∧ a = .int .i64 m ∧ Hid (∀ (j : Nat) (y : FD), m ≤ j → A[j]? = some y → q.at_ < y.at_) ∧ Hid (Below w0.heap.size w0 wr)) (fun a _ => (intOf a).toNat)
      case atStart => exact ⟨k, Nat.le_refl _, rfl, Lib.hid (fun j y hj hy => by rw [List.getElem?_eq_none (by rw [hAl'.out]; exact hj)] at hy; cases hy), Lib.hid (Below.refl _ _)⟩
      case round =>
        obtain ⟨m, hm, rfl, hgt, hb2⟩ := hrel
        clear c1
        have c1 : wr.cell? ⟨r, 1, none⟩ = some (.slice la ln lc) := ((Kr.out.below (hb.out.trans (hb2.out.mono hb.out.size)) Kr.out.lt).cell 1).trans rfl
        have hbb := Lib.hid (hb.out.trans (hb2.out.mono hb.out.size))
        by_cases hm0 : m = 0
        case pos =>
          subst hm0
          have hd0 : decide ((0 : Int) < ((0 : Nat) : Int)) = false := by decide
          go_upto_region 6 with (fail)
          go_quiet (fail)
          clear hd0 c1
          obtain ⟨X, hX⟩ : ∃ X, wr.drewN nq = X := ⟨_, rfl⟩
          have kX : Hid (Below w0.heap.size w0 X) := Lib.hid (by rw [← hX]; exact hb2.out.trans ((bel_drewN wr nq).mono hb2.out.size))
          rw [hX]
          clear hX
          have hbX := Lib.hid (hb.out.trans (kX.out.mono hb.out.size))
          have OX := Lib.hid (own_rd_at (hO.out.ext kX.out)).1
          obtain ⟨mm, hmm⟩ : ∃ x : Nat, 0 = x := ⟨_, rfl⟩
          have hmk : mm ≤ k := by omega
          have hins : Hid (A.take mm ++ q :: A.drop mm = srtD (FL.take (k + 1))) := Lib.hid (by
            rw [List.take_add_one, hq'.out]
            show _ = srtK _ (FL.take k ++ [q])
            rw [srtK_snoc]
            show _ = insK _ q (srtD (FL.take k))
            rw [hA'.out]
            have hie := insK_eq (fun q => q.at_) q A mm (by rw [hAl'.out]; exact hmk) (fun j y hj hy => by omega) (fun j y hj hy => hgt.out j y (by omega) hy)
            rw [List.append_assoc] at hie
            exact hie)
          obtain ⟨b2, o2, e2, g0, g1, g2, g3, g4, g5, g6⟩ := fd_cells (HL.out.ext hbX.out) hq'.out
          subst e2
          have hmz : ((0 : Nat) : Int) = (mm : Int) := by omega
          rw [hmz]
          clear hmz
          have c1 : X.cell? ⟨r, 1, none⟩ = some (.slice (some ⟨b2, o2, none⟩) ln lc) := ((Kr.out.below hbX.out Kr.out.lt).cell 1).trans rfl
          obtain ⟨ah, hcH, hRH⟩ := cut_h (P := Try.prog) OX.out 61 Try.underlying61 (by kernel_rfl) .i64 (mm : Int) mm rfl hmk
          obtain ⟨al, hcL, hRL⟩ := cut_l (P := Try.prog) OX.out 61 Try.underlying61 (by kernel_rfl) .i64 (mm : Int) mm rfl hmk
          have RH := Lib.hid hRH
          have RL := Lib.hid hRL
          obtain ⟨kl, hkl⟩ : ∃ x, k - mm = x := ⟨_, rfl⟩
          obtain ⟨cl, hcl⟩ : ∃ x, vc - mm = x := ⟨_, rfl⟩
          rw [hkl, hcl] at hcL RL
          have hkl' := Lib.hid hkl
          clear hRH hRL hkl hcl
          obtain ⟨j0, hj, jz0, jz1, jz2⟩ := info_parts Try.info71
          have hmm0 : (0 : Int) ≤ mm := by omega
          have hmmk : (mm : Int) ≤ k := by omega
          have hal := Lib.hid hAl'.out
          have hd1 : Hid (([] : List FD).length + (A.take mm).length ≤ maxLen) := Lib.hid (by have h1 := hal.out; simp [maxLen]; omega)
          have hd2 : Hid ((([] : List FD).length + (A.take mm).length) * 48 ≤ 140737488355328) := Lib.hid (by have h1 := hal.out; simp; omega)
          have src1 := Lib.hid (RH.out.src (P := Try.prog) (tx := 61) Try.underlying61)
          have own0 : Hid (Own flE X X.heap.size (.slice none 0 0) []) := Lib.hid (Own.nil _ _ _)
          have hmm' := Lib.hid hmm
          clear hmm
          go_wp2_with (at_builtin; refine app_own (E := flE) (l := []) (news := A.take mm) (base := X.heap.size) rfl (.tmp 39) (.tmp 42) 61 61 rfl Try.underlying61 hj jz0 jz1 jz2 rfl rfl own0.out rfl src1.out hd1.out hd2.out (Nat.le_refl _) ?_)
          intro v5 w5 ho5 hg5 _
          obtain ⟨a5, c5, rfl⟩ := ho5.shape
          try rw [List.nil_append] at ho5
          try rw [List.nil_append]
          have k5 : Hid (Below X.heap.size X w5) := Lib.hid (own_below (Below.refl _ _) hg5 own0.out (Nat.le_refl _) (Nat.le_refl _))
          have O5 := Lib.hid ho5
          obtain ⟨n5, hn5⟩ : ∃ x, (A.take mm).length = x := ⟨_, rfl⟩
          rw [hn5] at O5 ⊢
          clear ho5 hg5 own0 src1 hd1 hd2 hcH
          have hn5' := Lib.hid hn5
          clear hn5
          have h0 := cell_old g0 k5.out
          have h1 := cell_old g1 k5.out
          have h2 := cell_old g2 k5.out
          have h3 := cell_old g3 k5.out
          have h4 := cell_old g4 k5.out
          have h5 := cell_old g5 k5.out
          have h6 := cell_old g6 k5.out
          have c2 := cell_old c1 k5.out
          clear g0 g1 g2 g3 g4 g5 g6 c1
          obtain ⟨W6, hW6⟩ : ∃ W, w5.alloc (.cells #[.int .i64 q.at_, .int .u32 q.p.h.from_, .int .u16 q.p.h.fport, .int .u32 q.p.h.to_, .int .u16 q.p.h.tport, .bool q.p.h.stream, .slice q.p.da q.p.dn q.p.dc] 71) = W := ⟨_, rfl⟩
          have B6 : Hid (Blk W6 w5.heap.size 71 (0, 0) [.int .i64 q.at_, .int .u32 q.p.h.from_, .int .u16 q.p.h.fport, .int .u32 q.p.h.to_, .int .u16 q.p.h.tport, .bool q.p.h.stream, .slice q.p.da q.p.dn q.p.dc]) := Lib.hid (by rw [← hW6]; exact Blk.new w5 71 (0, 0) #[.int .i64 q.at_, .int .u32 q.p.h.from_, .int .u16 q.p.h.fport, .int .u32 q.p.h.to_, .int .u16 q.p.h.tport, .bool q.p.h.stream, .slice q.p.da q.p.dn q.p.dc])
          have k6 : Hid (Below w5.heap.size w5 W6) := Lib.hid (by rw [← hW6]; exact alloc_bel _ _)
          have O6 := Lib.hid (O5.out.ext k6.out)
          have K6 := Lib.hid (k5.out.trans (k6.out.mono k5.out.size))
          have src2 : Hid (Src Try.prog flE.k 61 (.slice (some ⟨w5.heap.size, 0, none⟩) 1 1) 1 (rowOf flE [q]) W6) := Lib.hid ((rd_blk (E := flE) (X := [q]) (fz := (0, 0)) B6.out 1 rfl (by decide)).src (P := Try.prog) (tx := 61) Try.underlying61)
          have hd1 : Hid ((A.take mm).length + [q].length ≤ maxLen) := Lib.hid (by have h1 := hal.out; simp [maxLen]; omega)
          have hd2 : Hid (((A.take mm).length + [q].length) * 48 ≤ 140737488355328) := Lib.hid (by have h1 := hal.out; simp; omega)
          have ap6 : Hid (some w5.heap.size ≠ (Value.slice a5 n5 c5).ownBlock) := Lib.hid (fun e => by have h1 := (O5.out.lt _ e.symm).2; omega)
          go_wp2_with (at_builtin; refine app_own (E := flE) (l := A.take mm) (news := [q]) (base := X.heap.size) rfl (.tmp 44) (.tmp 52) 61 61 rfl Try.underlying61 hj jz0 jz1 jz2 rfl rfl O6.out rfl src2.out hd1.out hd2.out K6.out.size ?_)
          intro v7 w7 ho7 hg7 _
          obtain ⟨a7, c7, rfl⟩ := ho7.shape
          have k7 : Hid (Below X.heap.size X w7) := Lib.hid (own_below K6.out hg7 O6.out K6.out.size (Nat.le_refl _))
          have O7 := Lib.hid ho7
          obtain ⟨n7, hn7⟩ : ∃ x, (A.take mm ++ [q]).length = x := ⟨_, rfl⟩
          rw [hn7] at O7 ⊢
          have hn7' := Lib.hid hn7
          clear hn7 ho7 hg7 O5 O6 src2 hd1 hd2 ap6 hW6 k6 B6 K6 h0 h1 h2 h3 h4 h5 h6 c2
          have src3 := Lib.hid ((RL.out.ext k7.out).src (P := Try.prog) (tx := 61) Try.underlying61)
          have hd1 : Hid ((A.take mm ++ [q]).length + (A.drop mm).length ≤ maxLen) := Lib.hid (by have h1 := hal.out; simp [maxLen]; omega)
          have hd2 : Hid (((A.take mm ++ [q]).length + (A.drop mm).length) * 48 ≤ 140737488355328) := Lib.hid (by have h1 := hal.out; simp; omega)
          go_wp2_with (at_builtin; refine app_own (E := flE) (l := A.take mm ++ [q]) (news := A.drop mm) (base := X.heap.size) rfl (.tmp 54) (.tmp 57) 61 61 rfl Try.underlying61 hj jz0 jz1 jz2 rfl rfl O7.out rfl src3.out hd1.out hd2.out k7.out.size ?_)
          intro v9 w9 ho9 hg9 _
          have k9 : Hid (Below X.heap.size X w9) := Lib.hid (own_below k7.out hg9 O7.out k7.out.size (Nat.le_refl _))
          rw [hins.out] at ho9
          have O9 : Hid (Own flE w9 w.heap.size v9 (srtD (FL.take (k + 1)))) := Lib.hid (ho9.mono hbX.out.size)
          have K9 := Lib.hid (hbX.out.trans (k9.out.mono hbX.out.size))
          clear ho9 hg9 O7 src3 hd1 hd2 hcL hins
          go_wp2_with fail
          go_roundw
          case rel => exact ⟨k + 1, by omega, by go_num, O9, K9⟩
          case measure => simp [intOf]; omega
        case neg =>
          obtain ⟨m, rfl⟩ : ∃ x, m = x + 1 := ⟨m - 1, by omega⟩
          obtain ⟨y, hy⟩ : ∃ y, A[m]? = some y := ⟨A[m]'(by rw [hAl'.out]; omega), List.getElem?_eq_getElem _⟩
          obtain ⟨b1, o1, e1, d0, u1_, u2_, u3_, u4_, u5_, u6_⟩ := fd_cells ((own_rd_at hO.out).1.ext hb2.out) hy
          obtain ⟨b2, o2, e2, g0, u7_, u8_, u9_, u10_, u11_, u12_⟩ := fd_cells (HL.out.ext hbb.out) hq'.out
          subst e1 e2
          have hy' := Lib.hid hy
          clear hy u1_ u2_ u3_ u4_ u5_ u6_ u7_ u8_ u9_ u10_ u11_ u12_
          have hw1 : IntKind.i64.wrap (((m + 1 : Nat) : Int) - 1) = (m : Int) := by rw [IntWalk.i64_in _ (by omega)]; omega
          have hmI : (m : Int) < k := by omega
          have hm1 : (0 : Int) ≤ m := by omega
          have hmp : (0 : Int) < ((m + 1 : Nat) : Int) := by omega
          have hd0 : decide ((0 : Int) < ((m + 1 : Nat) : Int)) = true := decide_eq_true hmp
          by_cases hcmp : q.at_ < y.at_
          case pos =>
            go_upto_region 6 with (fail)
            go_quiet (fail)
            clear hw1 hd0 c1 g0 d0
            have hgt2 : Hid (∀ (j : Nat) (z : FD), m ≤ j → A[j]? = some z → q.at_ < z.at_) := Lib.hid (fun j z hj hz => by
              rcases Nat.eq_or_lt_of_le hj with e | e
              · subst e; rw [hy'.out] at hz; cases hz; exact hcmp
              · exact hgt.out j z e hz)
            have hb3 : Hid (Below w0.heap.size w0 (wr.drewN nq)) := Lib.hid (hb2.out.trans ((bel_drewN wr nq).mono hb2.out.size))
            clear hgt
            go_wp2_with fail
            go_roundw
            case rel => exact ⟨m, by omega, by go_num, hgt2, hb3⟩
            case measure => simp [intOf]
          case neg =>
            go_upto_region 6 with (fail)
            go_quiet (fail)
            clear hw1 hd0 c1 g0 d0
            obtain ⟨X, hX⟩ : ∃ X, wr.drewN nq = X := ⟨_, rfl⟩
            have kX : Hid (Below w0.heap.size w0 X) := Lib.hid (by rw [← hX]; exact hb2.out.trans ((bel_drewN wr nq).mono hb2.out.size))
            rw [hX]
            clear hX
            have hbX := Lib.hid (hb.out.trans (kX.out.mono hb.out.size))
            have OX := Lib.hid (own_rd_at (hO.out.ext kX.out)).1
            obtain ⟨mm, hmm⟩ : ∃ x : Nat, (m + 1) = x := ⟨_, rfl⟩
            have hmk : mm ≤ k := by omega
            have hins : Hid (A.take mm ++ q :: A.drop mm = srtD (FL.take (k + 1))) := Lib.hid (by
              rw [List.take_add_one, hq'.out]
              show _ = srtK _ (FL.take k ++ [q])
              rw [srtK_snoc]
              show _ = insK _ q (srtD (FL.take k))
              rw [hA'.out]
              have hie := insK_eq (fun q => q.at_) q A mm (by rw [hAl'.out]; exact hmk) (fun j z hj hz => by have h1 : z.at_ ≤ y.at_ := srtK_le (fun q => q.at_) (FL.take k) (show j ≤ m by omega) (by have h9 := hA'.out; unfold srtD at h9; rw [h9]; exact hz) (by have h9 := hA'.out; unfold srtD at h9; rw [h9]; exact hy'.out); show z.at_ ≤ q.at_; omega) (fun j y hj hy => hgt.out j y (by omega) hy)
              rw [List.append_assoc] at hie
              exact hie)
            obtain ⟨b2, o2, e2, g0, g1, g2, g3, g4, g5, g6⟩ := fd_cells (HL.out.ext hbX.out) hq'.out
            cases e2
            rw [hmm]
            have c1 : X.cell? ⟨r, 1, none⟩ = some (.slice (some ⟨b2, o2, none⟩) ln lc) := ((Kr.out.below hbX.out Kr.out.lt).cell 1).trans rfl
            obtain ⟨ah, hcH, hRH⟩ := cut_h (P := Try.prog) OX.out 61 Try.underlying61 (by kernel_rfl) .i64 (mm : Int) mm rfl hmk
            obtain ⟨al, hcL, hRL⟩ := cut_l (P := Try.prog) OX.out 61 Try.underlying61 (by kernel_rfl) .i64 (mm : Int) mm rfl hmk
            have RH := Lib.hid hRH
            have RL := Lib.hid hRL
            obtain ⟨kl, hkl⟩ : ∃ x, k - mm = x := ⟨_, rfl⟩
            obtain ⟨cl, hcl⟩ : ∃ x, vc - mm = x := ⟨_, rfl⟩
            rw [hkl, hcl] at hcL RL
            have hkl' := Lib.hid hkl
            clear hRH hRL hkl hcl
            obtain ⟨j0, hj, jz0, jz1, jz2⟩ := info_parts Try.info71
            have hmm0 : (0 : Int) ≤ mm := by omega
            have hmmk : (mm : Int) ≤ k := by omega
            have hal := Lib.hid hAl'.out
            have hd1 : Hid (([] : List FD).length + (A.take mm).length ≤ maxLen) := Lib.hid (by have h1 := hal.out; simp [maxLen]; omega)
            have hd2 : Hid ((([] : List FD).length + (A.take mm).length) * 48 ≤ 140737488355328) := Lib.hid (by have h1 := hal.out; simp; omega)
            have src1 := Lib.hid (RH.out.src (P := Try.prog) (tx := 61) Try.underlying61)
            have own0 : Hid (Own flE X X.heap.size (.slice none 0 0) []) := Lib.hid (Own.nil _ _ _)
            have hmm' := Lib.hid hmm
            clear hmm
            go_wp2_with (at_builtin; refine app_own (E := flE) (l := []) (news := A.take mm) (base := X.heap.size) rfl (.tmp 39) (.tmp 42) 61 61 rfl Try.underlying61 hj jz0 jz1 jz2 rfl rfl own0.out rfl src1.out hd1.out hd2.out (Nat.le_refl _) ?_)
            intro v5 w5 ho5 hg5 _
            obtain ⟨a5, c5, rfl⟩ := ho5.shape
            try rw [List.nil_append] at ho5
            try rw [List.nil_append]
            have k5 : Hid (Below X.heap.size X w5) := Lib.hid (own_below (Below.refl _ _) hg5 own0.out (Nat.le_refl _) (Nat.le_refl _))
            have O5 := Lib.hid ho5
            obtain ⟨n5, hn5⟩ : ∃ x, (A.take mm).length = x := ⟨_, rfl⟩
            rw [hn5] at O5 ⊢
            clear ho5 hg5 own0 src1 hd1 hd2 hcH
            have hn5' := Lib.hid hn5
            clear hn5
            have h0 := cell_old g0 k5.out
            have h1 := cell_old g1 k5.out
            have h2 := cell_old g2 k5.out
            have h3 := cell_old g3 k5.out
            have h4 := cell_old g4 k5.out
            have h5 := cell_old g5 k5.out
            have h6 := cell_old g6 k5.out
            have c2 := cell_old c1 k5.out
            clear g0 g1 g2 g3 g4 g5 g6 c1
            obtain ⟨W6, hW6⟩ : ∃ W, w5.alloc (.cells #[.int .i64 q.at_, .int .u32 q.p.h.from_, .int .u16 q.p.h.fport, .int .u32 q.p.h.to_, .int .u16 q.p.h.tport, .bool q.p.h.stream, .slice q.p.da q.p.dn q.p.dc] 71) = W := ⟨_, rfl⟩
            have B6 : Hid (Blk W6 w5.heap.size 71 (0, 0) [.int .i64 q.at_, .int .u32 q.p.h.from_, .int .u16 q.p.h.fport, .int .u32 q.p.h.to_, .int .u16 q.p.h.tport, .bool q.p.h.stream, .slice q.p.da q.p.dn q.p.dc]) := Lib.hid (by rw [← hW6]; exact Blk.new w5 71 (0, 0) #[.int .i64 q.at_, .int .u32 q.p.h.from_, .int .u16 q.p.h.fport, .int .u32 q.p.h.to_, .int .u16 q.p.h.tport, .bool q.p.h.stream, .slice q.p.da q.p.dn q.p.dc])
            have k6 : Hid (Below w5.heap.size w5 W6) := Lib.hid (by rw [← hW6]; exact alloc_bel _ _)
            have O6 := Lib.hid (O5.out.ext k6.out)
            have K6 := Lib.hid (k5.out.trans (k6.out.mono k5.out.size))
            have src2 : Hid (Src Try.prog flE.k 61 (.slice (some ⟨w5.heap.size, 0, none⟩) 1 1) 1 (rowOf flE [q]) W6) := Lib.hid ((rd_blk (E := flE) (X := [q]) (fz := (0, 0)) B6.out 1 rfl (by decide)).src (P := Try.prog) (tx := 61) Try.underlying61)
            have hd1 : Hid ((A.take mm).length + [q].length ≤ maxLen) := Lib.hid (by have h1 := hal.out; simp [maxLen]; omega)
            have hd2 : Hid (((A.take mm).length + [q].length) * 48 ≤ 140737488355328) := Lib.hid (by have h1 := hal.out; simp; omega)
            have ap6 : Hid (some w5.heap.size ≠ (Value.slice a5 n5 c5).ownBlock) := Lib.hid (fun e => by have h1 := (O5.out.lt _ e.symm).2; omega)
            go_wp2_with (at_builtin; refine app_own (E := flE) (l := A.take mm) (news := [q]) (base := X.heap.size) rfl (.tmp 44) (.tmp 52) 61 61 rfl Try.underlying61 hj jz0 jz1 jz2 rfl rfl O6.out rfl src2.out hd1.out hd2.out K6.out.size ?_)
            intro v7 w7 ho7 hg7 _
            obtain ⟨a7, c7, rfl⟩ := ho7.shape
            have k7 : Hid (Below X.heap.size X w7) := Lib.hid (own_below K6.out hg7 O6.out K6.out.size (Nat.le_refl _))
            have O7 := Lib.hid ho7
            obtain ⟨n7, hn7⟩ : ∃ x, (A.take mm ++ [q]).length = x := ⟨_, rfl⟩
            rw [hn7] at O7 ⊢
            have hn7' := Lib.hid hn7
            clear hn7 ho7 hg7 O5 O6 src2 hd1 hd2 ap6 hW6 k6 B6 K6 h0 h1 h2 h3 h4 h5 h6 c2
            have src3 := Lib.hid ((RL.out.ext k7.out).src (P := Try.prog) (tx := 61) Try.underlying61)
            have hd1 : Hid ((A.take mm ++ [q]).length + (A.drop mm).length ≤ maxLen) := Lib.hid (by have h1 := hal.out; simp [maxLen]; omega)
            have hd2 : Hid (((A.take mm ++ [q]).length + (A.drop mm).length) * 48 ≤ 140737488355328) := Lib.hid (by have h1 := hal.out; simp; omega)
            go_wp2_with (at_builtin; refine app_own (E := flE) (l := A.take mm ++ [q]) (news := A.drop mm) (base := X.heap.size) rfl (.tmp 54) (.tmp 57) 61 61 rfl Try.underlying61 hj jz0 jz1 jz2 rfl rfl O7.out rfl src3.out hd1.out hd2.out k7.out.size ?_)
            intro v9 w9 ho9 hg9 _
            have k9 : Hid (Below X.heap.size X w9) := Lib.hid (own_below k7.out hg9 O7.out k7.out.size (Nat.le_refl _))
            rw [hins.out] at ho9
            have O9 : Hid (Own flE w9 w.heap.size v9 (srtD (FL.take (k + 1)))) := Lib.hid (ho9.mono hbX.out.size)
            have K9 := Lib.hid (hbX.out.trans (k9.out.mono hbX.out.size))
            clear ho9 hg9 O7 src3 hd1 hd2 hcL hins
            go_wp2_with fail
            go_roundw
            case rel => exact ⟨k + 1, by omega, by go_num, O9, K9⟩
            case measure => simp [intOf]; omega
end Go.Proofs.Ythdnbipfdahnlaa
