/- The program's pipe: Close 14, Keys 16. -/
import Derived.Test.YtmimbfikjnfhdaaStK
namespace Go.Proofs.Ytmimbfikjnfhdaa
open Go.RowKit
set_option maxHeartbeats 8000000 in
set_option maxRecDepth 100000 in
theorem pclose_no {w : World} {m : Nat} {o : Option Nat} {most : Int} {L : List (Int × Int)} {n : Nat} (h : PipP w m o most L n) {id : Int} (hid : (Lit.int .u16 id).wf = true) (hv : lookI L id = none) :
    Calls Try.prog 14 #[.pointer (some ⟨m + 1, 0, none⟩), .int .u16 id] w fun e w' => e = .returned (.tuple #[.int .i64 0, .int .i64 9]) ∧ Below w.heap.size w w' := by
  have k1 : Below w.heap.size w (w.alloc (.cells #[.int .u16 id] 30)) := (Below.refl _ _).alloc (Nat.le_refl _) _
  obtain ⟨iv, h1, h2, _, h4⟩ := h.ext k1
  have e1 : (w.alloc (.cells #[.int .u16 id] 30)).cell? ⟨w.heap.size, 0, none⟩ = some (.int .u16 id) := by rw [(Blk.new w 30 (0, 0) #[.int .u16 id]).cell]; rfl
  have hsz : (w.alloc (.cells #[.int .u16 id] 30)).heap.size = w.heap.size + 1 := by simp
  have hsz' := Lib.hid hsz
  clear hsz
  go_enter Try.func14, Try.ntmps14
  go_wp2_with fail
  generalize w.alloc (.cells #[.int .u16 id] 30) = w1 at *
  have c1 : w1.cell? ⟨m + 1, 1, none⟩ = some (.map (some m)) := by rw [h1.cell]; rfl
  have hl : (Instr.lookup 65 (.map (some m)) (.int .u16 id) true).run Try.prog w1.drew = .ok (.tuple #[.int .i64 0, .bool false]) w1.drew := by
    have h4' : Mp KU 3 .i64 w1.drew m n (lookI L) := h4
    have := h4'.lookOk (t := 65) Try.underlying65 Try.underlying3 (zero3 w1.drew) (x := id) hid
    rw [hv] at this
    exact this
  clear h1 h2 h4 hv
  refine (pnone c1).mono ?_
  rintro e w2 ⟨rfl, rfl⟩
  go_wp2_with fail
  go_region
  go_wp2_with fail
  ((try simp only [Exit.inBlock, Exit.then]); refine bodyPost_ret (results_tmp2 rfl _ _ _) rfl ?_)
  exact ⟨rfl, k1.drew⟩
set_option maxHeartbeats 8000000 in
set_option maxRecDepth 100000 in
theorem pclose_yes {w : World} {m : Nat} {o : Option Nat} {most : Int} {L : List (Int × Int)} {n : Nat} (h : PipP w m o most L n) {id v : Int} (hid : (Lit.int .u16 id).wf = true) (hv : lookI L id = some v) (hL : L.length ≤ 1000000) :
    Calls Try.prog 14 #[.pointer (some ⟨m + 1, 0, none⟩), .int .u16 id] w fun e w' => e = .returned (.tuple #[.int .i64 v, .int .i64 0]) ∧ PipP w' m o most (dropI L id) n ∧ Tch (fp m o) w w' := by
  have k1 : Below w.heap.size w (w.alloc (.cells #[.int .u16 id] 30)) := (Below.refl _ _).alloc (Nat.le_refl _) _
  have hlt := h.lt
  obtain ⟨iv, h1, h2, ho, h4⟩ := h.ext k1
  have e1 : (w.alloc (.cells #[.int .u16 id] 30)).cell? ⟨w.heap.size, 0, none⟩ = some (.int .u16 id) := by rw [(Blk.new w 30 (0, 0) #[.int .u16 id]).cell]; rfl
  have hsz : (w.alloc (.cells #[.int .u16 id] 30)).heap.size = w.heap.size + 1 := by simp
  have hsz' := Lib.hid hsz
  clear hsz
  obtain ⟨ia, ic, rfl⟩ := h2.shape
  rw [ids_length] at h1 h2 ho
  go_enter Try.func14, Try.ntmps14
  go_wp2_with fail
  generalize w.alloc (.cells #[.int .u16 id] 30) = w1 at *
  have c1 : w1.cell? ⟨m + 1, 1, none⟩ = some (.map (some m)) := by rw [h1.cell]; rfl
  have hl : (Instr.lookup 65 (.map (some m)) (.int .u16 id) true).run Try.prog w1.drew = .ok (.tuple #[.int .i64 v, .bool true]) w1.drew := by
    have h4' : Mp KU 3 .i64 w1.drew m n (lookI L) := h4
    have := h4'.lookOk (t := 65) Try.underlying65 Try.underlying3 (zero3 w1.drew) (x := id) hid
    rw [hv] at this
    exact this
  have h4d : Mp KU 3 .i64 w1.drew.drew m n (lookI L) := h4
  obtain ⟨w3, hst, hM3, hg3, hs3⟩ := h4d.drop (t := 65) Try.underlying65 0 (x := id) hid
  replace hst : (Builtin.delete_ #[65, 30] 0 #[.map (some m), .int .u16 id]).run Try.prog w1.drew.drew = .ok (.tuple #[]) w3 := hst
  replace hs3 : w3.heap.size = w1.heap.size := hs3
  have hT3 : Tch (fp m o) w1 w3 := Tch.of_grown (u := w1) ⟨hg3.os, hg3.tape, hg3.output, hg3.size, hg3.block⟩ (fun k hk => by cases hk; exact .inl rfl)
  have b3 : Blk w3 (m + 1) 68 (0, 0) [.int .i64 most, .map (some m), .slice ia L.length ic] := (hg3.block (m + 1) h1.lt (fun e => by cases e)).trans h1
  have hnm : ∀ k, (Value.slice ia L.length ic).ownBlock = some k → k ≠ m ∧ k ≠ m + 1 ∧ k < w.heap.size := fun k hk => by have h5 := (h2.lt k hk).1; have h6 := (hlt.2 k (ho ▸ hk)).2; omega
  have o3 : Own idE w3 (m + 2) (.slice ia L.length ic) (ids L) := h2.keep fun k hk => hg3.block k (h2.lt k hk).2 (fun e => by cases e; exact (hnm m hk).1 rfl)
  have d1 : w3.cell? ⟨m + 1, 2, none⟩ = some (.slice ia L.length ic) := by rw [b3.cell]; rfl
  have q3 : w3.cell? ⟨w.heap.size, 0, none⟩ = some (.int .u16 id) := (World.cell?_of_block (w := w1) (hg3.block w.heap.size (World.block_lt_of_cell? w1 _ e1) (fun e => by cases e; omega))).trans e1
  have o3' := Lib.hid o3
  have b3' := Lib.hid b3
  have hM3' := Lib.hid hM3
  have hs3' := Lib.hid hs3
  have ho' := Lib.hid ho
  have hnm' := Lib.hid hnm
  clear h1 h2 h4 hv h4d o3 b3 hM3 hs3 ho hnm hg3
  refine (pnone c1).mono ?_
  rintro e w2 ⟨rfl, rfl⟩
  go_wp2_with fail
  go_region
  go_wp2_with fail
  go_region
  go_wp2_with fail
  refine (del_any o3'.out q3 (fun e => by have := (hnm'.out _ e).2.2; omega) (by rw [ids_length]; exact hL)).mono ?_
  rintro e w5 ⟨⟨v5, rfl, hO5, hv5⟩, hg5⟩
  obtain ⟨a5, n5, c5, rfl⟩ : ∃ a n c, v5 = .slice a n c := by obtain ⟨a, c, e⟩ := hO5.shape; exact ⟨_, _, _, e⟩
  have hB5 : Blk w5 (m + 1) 68 (0, 0) [.int .i64 most, .map (some m), .slice ia L.length ic] := (hg5.block (m + 1) b3'.out.lt (fun e => (hnm'.out _ e.symm).2.1 rfl)).trans b3'.out
  have d5 : w5.cell? ⟨m + 1, 2, none⟩ = some (.slice ia L.length ic) := by rw [hB5.cell]; rfl
  have f5 : w5.frozen? ⟨m + 1, 2, none⟩ = false := by rw [hB5.frozen]; simp
  have hM5 := Lib.hid (hM3'.out.keep (hg5.block m hM3'.out.lt (fun e => (hnm'.out _ e.symm).1 rfl)))
  have hT5 : Tch (fp m o) w w5 := ((Tch.of_below (S := fp m o) k1).trans hT3 (fun b _ h => h)).trans (Tch.of_grown (S := fp m o) hg5 (fun k hk => .inr (.inr (ho'.out ▸ hk)))) (fun b _ h => h)
  have q5 := Lib.hid hB5
  have q7 := Lib.hid hT5
  have q8 := Lib.hid hO5
  have q9 := Lib.hid hv5
  clear hB5 hT5 hO5 hg5 hv5
  go_wp2_with fail
  ((try simp only [Exit.inBlock, Exit.then]); refine bodyPost_ret (results_tmp2 rfl _ _ _) rfl ?_)
  refine ⟨rfl, ⟨.slice a5 n5 c5, q5.out.set 2 (.slice a5 n5 c5), ?_, q9.out.trans ho'.out, ?_⟩, q7.out.trans (Tch.setCell (S := fp m o) w5 (p := ⟨m + 1, 2, none⟩) (.inr (.inl rfl)) _) (fun b _ h => h)⟩
  · rw [ids_drop]
    exact q8.out.keep fun k hk => Below.heap_setCell _ _ _ _ (by have := (q8.out.lt k hk).1; show k ≠ m + 1; omega)
  · rw [lookI_drop]
    exact hM5.out.keep (Below.heap_setCell _ _ _ _ (by show m ≠ m + 1; omega))
theorem info3p : (Try.prog.info? 3).map (fun i => (i.zero, i.size, i.bytes)) = some (some (.int .i64 0), 1, 8) := by kernel_rfl
theorem src_one (w : World) (x : Int) : Src Try.prog intE.k 36 (.slice (some ⟨w.heap.size, 0, none⟩) 1 1) 1 (rowOf intE [x]) (w.alloc (.cells #[.int .i64 x] 3)) :=
  (rd_blk (E := intE) (X := [x]) (Blk.new w 3 (0, 0) #[.int .i64 x]) 1 rfl (by decide)).src (P := Try.prog) (tx := 36) Try.underlying36
def kys (L : List (Int × Int)) : List Int := L.map (·.2)
theorem kys_length (L : List (Int × Int)) : (kys L).length = L.length := by simp [kys]
set_option maxHeartbeats 8000000 in
set_option maxRecDepth 100000 in
theorem pkeys {w : World} {m : Nat} {o : Option Nat} {most : Int} {L : List (Int × Int)} {n : Nat} (h : PipP w m o most L n) (hg : goodP L) (hL : L.length ≤ 1000000) :
    Calls Try.prog 16 #[.pointer (some ⟨m + 1, 0, none⟩)] w fun e w' => (∃ v, e = .returned v ∧ Own intE w' w.heap.size v (kys L)) ∧ Below w.heap.size w w' := by
  obtain ⟨i0, hi, hz0, hz1, hz2⟩ := info_parts info3p
  have hH := Lib.hid h
  obtain ⟨iv, h1, h2, ho, h4⟩ := h
  obtain ⟨ia, ic, e0, hR⟩ := h2.rd
  subst e0
  rw [ids_length] at h1 hR
  have c1 : w.cell? ⟨m + 1, 1, none⟩ = some (.map (some m)) := by rw [h1.cell]; rfl
  have c2 : w.cell? ⟨m + 1, 2, none⟩ = some (.slice ia L.length ic) := by rw [h1.cell]; rfl
  have hR' := Lib.hid hR
  have hg' := Lib.hid hg
  have hm1 := h1.lt
  have hM := Lib.hid h4
  clear h1 h2 ho h4 hR hg
  go_enter Try.func16, Try.ntmps16
  go_wp2_with fail
  refine (pnone c1).mono ?_
  rintro e w1 ⟨rfl, rfl⟩
  go_wp2_with fail
  go_loopw [3, 5, 13] (fun v _ i wr => ∃ k : Nat, k ≤ L.length ∧ i = .int .i64 k ∧ Hid (Own intE wr w.heap.size v ((kys L).take k)) ∧ Below w.heap.size w wr)
    (fun _ _ i _ => L.length - (intOf i).toNat)
  case atStart => exact ⟨0, Nat.zero_le _, rfl, Lib.hid (Own.nil _ _ _), Below.refl _ _⟩
  case round =>
    obtain ⟨k, hk, rfl, hO, hb⟩ := hrel
    by_cases hlt : k < L.length
    · have hkI : (k : Int) < L.length := by omega
      obtain ⟨b, o1, e1, hc⟩ := rd_id (hR'.out.ext hb) (by omega)
      subst e1
      have hck := hc k (by rw [ids_length]; exact hlt)
      have hid : (ids L)[k]'(by rw [ids_length]; exact hlt) = L[k].1 := by simp [ids]
      rw [hid] at hck
      have hwf := (hg'.out.2 L[k] (List.getElem_mem _)).1
      have r1 : wr.cell? ⟨m + 1, 1, none⟩ = some (.map (some m)) := (hb.cell (p := ⟨m + 1, 1, none⟩) hm1).trans c1
      have hl : (Instr.lookup 65 (.map (some m)) (.int .u16 L[k].1) false).run Try.prog wr = .ok (.int .i64 L[k].2) wr := by
        have h4' : Mp KU 3 .i64 wr m n (lookI L) := hM.out.keep (hb.block m hM.out.lt)
        have := h4'.look (t := 65) Try.underlying65 Try.underlying3 (zero3 wr) (x := L[k].1) hwf
        rw [lookI_at hg'.out.1 hlt] at this
        exact this
      have htk := Lib.hid (show (kys L).take (k + 1) = (kys L).take k ++ [L[k].2] by rw [List.take_succ_eq_append_getElem (by rw [kys_length]; exact hlt)]; simp [kys])
      obtain ⟨va, vc, e2⟩ := hO.out.shape
      have hln : ((kys L).take k).length = k := by rw [List.length_take, kys_length]; omega
      rw [hln] at e2
      subst e2
      generalize L[k].1 = x at *
      generalize L[k].2 = y at *
      have k4 : Below wr.heap.size wr (wr.alloc (.cells #[.int .i64 y] 3)) := (Below.refl _ _).alloc (Nat.le_refl _) _
      have o4 := Lib.hid (hO.out.ext k4)
      have s4 := Lib.hid (src_one wr y)
      have hb4 : Below w.heap.size w (wr.alloc (.cells #[.int .i64 y] 3)) := hb.alloc hb.size _
      have hln' := Lib.hid hln
      clear hc hid k4 hln
      go_wp2_with (at_builtin; refine app_own (E := intE) (news := [y]) rfl (.tmp 17) (.tmp 24) 36 36 rfl Try.underlying36 hi hz0 hz1 hz2 rfl rfl o4.out rfl s4.out ?c1 ?c2 hb4.size ?_)
      case c1 => have := hln'.out; simp [maxLen] at this ⊢; omega
      case c2 => have := hln'.out; simp at this ⊢; omega
      intro v5 w5 h5 hg5 _
      have hb5 : Below w.heap.size w w5 := own_below hb4 hg5 o4.out hb4.size (Nat.le_refl _)
      have h5' := Lib.hid h5
      clear h5 hg5
      go_wp2_with fail
      go_roundw
      case rel => exact ⟨k + 1, by omega, by go_num, Lib.hid (by rw [htk.out]; exact h5'.out), hb5⟩
      case measure => simp [intOf]; omega
    · have hk' : k = L.length := by omega
      subst hk'
      have hO' := hO.out
      rw [List.take_of_length_le (by rw [kys_length]; exact Nat.le_refl _)] at hO'
      have hO2 := Lib.hid hO'
      clear hO hO'
      go_wp2_with fail
      go_ret
      exact ⟨⟨_, rfl, hO2.out⟩, hb⟩
set_option maxHeartbeats 4000000 in
set_option maxRecDepth 100000 in
theorem same_ints {w : World} {a a' : Option Addr} {n c n' c' : Nat} {l l' : List Int} (h : Rd intE w a n c l) (h' : Rd intE w a' n' c' l') (hn : n ≤ 1000000) (hn' : n' ≤ 1000000) :
    Calls Try.prog 17 #[.slice a n c, .slice a' n' c'] w fun e w' => e = .returned (.bool (decide (l = l'))) ∧ Below w.heap.size w w' := by
  have hl := h.len
  have hl' := h'.len
  have hH := Lib.hid h
  have hH' := Lib.hid h'
  clear h h'
  by_cases hnn : n ≠ n'
  · have hne : decide (l = l') = false := by simp; intro e; rw [e] at hl; omega
    rw [hne]
    have hnI : (n : Int) ≠ n' := by omega
    go_enter Try.func17, Try.ntmps17
    go_wp2_with fail
    go_ret
    exact ⟨rfl, Below.refl _ _⟩
  have hnn : n = n' := by omega
  subst hnn
  go_enter Try.func17, Try.ntmps17
  go_wp2_with fail
  go_loopw [5] (fun i wr => ∃ k : Nat, k ≤ n ∧ i = .int .i64 k ∧ Hid (l.take k = l'.take k) ∧ Below w.heap.size w wr)
    (fun i _ => n - (intOf i).toNat)
  case atStart => exact ⟨0, Nat.zero_le _, rfl, Lib.hid rfl, Below.refl _ _⟩
  case round =>
    obtain ⟨k, hk, rfl, hq, hb⟩ := hrel
    by_cases hlt : k < n
    · have hkI : (k : Int) < n := by omega
      obtain ⟨b, o, e1, _, hc1⟩ := (hH.out.ext hb).addr (by omega)
      obtain ⟨b', o', e2, _, hc2⟩ := (hH'.out.ext hb).addr (by omega)
      subst e1 e2
      have r1 : wr.cell? ⟨b, o + k, none⟩ = some (.int .i64 (l[k]'(by omega))) := by simpa [intE] using hc1 k (by omega) 0 (by decide)
      have r2 : wr.cell? ⟨b', o' + k, none⟩ = some (.int .i64 (l'[k]'(by omega))) := by simpa [intE] using hc2 k (by omega) 0 (by decide)
      clear hc1 hc2
      by_cases hx : l[k]'(by omega) = l'[k]'(by omega)
      · have hst := Lib.hid (show l.take (k + 1) = l'.take (k + 1) by rw [List.take_succ_eq_append_getElem (by omega), List.take_succ_eq_append_getElem (by omega), hq.out, hx])
        rw [← hx] at r2
        generalize l[k]'(by omega) = x at *
        have hx' := Lib.hid hx
        clear hx
        go_wp2_with fail
        go_region
        go_wp2_with fail
        go_roundw
        case rel => exact ⟨k + 1, by omega, by go_num, hst, hb.drew⟩
        case measure => simp [intOf]; omega
      · have hne := Lib.hid (show decide (l = l') = false by simp; intro e; apply hx; simp [e])
        have hxB : (l[k]'(by omega) == l'[k]'(by omega)) = false := by simp [hx]
        generalize l[k]'(by omega) = x at *
        generalize l'[k]'(by omega) = y at *
        go_wp2_with fail
        go_region
        go_wp2_with fail
        go_ret
        rw [hne.out]
        exact ⟨rfl, hb.drew⟩
    · have hk' : k = n := by omega
      have hq2 := hq.out
      rw [List.take_of_length_le (by omega), List.take_of_length_le (by omega)] at hq2
      have he := Lib.hid (show decide (l = l') = true by simp [hq2])
      clear hq2 hq
      subst hk'
      go_wp2_with fail
      go_ret
      rw [he.out]
      exact ⟨rfl, hb⟩
end Go.Proofs.Ytmimbfikjnfhdaa
