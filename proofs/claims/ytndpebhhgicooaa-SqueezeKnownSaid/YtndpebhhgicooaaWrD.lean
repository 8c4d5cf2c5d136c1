/- Name 27 where the name may be and there is room. -/
import Derived.Test.YtndpebhhgicooaaWrC
import Derived.Test.YtndpebhhgicooaaCut
namespace Go.Proofs.Ytndpebhhgicooaa
open Go Go.RowKit Go.Maps
theorem checkL_drop {L : Nm} (h : checkL L = 0) (k : Nat) : checkL (L.drop k) = 0 := by
  obtain ⟨h1, h2⟩ := checkL_zero h
  have h3 : sizeL (L.drop k) ≤ sizeL L := by
    have e : sizeL L = sizeL (L.take k) + sizeL (L.drop k) - 1 := by
      conv => lhs; rw [← List.take_append_drop k L]
      unfold sizeL
      rw [List.map_append, List.sum_append]
      omega
    have := sizeL_ge (L.take k)
    omega
  unfold checkL
  rw [if_pos (fun s hs => h1 s (List.mem_of_mem_drop hs)), if_neg (by omega)]
theorem wrN_len (B0 : Nat) (f : List UInt8 → Option Int) (back : Bool) : ∀ (L : Nm) (out : List UInt8) (fr : List UInt8 → Option Int), (wrN B0 f back out fr L).1.length ≤ out.length + sizeL L := by
  intro L
  induction L with
  | nil => intro out fr; simp [wrN, sizeL]
  | cons s r ih =>
    intro out fr
    have e : sizeL (s :: r) = s.length + 1 + sizeL r := by unfold sizeL; simp; omega
    have h1 := sizeL_ge r
    have hlab : ∀ fr', (wrN B0 f back (out ++ UInt8.ofNat s.length :: s) fr' r).1.length ≤ out.length + sizeL (s :: r) := fun fr' => by
      have := ih (out ++ UInt8.ofNat s.length :: s) fr'
      simp at this
      omega
    unfold wrN
    cases f (octL (s :: r)) with
    | none => exact hlab _
    | some v =>
      dsimp only
      split
      · simp [ptrB]; omega
      · exact hlab _
theorem sizeL_cons (s : List UInt8) (r : Nm) : sizeL (s :: r) = s.length + 1 + sizeL r := by unfold sizeL; simp; omega
theorem wrN_no {B0 : Nat} {f : List UInt8 → Option Int} {back : Bool} {out : List UInt8} {fr : List UInt8 → Option Int} {s : List UInt8} {r : Nm} (h : f (octL (s :: r)) = none) :
    wrN B0 f back out fr (s :: r) = wrN B0 f back (out ++ UInt8.ofNat s.length :: s) (if B0 + out.length < 16384 then fun x => if x = octL (s :: r) then some ((B0 + out.length : Nat) : Int) else fr x else fr) r := by
  rw [wrN, h]
theorem wrN_skip {B0 : Nat} {f : List UInt8 → Option Int} {out : List UInt8} {fr : List UInt8 → Option Int} {s : List UInt8} {r : Nm} {v : Int} (h : f (octL (s :: r)) = some v) :
    wrN B0 f false out fr (s :: r) = wrN B0 f false (out ++ UInt8.ofNat s.length :: s) fr r := by
  rw [wrN, h]; rfl
theorem wrN_ptr {B0 : Nat} {f : List UInt8 → Option Int} {out : List UInt8} {fr : List UInt8 → Option Int} {s : List UInt8} {r : Nm} {v : Int} (h : f (octL (s :: r)) = some v) :
    wrN B0 f true out fr (s :: r) = (out ++ ptrB v, fr) := by
  rw [wrN, h]; rfl
set_option maxHeartbeats 8000000 in
set_option maxRecDepth 100000 in
theorem wr_name {w : World} {lo g : Nat} {B : List UInt8} {nm : Nat} {f : List UInt8 → Option Int} {a : Option Addr} {c mb : Nat} (h : Wr w lo g B nm f a c mb) (hlo : lo ≤ w.heap.size) {an : Option Addr} {n cn : Nat} {L : Nm} (hN : Rd strE w an n cn L) (hc : checkL L = 0)
    (hf : ∀ x v, f x = some v → 0 ≤ v ∧ v < 16384) (back : Bool) (hr : B.length + sizeL L ≤ 65535) (hnm : nm + 1000 < 1000000) :
    Calls Try.prog 27 #[.pointer (some ⟨g, 0, none⟩), .slice an n cn, .bool back] w fun e w' => e = .returned (.int .i64 0) ∧ (∃ a' c' nm', nm' ≤ nm + n ∧ Wr w' lo g (B ++ (wrN B.length f back [] (fun _ => none) L).1) nm' (over (wrN B.length f back [] (fun _ => none) L).2 f) a' c' mb) ∧
      Tch (fun k => k = g ∨ k = mb ∨ (Value.slice a B.length c).ownBlock = some k) w w' := by
  have hl := hN.len
  have hmm := @run_makeMap Try.prog
  have hh := Lib.hid h
  have hNN := Lib.hid hN
  have hff := Lib.hid hf
  have hn254 := checkL_len hc
  obtain ⟨R1, R2, hRES⟩ : ∃ R1 R2, wrN B.length f back [] (fun _ => none) L = (R1, R2) := ⟨_, _, rfl⟩
  rw [hRES]
  have hR0 := Lib.hid hRES
  clear h hN hf hRES
  go_enter Try.func27, Try.ntmps27
  go_wp2_with fail
  refine (wr_none hh.out.blk).mono ?_
  rintro e w1 ⟨rfl, rfl⟩
  go_wp2_with fail
  refine (check_any hNN.out (by omega)).mono ?_
  rw [hc]
  rintro e w1 ⟨rfl, rfl⟩
  go_wp2_with fail
  have hb0 : Below w.heap.size w (w.alloc (.map #[] 0)) := (Below.refl _ _).alloc (Nat.le_refl _) _
  have hM0 := Mp.made kS 3 .i64 w
  go_loopw [8, 27] (fun v8 i wr => ∃ (k : Nat) (out : List UInt8) (fr : List UInt8 → Option Int), k ≤ n ∧ i = .int .i64 k ∧ Hid (Own byteE wr (w.heap.size + 1) v8 out) ∧ Hid (Mp kS 3 .i64 wr w.heap.size k fr) ∧ Hid (wrN B.length f back out fr (L.drop k) = (R1, R2)) ∧ out.length + sizeL (L.drop k) ≤ sizeL L ∧ Hid (Below w.heap.size w wr) ∧ w.heap.size + 1 ≤ wr.heap.size)
    (fun _ i _ => n - (intOf i).toNat)
  case atStart => exact ⟨0, [], fun _ => none, Nat.zero_le _, rfl, Lib.hid (Own.nil _ _ _), Lib.hid hM0, by rw [List.drop_zero]; exact hR0, by simp, Lib.hid hb0, by simp⟩
  case round =>
    obtain ⟨k, out, fr, hk, rfl, ho, hM, hR, hsz, hb, hws⟩ := hrel
    clear hM0 hb0
    by_cases hlt : k < n
    · skip
      have hkL : k < L.length := by omega
      have hNk := hNN.out.ext hb.out
      obtain ⟨a2, hrun, hN2⟩ := cut_l (P := Try.prog) hNk 25 Try.underlying25 (by kernel_rfl) .i64 (k : Int) k rfl hk
      have hN2' := Lib.hid hN2
      have hkI : (k : Int) < n := by omega
      clear hNk hN2
      go_wp2_with fail
      refine (bytes_ok hN2'.out (checkL_drop hc k)).mono ?_
      rintro e w2 ⟨⟨v9, rfl, hO9⟩, hb2⟩
      obtain ⟨key, hkey⟩ : ∃ key, octL (L.drop k) = key := ⟨_, rfl⟩
      rw [hkey] at hO9
      obtain ⟨a9, c9, rfl, hR9⟩ := hO9.rd
      have hstr := rd_toStr (P := Try.prog) hR9 22 9 Try.underlying22 Try.underlying5 Try.underlying9
      have hbw2 := hb.out.trans (hb2.mono (by omega))
      have hW2 := hh.out.ext hbw2
      have hdl : key.length = sizeL (L.drop k) := by rw [← hkey]; exact octL_len _
      have hok : kS.ok key := (by show key.length ≤ maxLen; unfold maxLen; omega)
      have hlk := hW2.map.lookOk Try.underlying58 Try.underlying3 (by kernel_rfl) hok
      have cg1 : w2.cell? ⟨g, 1, none⟩ = some (.map (some mb)) := (hW2.blk.cell 1).trans rfl
      have cg0 : w2.cell? ⟨g, 0, none⟩ = some (.slice a B.length c) := (hW2.blk.cell 0).trans rfl
      have ho2 := Lib.hid (ho.out.ext hb2)
      have hM2 := Lib.hid (hM.out.keep (hb2.block w.heap.size (by omega)))
      have hz2 : Hid (wr.heap.size ≤ w2.heap.size) := Lib.hid hb2.size
      have hb2' := Lib.hid hbw2
      have hW2' := Lib.hid hW2
      obtain ⟨av, cv, hav⟩ := ho.out.shape
      subst hav
      have hdr : L.drop k = L[k] :: L.drop (k + 1) := List.drop_eq_getElem_cons hkL
      have hdr' := Lib.hid hdr
      have hdl' := Lib.hid hdl
      have hkey' := Lib.hid hkey
      clear hb2 hbw2 hW2 hO9 hR9 ho hM hb hdr hdl hkey
      obtain hfx | ⟨v, hfx⟩ : f key = none ∨ ∃ v, f key = some v := by
        cases f key with
        | none => exact .inl rfl
        | some v => exact .inr ⟨v, rfl⟩
      · have hlk' : (Instr.lookup 58 (.map (some mb)) (.string (mk key)) true).run Try.prog w2 = .ok (.tuple #[.int .i64 0, .bool false]) w2 := by rw [hfx] at hlk; exact hlk
        clear hlk
        by_cases h16 : B.length + out.length < 16384
        · have h16I : (B.length : Int) + out.length < 16384 := by omega
          obtain ⟨wX, hrun3, hM3, hg3, hs3⟩ := hM2.out.store Try.underlying58 Try.underlying3 (by unfold maxLen; omega) hok (v := (B.length : Int) + out.length) (WalkArith.wf_i64 (by omega))
          have hrun3' : (Instr.mapUpdate 58 (.map (some w.heap.size)) (.string (mk key)) (.int .i64 ((B.length : Int) + out.length))).run Try.prog w2 = .ok () wX := hrun3
          have hoX := Lib.hid (ho2.out.keep (fun j hj => hg3.block j (ho2.out.lt j hj).2 (fun e => by have h9 := Option.some.inj e; have := (ho2.out.lt j hj).1; omega)))
          have hMX := Lib.hid hM3
          have hbX := Lib.hid (hb2'.out.grown hg3 hb2'.out.size (fun j hj => by cases hj; exact Nat.le_refl _))
          have hzX : Hid (w.heap.size + 1 ≤ wX.heap.size) := Lib.hid (by have := hz2.out; omega)
          have h0R := hR.out
          rw [hdr'.out] at h0R
          have hR' := Lib.hid ((wrN_no (back := back) (out := out) (fr := fr) (B0 := B.length) (f := f) (s := L[k]) (r := L.drop (k + 1)) (by rw [← hdr'.out, hkey'.out]; exact hfx)).symm.trans h0R)
          clear h0R
          clear hrun3 hM3 hg3 hs3 hM2 ho2
          cases back
          · obtain ⟨bn, on, hane, hcs⟩ := rd_str (hNN.out.ext hbX.out) (by omega)
            have hck := hcs k hkL
            have hel := (checkL_63 hc) _ (List.getElem_mem hkL)
            have hsd : sizeL (L.drop k) = L[k].length + 1 + sizeL (L.drop (k + 1)) := by rw [hdr'.out]; exact sizeL_cons _ _
            clear hcs
            subst hane
            have hsd' := Lib.hid hsd
            have hge := sizeL_ge (L.drop (k + 1))
            have hge' := Lib.hid hge
            clear hsd hge
            generalize hX : L[k] = Y at *
            obtain ⟨i0, hi, hz0, hz1, hz2'⟩ := info_parts Try.info5
            have hlit := Lib.hid (src_lit (P := Try.prog) (E := byteE) (w := wX) (tx := 22) Try.underlying22 #[.int .u8 Y.length] [UInt8.ofNat Y.length] 1 rfl (by rw [rowOf_byte]; simp [u8s, u8] <;> omega))
            have hbx2 := Lib.hid (hbX.out.alloc hbX.out.size (.cells #[.int .u8 Y.length] 5))
            have hox2 := Lib.hid (hoX.out.ext ((Below.refl _ _).alloc (Nat.le_refl _) (.cells #[.int .u8 Y.length] 5)))
            have hMx2 := Lib.hid (hMX.out.keep (Below.heap_alloc wX (.cells #[.int .u8 Y.length] 5) w.heap.size (by have := hzX.out; omega)))
            have hY63 : (Y.length : Int) ≤ 63 := by omega
            have hzx2 : Hid (w.heap.size + 1 ≤ (wX.alloc (.cells #[.int .u8 Y.length] 5)).heap.size) := Lib.hid (by have h9 := hzX.out; rw [World.size_alloc]; omega)
            have hszk := hsz
            go_wp2_with (at_builtin; refine app_own (E := byteE) rfl (.tmp 82) (.tmp 89) 22 22 rfl Try.underlying22 hi hz0 hz1 hz2' rfl rfl hox2.out rfl hlit.out ?c1 ?c2 hzx2.out ?_)
            case c1 => simp [maxLen]; omega
            case c2 => simp; omega
            intro v3 w3 h3 hg3 _
            obtain ⟨a3, cap3, hv3⟩ := h3.shape
            have hl3 : (out ++ [UInt8.ofNat Y.length]).length = out.length + 1 := by simp
            rw [hl3] at hv3
            subst hv3
            clear hl3
            have h3l := Lib.hid (fun j hj => (h3.lt j hj).1)
            have hb3 := Lib.hid (hbx2.out.grown hg3 hbx2.out.size (fun j hj => by have := (hox2.out.lt j hj).1; omega))
            have hM3 := Lib.hid (hMx2.out.keep (hg3.block w.heap.size (by have := hzx2.out; omega) (fun e => by have := (hox2.out.lt w.heap.size e.symm).1; omega)))
            have hz3 : Hid (w.heap.size + 1 ≤ w3.heap.size) := Lib.hid (by have := hzx2.out; have := hg3.size; omega)
            have hck3 : w3.cell? ⟨bn, on + k, none⟩ = some (.string (mk Y)) := by
              obtain ⟨b9, o9, e9, hc9⟩ := rd_str (hNN.out.ext hb3.out) (by omega)
              simp only [Option.some.injEq, Addr.mk.injEq] at e9
              obtain ⟨rfl, rfl, _⟩ := e9
              rw [← hX]; exact hc9 k hkL
            have h3' := Lib.hid h3
            clear h3 hg3 hlit hox2 hMx2 hbx2 hck
            go_wp2_with (at_builtin; refine app_own (E := byteE) rfl (.tmp 91) (.tmp 95) 22 9 rfl Try.underlying22 hi hz0 hz1 hz2' rfl rfl h3'.out rfl (src_str Try.underlying9 Y) ?d1 ?d2 hz3.out ?_)
            case d1 => simp [maxLen]; omega
            case d2 => simp; omega
            intro v4 w4 h4 hg4 _
            obtain ⟨a4, cap4, hv4⟩ := h4.shape
            subst hv4
            have hb4 := Lib.hid (hb3.out.grown hg4 hb3.out.size (fun j hj => by have := h3l.out j hj; omega))
            have hM4 := Lib.hid (hM3.out.keep (hg4.block w.heap.size (by have := hz3.out; omega) (fun e => by have := h3l.out w.heap.size e.symm; omega)))
            have hz4 : w.heap.size + 1 ≤ w4.heap.size := by have := hz3.out; have := hg4.size; omega
            have h4' := Lib.hid h4
            clear h4 hg4
            go_wp2_with fail
            go_roundw
            case rel => exact ⟨k + 1, out ++ UInt8.ofNat Y.length :: Y, _, by omega, by go_num, Lib.hid (by simpa using h4'.out), hM4, Lib.hid (by have h8 := hR'.out; rw [if_pos h16, ← hdr'.out, hkey'.out] at h8; exact h8), by have := hsd'.out; simp; omega, hb4, hz4⟩
            case measure => simp [intOf]; omega
          · obtain ⟨bn, on, hane, hcs⟩ := rd_str (hNN.out.ext hbX.out) (by omega)
            have hck := hcs k hkL
            have hel := (checkL_63 hc) _ (List.getElem_mem hkL)
            have hsd : sizeL (L.drop k) = L[k].length + 1 + sizeL (L.drop (k + 1)) := by rw [hdr'.out]; exact sizeL_cons _ _
            clear hcs
            subst hane
            have hsd' := Lib.hid hsd
            have hge := sizeL_ge (L.drop (k + 1))
            have hge' := Lib.hid hge
            clear hsd hge
            generalize hX : L[k] = Y at *
            obtain ⟨i0, hi, hz0, hz1, hz2'⟩ := info_parts Try.info5
            have hlit := Lib.hid (src_lit (P := Try.prog) (E := byteE) (w := wX) (tx := 22) Try.underlying22 #[.int .u8 Y.length] [UInt8.ofNat Y.length] 1 rfl (by rw [rowOf_byte]; simp [u8s, u8] <;> omega))
            have hbx2 := Lib.hid (hbX.out.alloc hbX.out.size (.cells #[.int .u8 Y.length] 5))
            have hox2 := Lib.hid (hoX.out.ext ((Below.refl _ _).alloc (Nat.le_refl _) (.cells #[.int .u8 Y.length] 5)))
            have hMx2 := Lib.hid (hMX.out.keep (Below.heap_alloc wX (.cells #[.int .u8 Y.length] 5) w.heap.size (by have := hzX.out; omega)))
            have hY63 : (Y.length : Int) ≤ 63 := by omega
            have hzx2 : Hid (w.heap.size + 1 ≤ (wX.alloc (.cells #[.int .u8 Y.length] 5)).heap.size) := Lib.hid (by have h9 := hzX.out; rw [World.size_alloc]; omega)
            have hszk := hsz
            go_wp2_with (at_builtin; refine app_own (E := byteE) rfl (.tmp 82) (.tmp 89) 22 22 rfl Try.underlying22 hi hz0 hz1 hz2' rfl rfl hox2.out rfl hlit.out ?c1 ?c2 hzx2.out ?_)
            case c1 => simp [maxLen]; omega
            case c2 => simp; omega
            intro v3 w3 h3 hg3 _
            obtain ⟨a3, cap3, hv3⟩ := h3.shape
            have hl3 : (out ++ [UInt8.ofNat Y.length]).length = out.length + 1 := by simp
            rw [hl3] at hv3
            subst hv3
            clear hl3
            have h3l := Lib.hid (fun j hj => (h3.lt j hj).1)
            have hb3 := Lib.hid (hbx2.out.grown hg3 hbx2.out.size (fun j hj => by have := (hox2.out.lt j hj).1; omega))
            have hM3 := Lib.hid (hMx2.out.keep (hg3.block w.heap.size (by have := hzx2.out; omega) (fun e => by have := (hox2.out.lt w.heap.size e.symm).1; omega)))
            have hz3 : Hid (w.heap.size + 1 ≤ w3.heap.size) := Lib.hid (by have := hzx2.out; have := hg3.size; omega)
            have hck3 : w3.cell? ⟨bn, on + k, none⟩ = some (.string (mk Y)) := by
              obtain ⟨b9, o9, e9, hc9⟩ := rd_str (hNN.out.ext hb3.out) (by omega)
              simp only [Option.some.injEq, Addr.mk.injEq] at e9
              obtain ⟨rfl, rfl, _⟩ := e9
              rw [← hX]; exact hc9 k hkL
            have h3' := Lib.hid h3
            clear h3 hg3 hlit hox2 hMx2 hbx2 hck
            go_wp2_with (at_builtin; refine app_own (E := byteE) rfl (.tmp 91) (.tmp 95) 22 9 rfl Try.underlying22 hi hz0 hz1 hz2' rfl rfl h3'.out rfl (src_str Try.underlying9 Y) ?d1 ?d2 hz3.out ?_)
            case d1 => simp [maxLen]; omega
            case d2 => simp; omega
            intro v4 w4 h4 hg4 _
            obtain ⟨a4, cap4, hv4⟩ := h4.shape
            subst hv4
            have hb4 := Lib.hid (hb3.out.grown hg4 hb3.out.size (fun j hj => by have := h3l.out j hj; omega))
            have hM4 := Lib.hid (hM3.out.keep (hg4.block w.heap.size (by have := hz3.out; omega) (fun e => by have := h3l.out w.heap.size e.symm; omega)))
            have hz4 : w.heap.size + 1 ≤ w4.heap.size := by have := hz3.out; have := hg4.size; omega
            have h4' := Lib.hid h4
            clear h4 hg4
            go_wp2_with fail
            go_roundw
            case rel => exact ⟨k + 1, out ++ UInt8.ofNat Y.length :: Y, _, by omega, by go_num, Lib.hid (by simpa using h4'.out), hM4, Lib.hid (by have h8 := hR'.out; rw [if_pos h16, ← hdr'.out, hkey'.out] at h8; exact h8), by have := hsd'.out; simp; omega, hb4, hz4⟩
            case measure => simp [intOf]; omega
        · have h16I : ¬ (B.length : Int) + out.length < 16384 := by omega
          have hzX : Hid (w.heap.size + 1 ≤ w2.heap.size) := Lib.hid (by have := hz2.out; omega)
          have h0R := hR.out
          rw [hdr'.out] at h0R
          have hR' := Lib.hid ((wrN_no (back := back) (out := out) (fr := fr) (B0 := B.length) (f := f) (s := L[k]) (r := L.drop (k + 1)) (by rw [← hdr'.out, hkey'.out]; exact hfx)).symm.trans h0R)
          clear h0R
          cases back
          · obtain ⟨bn, on, hane, hcs⟩ := rd_str (hNN.out.ext hb2'.out) (by omega)
            have hck := hcs k hkL
            have hel := (checkL_63 hc) _ (List.getElem_mem hkL)
            have hsd : sizeL (L.drop k) = L[k].length + 1 + sizeL (L.drop (k + 1)) := by rw [hdr'.out]; exact sizeL_cons _ _
            clear hcs
            subst hane
            have hsd' := Lib.hid hsd
            have hge := sizeL_ge (L.drop (k + 1))
            have hge' := Lib.hid hge
            clear hsd hge
            generalize hX : L[k] = Y at *
            obtain ⟨i0, hi, hz0, hz1, hz2'⟩ := info_parts Try.info5
            have hlit := Lib.hid (src_lit (P := Try.prog) (E := byteE) (w := w2) (tx := 22) Try.underlying22 #[.int .u8 Y.length] [UInt8.ofNat Y.length] 1 rfl (by rw [rowOf_byte]; simp [u8s, u8] <;> omega))
            have hbx2 := Lib.hid (hb2'.out.alloc hb2'.out.size (.cells #[.int .u8 Y.length] 5))
            have hox2 := Lib.hid (ho2.out.ext ((Below.refl _ _).alloc (Nat.le_refl _) (.cells #[.int .u8 Y.length] 5)))
            have hMx2 := Lib.hid (hM2.out.keep (Below.heap_alloc w2 (.cells #[.int .u8 Y.length] 5) w.heap.size (by have := hzX.out; omega)))
            have hY63 : (Y.length : Int) ≤ 63 := by omega
            have hzx2 : Hid (w.heap.size + 1 ≤ (w2.alloc (.cells #[.int .u8 Y.length] 5)).heap.size) := Lib.hid (by have h9 := hzX.out; rw [World.size_alloc]; omega)
            have hszk := hsz
            go_wp2_with (at_builtin; refine app_own (E := byteE) rfl (.tmp 82) (.tmp 89) 22 22 rfl Try.underlying22 hi hz0 hz1 hz2' rfl rfl hox2.out rfl hlit.out ?c1 ?c2 hzx2.out ?_)
            case c1 => simp [maxLen]; omega
            case c2 => simp; omega
            intro v3 w3 h3 hg3 _
            obtain ⟨a3, cap3, hv3⟩ := h3.shape
            have hl3 : (out ++ [UInt8.ofNat Y.length]).length = out.length + 1 := by simp
            rw [hl3] at hv3
            subst hv3
            clear hl3
            have h3l := Lib.hid (fun j hj => (h3.lt j hj).1)
            have hb3 := Lib.hid (hbx2.out.grown hg3 hbx2.out.size (fun j hj => by have := (hox2.out.lt j hj).1; omega))
            have hM3 := Lib.hid (hMx2.out.keep (hg3.block w.heap.size (by have := hzx2.out; omega) (fun e => by have := (hox2.out.lt w.heap.size e.symm).1; omega)))
            have hz3 : Hid (w.heap.size + 1 ≤ w3.heap.size) := Lib.hid (by have := hzx2.out; have := hg3.size; omega)
            have hck3 : w3.cell? ⟨bn, on + k, none⟩ = some (.string (mk Y)) := by
              obtain ⟨b9, o9, e9, hc9⟩ := rd_str (hNN.out.ext hb3.out) (by omega)
              simp only [Option.some.injEq, Addr.mk.injEq] at e9
              obtain ⟨rfl, rfl, _⟩ := e9
              rw [← hX]; exact hc9 k hkL
            have h3' := Lib.hid h3
            clear h3 hg3 hlit hox2 hMx2 hbx2 hck
            go_wp2_with (at_builtin; refine app_own (E := byteE) rfl (.tmp 91) (.tmp 95) 22 9 rfl Try.underlying22 hi hz0 hz1 hz2' rfl rfl h3'.out rfl (src_str Try.underlying9 Y) ?d1 ?d2 hz3.out ?_)
            case d1 => simp [maxLen]; omega
            case d2 => simp; omega
            intro v4 w4 h4 hg4 _
            obtain ⟨a4, cap4, hv4⟩ := h4.shape
            subst hv4
            have hb4 := Lib.hid (hb3.out.grown hg4 hb3.out.size (fun j hj => by have := h3l.out j hj; omega))
            have hM4 := Lib.hid (hM3.out.keep (hg4.block w.heap.size (by have := hz3.out; omega) (fun e => by have := h3l.out w.heap.size e.symm; omega)))
            have hz4 : w.heap.size + 1 ≤ w4.heap.size := by have := hz3.out; have := hg4.size; omega
            have h4' := Lib.hid h4
            clear h4 hg4
            go_wp2_with fail
            go_roundw
            case rel => exact ⟨k + 1, out ++ UInt8.ofNat Y.length :: Y, _, by omega, by go_num, Lib.hid (by simpa using h4'.out), Lib.hid (hM4.out.mono (Nat.le_succ k)), Lib.hid (by have h8 := hR'.out; rw [if_neg h16] at h8; exact h8), by have := hsd'.out; simp; omega, hb4, hz4⟩
            case measure => simp [intOf]; omega
          · obtain ⟨bn, on, hane, hcs⟩ := rd_str (hNN.out.ext hb2'.out) (by omega)
            have hck := hcs k hkL
            have hel := (checkL_63 hc) _ (List.getElem_mem hkL)
            have hsd : sizeL (L.drop k) = L[k].length + 1 + sizeL (L.drop (k + 1)) := by rw [hdr'.out]; exact sizeL_cons _ _
            clear hcs
            subst hane
            have hsd' := Lib.hid hsd
            have hge := sizeL_ge (L.drop (k + 1))
            have hge' := Lib.hid hge
            clear hsd hge
            generalize hX : L[k] = Y at *
            obtain ⟨i0, hi, hz0, hz1, hz2'⟩ := info_parts Try.info5
            have hlit := Lib.hid (src_lit (P := Try.prog) (E := byteE) (w := w2) (tx := 22) Try.underlying22 #[.int .u8 Y.length] [UInt8.ofNat Y.length] 1 rfl (by rw [rowOf_byte]; simp [u8s, u8] <;> omega))
            have hbx2 := Lib.hid (hb2'.out.alloc hb2'.out.size (.cells #[.int .u8 Y.length] 5))
            have hox2 := Lib.hid (ho2.out.ext ((Below.refl _ _).alloc (Nat.le_refl _) (.cells #[.int .u8 Y.length] 5)))
            have hMx2 := Lib.hid (hM2.out.keep (Below.heap_alloc w2 (.cells #[.int .u8 Y.length] 5) w.heap.size (by have := hzX.out; omega)))
            have hY63 : (Y.length : Int) ≤ 63 := by omega
            have hzx2 : Hid (w.heap.size + 1 ≤ (w2.alloc (.cells #[.int .u8 Y.length] 5)).heap.size) := Lib.hid (by have h9 := hzX.out; rw [World.size_alloc]; omega)
            have hszk := hsz
            go_wp2_with (at_builtin; refine app_own (E := byteE) rfl (.tmp 82) (.tmp 89) 22 22 rfl Try.underlying22 hi hz0 hz1 hz2' rfl rfl hox2.out rfl hlit.out ?c1 ?c2 hzx2.out ?_)
            case c1 => simp [maxLen]; omega
            case c2 => simp; omega
            intro v3 w3 h3 hg3 _
            obtain ⟨a3, cap3, hv3⟩ := h3.shape
            have hl3 : (out ++ [UInt8.ofNat Y.length]).length = out.length + 1 := by simp
            rw [hl3] at hv3
            subst hv3
            clear hl3
            have h3l := Lib.hid (fun j hj => (h3.lt j hj).1)
            have hb3 := Lib.hid (hbx2.out.grown hg3 hbx2.out.size (fun j hj => by have := (hox2.out.lt j hj).1; omega))
            have hM3 := Lib.hid (hMx2.out.keep (hg3.block w.heap.size (by have := hzx2.out; omega) (fun e => by have := (hox2.out.lt w.heap.size e.symm).1; omega)))
            have hz3 : Hid (w.heap.size + 1 ≤ w3.heap.size) := Lib.hid (by have := hzx2.out; have := hg3.size; omega)
            have hck3 : w3.cell? ⟨bn, on + k, none⟩ = some (.string (mk Y)) := by
              obtain ⟨b9, o9, e9, hc9⟩ := rd_str (hNN.out.ext hb3.out) (by omega)
              simp only [Option.some.injEq, Addr.mk.injEq] at e9
              obtain ⟨rfl, rfl, _⟩ := e9
              rw [← hX]; exact hc9 k hkL
            have h3' := Lib.hid h3
            clear h3 hg3 hlit hox2 hMx2 hbx2 hck
            go_wp2_with (at_builtin; refine app_own (E := byteE) rfl (.tmp 91) (.tmp 95) 22 9 rfl Try.underlying22 hi hz0 hz1 hz2' rfl rfl h3'.out rfl (src_str Try.underlying9 Y) ?d1 ?d2 hz3.out ?_)
            case d1 => simp [maxLen]; omega
            case d2 => simp; omega
            intro v4 w4 h4 hg4 _
            obtain ⟨a4, cap4, hv4⟩ := h4.shape
            subst hv4
            have hb4 := Lib.hid (hb3.out.grown hg4 hb3.out.size (fun j hj => by have := h3l.out j hj; omega))
            have hM4 := Lib.hid (hM3.out.keep (hg4.block w.heap.size (by have := hz3.out; omega) (fun e => by have := h3l.out w.heap.size e.symm; omega)))
            have hz4 : w.heap.size + 1 ≤ w4.heap.size := by have := hz3.out; have := hg4.size; omega
            have h4' := Lib.hid h4
            clear h4 hg4
            go_wp2_with fail
            go_roundw
            case rel => exact ⟨k + 1, out ++ UInt8.ofNat Y.length :: Y, _, by omega, by go_num, Lib.hid (by simpa using h4'.out), Lib.hid (hM4.out.mono (Nat.le_succ k)), Lib.hid (by have h8 := hR'.out; rw [if_neg h16] at h8; exact h8), by have := hsd'.out; simp; omega, hb4, hz4⟩
            case measure => simp [intOf]; omega
      · have hlk' : (Instr.lookup 58 (.map (some mb)) (.string (mk key)) true).run Try.prog w2 = .ok (.tuple #[.int .i64 v, .bool true]) w2 := by rw [hfx] at hlk; exact hlk
        clear hlk
        cases back
        · have hzX : Hid (w.heap.size + 1 ≤ w2.heap.size) := Lib.hid (by have := hz2.out; omega)
          have h0R := hR.out
          rw [hdr'.out] at h0R
          have hR' := Lib.hid ((wrN_skip (out := out) (fr := fr) (B0 := B.length) (f := f) (s := L[k]) (r := L.drop (k + 1)) (v := v) (by rw [← hdr'.out, hkey'.out]; exact hfx)).symm.trans h0R)
          clear h0R
          obtain ⟨bn, on, hane, hcs⟩ := rd_str (hNN.out.ext hb2'.out) (by omega)
          have hck := hcs k hkL
          have hel := (checkL_63 hc) _ (List.getElem_mem hkL)
          have hsd : sizeL (L.drop k) = L[k].length + 1 + sizeL (L.drop (k + 1)) := by rw [hdr'.out]; exact sizeL_cons _ _
          clear hcs
          subst hane
          have hsd' := Lib.hid hsd
          have hge := sizeL_ge (L.drop (k + 1))
          have hge' := Lib.hid hge
          clear hsd hge
          generalize hX : L[k] = Y at *
          obtain ⟨i0, hi, hz0, hz1, hz2'⟩ := info_parts Try.info5
          have hlit := Lib.hid (src_lit (P := Try.prog) (E := byteE) (w := w2) (tx := 22) Try.underlying22 #[.int .u8 Y.length] [UInt8.ofNat Y.length] 1 rfl (by rw [rowOf_byte]; simp [u8s, u8] <;> omega))
          have hbx2 := Lib.hid (hb2'.out.alloc hb2'.out.size (.cells #[.int .u8 Y.length] 5))
          have hox2 := Lib.hid (ho2.out.ext ((Below.refl _ _).alloc (Nat.le_refl _) (.cells #[.int .u8 Y.length] 5)))
          have hMx2 := Lib.hid (hM2.out.keep (Below.heap_alloc w2 (.cells #[.int .u8 Y.length] 5) w.heap.size (by have := hzX.out; omega)))
          have hY63 : (Y.length : Int) ≤ 63 := by omega
          have hzx2 : Hid (w.heap.size + 1 ≤ (w2.alloc (.cells #[.int .u8 Y.length] 5)).heap.size) := Lib.hid (by have h9 := hzX.out; rw [World.size_alloc]; omega)
          have hszk := hsz
          go_wp2_with (at_builtin; refine app_own (E := byteE) rfl (.tmp 82) (.tmp 89) 22 22 rfl Try.underlying22 hi hz0 hz1 hz2' rfl rfl hox2.out rfl hlit.out ?c1 ?c2 hzx2.out ?_)
          case c1 => simp [maxLen]; omega
          case c2 => simp; omega
          intro v3 w3 h3 hg3 _
          obtain ⟨a3, cap3, hv3⟩ := h3.shape
          have hl3 : (out ++ [UInt8.ofNat Y.length]).length = out.length + 1 := by simp
          rw [hl3] at hv3
          subst hv3
          clear hl3
          have h3l := Lib.hid (fun j hj => (h3.lt j hj).1)
          have hb3 := Lib.hid (hbx2.out.grown hg3 hbx2.out.size (fun j hj => by have := (hox2.out.lt j hj).1; omega))
          have hM3 := Lib.hid (hMx2.out.keep (hg3.block w.heap.size (by have := hzx2.out; omega) (fun e => by have := (hox2.out.lt w.heap.size e.symm).1; omega)))
          have hz3 : Hid (w.heap.size + 1 ≤ w3.heap.size) := Lib.hid (by have := hzx2.out; have := hg3.size; omega)
          have hck3 : w3.cell? ⟨bn, on + k, none⟩ = some (.string (mk Y)) := by
            obtain ⟨b9, o9, e9, hc9⟩ := rd_str (hNN.out.ext hb3.out) (by omega)
            simp only [Option.some.injEq, Addr.mk.injEq] at e9
            obtain ⟨rfl, rfl, _⟩ := e9
            rw [← hX]; exact hc9 k hkL
          have h3' := Lib.hid h3
          clear h3 hg3 hlit hox2 hMx2 hbx2 hck
          go_wp2_with (at_builtin; refine app_own (E := byteE) rfl (.tmp 91) (.tmp 95) 22 9 rfl Try.underlying22 hi hz0 hz1 hz2' rfl rfl h3'.out rfl (src_str Try.underlying9 Y) ?d1 ?d2 hz3.out ?_)
          case d1 => simp [maxLen]; omega
          case d2 => simp; omega
          intro v4 w4 h4 hg4 _
          obtain ⟨a4, cap4, hv4⟩ := h4.shape
          subst hv4
          have hb4 := Lib.hid (hb3.out.grown hg4 hb3.out.size (fun j hj => by have := h3l.out j hj; omega))
          have hM4 := Lib.hid (hM3.out.keep (hg4.block w.heap.size (by have := hz3.out; omega) (fun e => by have := h3l.out w.heap.size e.symm; omega)))
          have hz4 : w.heap.size + 1 ≤ w4.heap.size := by have := hz3.out; have := hg4.size; omega
          have h4' := Lib.hid h4
          clear h4 hg4
          go_wp2_with fail
          go_roundw
          case rel => exact ⟨k + 1, out ++ UInt8.ofNat Y.length :: Y, _, by omega, by go_num, Lib.hid (by simpa using h4'.out), Lib.hid (hM4.out.mono (Nat.le_succ k)), Lib.hid (hR'.out), by have := hsd'.out; simp; omega, hb4, hz4⟩
          case measure => simp [intOf]; omega
        · have hvr := hff.out key v hfx
          have hv0 := hvr.1
          have hv1 := hvr.2
          have hor := or192 v hvr.1 hvr.2
          clear hvr
          obtain ⟨i0, hi, hz0, hz1, hz2'⟩ := info_parts Try.info5
          have hlit := Lib.hid (src_lit (P := Try.prog) (E := byteE) (w := w2) (tx := 22) Try.underlying22 #[.int .u8 (192 + v / 256), .int .u8 (v % 256)] (ptrB v) 2 rfl (by rw [rowOf_byte]; simp [u8s, u8, ptrB] <;> omega))
          have hox2 := Lib.hid (ho2.out.ext ((Below.refl _ _).alloc (Nat.le_refl _) (.cells #[.int .u8 (192 + v / 256), .int .u8 (v % 256)] 5)))
          have hzx2 : Hid (w.heap.size + 1 ≤ (w2.alloc (.cells #[.int .u8 (192 + v / 256), .int .u8 (v % 256)] 5)).heap.size) := Lib.hid (by have := hz2.out; rw [World.size_alloc]; omega)
          go_wp2_with (at_builtin; refine app_own (E := byteE) rfl (.tmp 52) (.tmp 59) 22 22 rfl Try.underlying22 hi hz0 hz1 hz2' rfl rfl hox2.out rfl hlit.out ?c1 ?c2 hzx2.out ?_)
          case c1 => simp [maxLen, ptrB]; omega
          case c2 => simp [ptrB]; omega
          intro v3 w3 h3 hg3 _
          have h0R := hR.out
          rw [hdr'.out, wrN_ptr (v := v) (by rw [← hdr'.out, hkey'.out]; exact hfx)] at h0R
          have e1 : out ++ ptrB v = R1 := congrArg Prod.fst h0R
          have e2 : fr = R2 := congrArg Prod.snd h0R
          obtain ⟨a3, cap3, e3, hr3⟩ := h3.rd
          have hl3 : (out ++ ptrB v).length = out.length + 2 := by simp [ptrB]
          rw [hl3] at e3 hr3
          subst e3
          have hb2x := hb2'.out.alloc hb2'.out.size (.cells #[.int .u8 (192 + v / 256), .int .u8 (v % 256)] 5)
          have hb3 := hb2x.grown hg3 hb2x.size (fun j hj => by have := (hox2.out.lt j hj).1; omega)
          have hM3 := (hM2.out.keep (Below.heap_alloc w2 (.cells #[.int .u8 (192 + v / 256), .int .u8 (v % 256)] 5) w.heap.size (by have := hz2.out; omega))).keep (hg3.block w.heap.size (by have := hzx2.out; omega) (fun e => by have := (hox2.out.lt w.heap.size e.symm).1; omega))
          have hW3 := hh.out.ext hb3
          have hge := sizeL_ge (L.drop k)
          have hdl3 : 1 ≤ (L.drop k).length := by rw [List.length_drop]; omega
          have hge' := Lib.hid (And.intro hge hdl3)
          have hr3' := Lib.hid hr3
          have hM3' := Lib.hid hM3
          have hW3' := Lib.hid hW3
          have hb3' := Lib.hid hb3
          have ee := Lib.hid (And.intro e1 e2)
          clear hge hdl3 hr3 hM3 hW3 hb3 hb2x hg3 h3 hl3 h0R e1 e2 hlit hox2
          go_wp2_with fail
          refine (wr_put hW3'.out hr3'.out (by have := hge'.out; omega) (by have := hb3'.out.size; omega) hM3'.out (by have := hh.out.lts mb (.inr (.inl rfl)); omega) (fun j hj => by have := hh.out.lts j (.inr (.inr hj)); omega) (by omega)).mono ?_
          rintro e w4 ⟨rfl, ⟨a', c', hW4⟩, hT4⟩
          have hT5 := Lib.hid ((Tch.of_below (S := fun k => k = g ∨ k = mb ∨ (Value.slice a B.length c).ownBlock = some k) hb3'.out).trans hT4 (fun _ _ h => h))
          have hW5 : Hid (Wr w4 lo g (B ++ R1) (nm + k) (over R2 f) a' c' mb) := Lib.hid (by rw [← ee.out.1, ← ee.out.2]; exact hW4)
          clear hW4 hT4
          go_wp2_with fail
          go_ret
          exact ⟨rfl, ⟨a', c', nm + k, by omega, hW5.out⟩, hT5.out⟩
    · have hnI : ¬ (k : Int) < n := by omega
      have hdn : L.drop k = [] := List.drop_of_length_le (by omega)
      have h0R := hR.out
      rw [hdn, wrN] at h0R
      rw [hdn] at hsz
      have hs1 : sizeL ([] : Nm) = 1 := rfl
      rw [hs1] at hsz
      have e1 : out ++ [0] = R1 := congrArg Prod.fst h0R
      have e2 : fr = R2 := congrArg Prod.snd h0R
      obtain ⟨av, cv, hav⟩ := ho.out.shape
      subst hav
      obtain ⟨i0, hi, hz0, hz1, hz2'⟩ := info_parts Try.info5
      have hlit := Lib.hid (src_lit (P := Try.prog) (E := byteE) (w := wr) (tx := 22) Try.underlying22 #[.int .u8 0] [0] 1 rfl (by rw [rowOf_byte]; rfl))
      have hox2 := Lib.hid (ho.out.ext ((Below.refl _ _).alloc (Nat.le_refl _) (.cells #[.int .u8 0] 5)))
      have hzx2 : Hid (w.heap.size + 1 ≤ (wr.alloc (.cells #[.int .u8 0] 5)).heap.size) := Lib.hid (by rw [World.size_alloc]; omega)
      have ee := Lib.hid (And.intro e1 e2)
      clear e1 e2 h0R hdn hs1
      go_wp2_with (at_builtin; refine app_own (E := byteE) rfl (.tmp 99) (.tmp 100) 22 22 rfl Try.underlying22 hi hz0 hz1 hz2' rfl rfl hox2.out rfl hlit.out ?c1 ?c2 hzx2.out ?_)
      case c1 => simp [maxLen]; omega
      case c2 => first | omega | (simp; omega)
      intro v3 w3 h3 hg3 _
      obtain ⟨a3, cap3, e3, hr3⟩ := h3.rd
      have hl3 : (out ++ [(0 : UInt8)]).length = out.length + 1 := by simp
      rw [hl3] at e3 hr3
      subst e3
      have hb2x := hb.out.alloc hb.out.size (.cells #[.int .u8 0] 5)
      have hb3 := hb2x.grown hg3 hb2x.size (fun j hj => by have := (hox2.out.lt j hj).1; omega)
      have hM3 := (hM.out.keep (Below.heap_alloc wr (.cells #[.int .u8 0] 5) w.heap.size (by omega))).keep (hg3.block w.heap.size (by have := hzx2.out; omega) (fun e => by have := (hox2.out.lt w.heap.size e.symm).1; omega))
      have hW3 := hh.out.ext hb3
      have hr3' := Lib.hid hr3
      have hM3' := Lib.hid hM3
      have hW3' := Lib.hid hW3
      have hb3' := Lib.hid hb3
      clear hr3 hM3 hW3 hb3 hb2x hg3 h3 hl3 hlit hox2
      go_wp2_with fail
      refine (wr_put hW3'.out hr3'.out (by omega) (by have := hb3'.out.size; omega) hM3'.out (by have := hh.out.lts mb (.inr (.inl rfl)); omega) (fun j hj => by have := hh.out.lts j (.inr (.inr hj)); omega) (by omega)).mono ?_
      rintro e w4 ⟨rfl, ⟨a', c', hW4⟩, hT4⟩
      have hT5 := Lib.hid ((Tch.of_below (S := fun k => k = g ∨ k = mb ∨ (Value.slice a B.length c).ownBlock = some k) hb3'.out).trans hT4 (fun _ _ h => h))
      have hW5 : Hid (Wr w4 lo g (B ++ R1) (nm + k) (over R2 f) a' c' mb) := Lib.hid (by rw [← ee.out.1, ← ee.out.2]; exact hW4)
      clear hW4 hT4
      go_wp2_with fail
      go_ret
      exact ⟨rfl, ⟨a', c', nm + k, by omega, hW5.out⟩, hT5.out⟩
end Go.Proofs.Ytndpebhhgicooaa
