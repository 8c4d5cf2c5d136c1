/- What the statements share: T 15, reads 14, awake 10, small 11. -/
import Derived.Test.YtojdjhicjhhblaaDoorTlE
import Derived.Test.YtojdjhicjhhblaaDoorScT
namespace Go.Proofs.YtojdjhicjhhblaaDoor
open Go Go.RowKit
/-- a word as T makes it -/
def termOf (s : List UInt8) : Trm := if decide (2 ≤ s.length) && s.head? == some 34 then ((s.take (s.length - 1)).drop 1, true) else (s, false)
theorem head_some {b : UInt8} {r : List UInt8} : (b :: r).head? = some b := rfl
set_option maxHeartbeats 8000000 in
set_option maxRecDepth 100000 in
theorem t_any {w : World} {a : Option Addr} {n c : Nat} {l : List (List UInt8)} (h : Rd strE w a n c l) (hn : n ≤ 3000) (hl : ∀ s ∈ l, s.length ≤ 3000) :
    Calls Tryd.prog 13 #[.slice a n c] w fun e w' => Below w.heap.size w w' ∧ ∃ oa oc, e = .returned (.slice oa n oc) ∧ Own trE w' w.heap.size (.slice oa n oc) (l.map termOf) := by
  have hlen := h.len
  have hnI : (n : Int) ≤ 3000 := by omega
  have hH := Lib.hid h
  have hL1 := Lib.hid hlen
  have hS1 := Lib.hid hl
  clear h hlen hl
  obtain ⟨M, hM⟩ : ∃ M, l.map termOf = M := ⟨_, rfl⟩
  have hM1 := Lib.hid hM
  have hML : Hid (M.length = n) := Lib.hid (by rw [← hM, List.length_map]; exact hL1.out)
  rw [hM]
  clear hM
  obtain ⟨i27, h27, z27, s27, y27⟩ := info_parts Tryd.info44
  go_enter Tryd.func13, Tryd.ntmps13
  go_wp2_with fail
  go_loopw [3, 4] (fun ov iv wr => ∃ (i : Nat) (oa : Option Addr) (oc : Nat), ov = .slice oa i oc ∧ iv = .int .i64 i ∧ i ≤ n ∧ Hid (Own trE wr w.heap.size (.slice oa i oc) (M.take i)) ∧ Hid (Below w.heap.size w wr)) (fun _ iv _ => n - (intOf iv).toNat)
  case atStart => exact ⟨0, none, 0, rfl, rfl, Nat.zero_le _, Lib.hid (Own.nil _ _ _), Lib.hid (Below.refl _ _)⟩
  case round =>
    obtain ⟨i, oa, oc, rfl, rfl, hin, hO, hb⟩ := hrel
    by_cases hlt : i < n
    · have hltI : (i : Int) < n := by omega
      obtain ⟨s, hs, hsm⟩ := at_ex (L := l) (k := i) (by have := hL1.out; omega)
      have hsl := hS1.out s hsm
      have hslI : (s.length : Int) ≤ 3000 := by omega
      have hT : Hid (M.take (i + 1) = M.take i ++ [termOf s]) := Lib.hid (by rw [← hM1.out, ← List.map_take, at_take hs, List.map_append, List.map_take]; rfl)
      obtain ⟨b, o, rfl, -, hc⟩ := ((hH.out.ext hb.out)).addr (by omega)
      have c0 : wr.cell? ⟨b, o + i, none⟩ = some (.string (mk s)) := by
        have hil : i < l.length := by have := hL1.out; omega
        have h1 := hc i hil 0 (by decide)
        rw [List.getElem?_eq_getElem hil] at hs
        rw [Option.some.inj hs] at h1
        simpa [strE] using h1
      have hOl : Hid ((M.take i).length = i) := Lib.hid (by rw [List.length_take]; have := hML.out; omega)
      clear hs hsm hc
      have step : ∀ (t : List UInt8) (q : Bool), termOf s = (t, q) → Hid (∃ V, wr.alloc (.cells #[.string (mk t), .bool q] 44) = V ∧ Own trE V w.heap.size (.slice oa i oc) (M.take i) ∧ Below w.heap.size w V ∧ Src Tryd.prog 2 32 (.slice (some ⟨wr.heap.size, 0, none⟩) 1 1) 1 (rowOf trE [((t, q) : Trm)]) V) := fun t q _ => Lib.hid
        ⟨_, rfl, hO.out.ext (alloc_bel _ _), hb.out.trans ((alloc_bel _ _).mono hb.out.size), src_lit (E := trE) (P := Tryd.prog) (tx := 32) Tryd.underlying32 #[.string (mk t), .bool q] [((t, q) : Trm)] 1 rfl rfl⟩
      have stepH := Lib.hid step
      clear step hO hb
      by_cases h2 : 2 ≤ s.length
      · obtain ⟨b0, r0, rfl⟩ : ∃ b0 r0, s = b0 :: r0 := by cases s with | nil => simp at h2 | cons b0 r0 => exact ⟨b0, r0, rfl⟩
        have h2I : (1 : Int) ≤ r0.length := by simp at h2; omega
        have h2J : (r0.length : Int) ≤ 3000 := by simp at hsl; omega
        clear hslI
        by_cases h34 : b0 = 34
        · have e34 : ((b0.toNat : Int) == 34) = true := u8_beq (k := 34) h34 (by decide)
          obtain ⟨t1, ht1⟩ : ∃ t1, ((b0 :: r0).take r0.length).drop 1 = t1 := ⟨_, rfl⟩
          have hcut : ∀ w : World, (Instr.slice 9 (.string (mk (b0 :: r0))) (some (.int .i64 1)) (some (.int .i64 (r0.length : Int))) none).run Tryd.prog w = .ok (.string (mk t1)) w := fun w => by rw [← ht1]; exact cut_str (P := Tryd.prog) Tryd.underlying9 (b0 :: r0) 1 r0.length (by simp at h2; omega) (by simp) w
          have hE : Hid (termOf (b0 :: r0) = (t1, true)) := Lib.hid (by
            rw [← ht1]
            have e : ((b0 :: r0).head? == some (34 : UInt8)) = true := by rw [h34]; rfl
            unfold termOf; rw [decide_eq_true h2, e]; rfl)
          clear h34 h2 ht1
          obtain ⟨V, hV, OV, kV, sV⟩ := (stepH.out t1 true hE.out).out
          have eT := Lib.hid (hE.out)
          replace OV := Lib.hid OV
          replace kV := Lib.hid kV
          replace sV := Lib.hid sV
          go_wp2_with (refine app_own (E := trE) (l := M.take i) (news := [((t1, true) : Trm)]) rfl (.tmp 24) (.tmp 31) 32 32 rfl Tryd.underlying32 h27 z27 s27 y27 rfl rfl OV.out rfl sV.out (by rw [hOl.out]; simp only [List.length_singleton, maxLen]; omega) (by rw [hOl.out]; simp only [List.length_singleton]; omega) kV.out.size ?_)
          intro v4 V4 ho4 hg4 hx4
          obtain ⟨a4, c4, rfl⟩ := ho4.shape
          have hl4 : (M.take i ++ [((t1, true) : Trm)]).length = i + 1 := by rw [List.length_append, hOl.out]; rfl
          rw [hl4] at ho4 ⊢
          have kb4 := Lib.hid (own_below kV.out hg4 OV.out kV.out.size (Nat.le_refl _))
          have own4 : Hid (Own trE V4 w.heap.size (.slice a4 (i + 1) c4) (M.take (i + 1))) := Lib.hid (by rw [hT.out, eT.out]; exact ho4)
          clear hV ho4 hg4 hx4 hl4 sV OV kV
          go_wp2_with fail
          exact ⟨⟨i + 1, a4, c4, by rfl, by push_cast; rfl, by omega, own4, kb4⟩, by simp only [intOf]; omega⟩
        · have e34 : ((b0.toNat : Int) == 34) = false := u8_ne (k := 34) h34
          have hE : Hid (termOf (b0 :: r0) = (b0 :: r0, false)) := Lib.hid (by unfold termOf; have e : ((b0 :: r0).head? == some (34 : UInt8)) = false := by rw [head_some, beq_eq_false_iff_ne]; simpa using h34
                                                                               rw [e, Bool.and_false]; rfl)
          clear h34 h2
          obtain ⟨V, hV, OV, kV, sV⟩ := (stepH.out (b0 :: r0) false hE.out).out
          have eT := Lib.hid (hE.out)
          replace OV := Lib.hid OV
          replace kV := Lib.hid kV
          replace sV := Lib.hid sV
          go_wp2_with (refine app_own (E := trE) (l := M.take i) (news := [(((b0 :: r0), false) : Trm)]) rfl (.tmp 33) (.tmp 36) 32 32 rfl Tryd.underlying32 h27 z27 s27 y27 rfl rfl OV.out rfl sV.out (by rw [hOl.out]; simp only [List.length_singleton, maxLen]; omega) (by rw [hOl.out]; simp only [List.length_singleton]; omega) kV.out.size ?_)
          intro v4 V4 ho4 hg4 hx4
          obtain ⟨a4, c4, rfl⟩ := ho4.shape
          have hl4 : (M.take i ++ [(((b0 :: r0), false) : Trm)]).length = i + 1 := by rw [List.length_append, hOl.out]; rfl
          rw [hl4] at ho4 ⊢
          have kb4 := Lib.hid (own_below kV.out hg4 OV.out kV.out.size (Nat.le_refl _))
          have own4 : Hid (Own trE V4 w.heap.size (.slice a4 (i + 1) c4) (M.take (i + 1))) := Lib.hid (by rw [hT.out, eT.out]; exact ho4)
          clear hV ho4 hg4 hx4 hl4 sV OV kV
          go_wp2_with fail
          exact ⟨⟨i + 1, a4, c4, by rfl, by push_cast; rfl, by omega, own4, kb4⟩, by simp only [intOf]; omega⟩
      · have h2I : ¬ (2 : Int) ≤ s.length := by omega
        have hE : Hid (termOf s = (s, false)) := Lib.hid (by unfold termOf; rw [decide_eq_false h2]; rfl)
        clear h2
        obtain ⟨V, hV, OV, kV, sV⟩ := (stepH.out s false hE.out).out
        have eT := Lib.hid (hE.out)
        replace OV := Lib.hid OV
        replace kV := Lib.hid kV
        replace sV := Lib.hid sV
        go_wp2_with (refine app_own (E := trE) (l := M.take i) (news := [((s, false) : Trm)]) rfl (.tmp 33) (.tmp 36) 32 32 rfl Tryd.underlying32 h27 z27 s27 y27 rfl rfl OV.out rfl sV.out (by rw [hOl.out]; simp only [List.length_singleton, maxLen]; omega) (by rw [hOl.out]; simp only [List.length_singleton]; omega) kV.out.size ?_)
        intro v4 V4 ho4 hg4 hx4
        obtain ⟨a4, c4, rfl⟩ := ho4.shape
        have hl4 : (M.take i ++ [((s, false) : Trm)]).length = i + 1 := by rw [List.length_append, hOl.out]; rfl
        rw [hl4] at ho4 ⊢
        have kb4 := Lib.hid (own_below kV.out hg4 OV.out kV.out.size (Nat.le_refl _))
        have own4 : Hid (Own trE V4 w.heap.size (.slice a4 (i + 1) c4) (M.take (i + 1))) := Lib.hid (by rw [hT.out, eT.out]; exact ho4)
        clear hV ho4 hg4 hx4 hl4 sV OV kV
        go_wp2_with fail
        exact ⟨⟨i + 1, a4, c4, by rfl, by push_cast; rfl, by omega, own4, kb4⟩, by simp only [intOf]; omega⟩
    · obtain rfl : i = n := by omega
      have hO2 : Hid (Own trE wr w.heap.size (.slice oa i oc) M) := Lib.hid (by have h := hO.out; rw [List.take_of_length_le (by have := hML.out; omega)] at h; exact h)
      clear hlt hO
      go_wp2_with fail
      go_ret
      exact ⟨hb.out, oa, oc, rfl, hO2.out⟩
/-- is a text read as just these entries? -/
def readsB (s : List UInt8) (W : List Ent) : Bool := (pEnt s).2 == (0, 0) && sameE (pEnt s).1 W
set_option maxHeartbeats 8000000 in
set_option maxRecDepth 100000 in
theorem reads_any {w : World} {s : List UInt8} {a : Option Addr} {n c : Nat} {W : List Ent} (h : RdEn w a n c W) (hs : s.length ≤ 65536) :
    Calls Tryd.prog 12 #[.string (mk s), .slice a n c] w fun e w' => e = .returned (.bool (readsB s W)) ∧ Below w.heap.size w w' := by
  have hH := Lib.hid h
  have htold : Hid ((pEnt s).2.1 = 0 → (pEnt s).2 = (0, 0)) := Lib.hid (fun h => by
    rcases pEnt_told s hs with ⟨h2, _⟩ | ⟨_, h2, _⟩
    · exact h2
    · omega)
  have hent := Lib.hid (entries_any w s (by omega))
  unfold readsB
  obtain ⟨R, hR⟩ : ∃ R, pEnt s = R := ⟨_, rfl⟩
  rw [hR] at htold hent ⊢
  obtain ⟨Z, hZ⟩ : ∃ Z, (R.2 == (0, 0) && sameE R.1 W) = Z := ⟨_, rfl⟩
  have hZ1 : Hid (R.2.1 ≠ 0 → Z = false) := Lib.hid (fun h => by
    have e : (R.2 == ((0, 0) : Int × Int)) = false := by rw [beq_eq_false_iff_ne]; exact fun h2 => h (congrArg Prod.fst h2)
    rw [← hZ, e]; rfl)
  have hZ2 : Hid (R.2.1 = 0 → Z = sameE R.1 W) := Lib.hid (fun h => by
    rw [← hZ, htold.out h]; rfl)
  rw [hZ]
  clear h hR hs hZ
  go_enter Tryd.func12, Tryd.ntmps12
  go_wp2_with fail
  refine hent.out.mono ?_
  rintro e w1 ⟨k1, oa, on, oc, eds, m, rfl, ho, hol, hen, hm⟩
  have hrd := ents_rd ho hen
  have h1 := hH.out.ext k1
  clear ho hol hen hm hent hH
  obtain ⟨W4, hW4⟩ : ∃ W, w1.alloc (.cells #[.int .i64 R.2.1, .int .i64 R.2.2] 36) = W := ⟨_, rfl⟩
  have k4 : Below w1.heap.size w1 W4 := by rw [← hW4]; exact alloc_bel _ _
  have B4 : Hid (Blk W4 w1.heap.size 36 (0, 0) [.int .i64 R.2.1, .int .i64 R.2.2]) := Lib.hid (by rw [← hW4]; exact Blk.new w1 36 (0, 0) #[.int .i64 R.2.1, .int .i64 R.2.2])
  have hrd4 := Lib.hid (hrd.ext k4)
  have h4 := Lib.hid (h1.ext k4)
  have kk4 := Lib.hid (k1.trans (k4.mono k1.size))
  clear hrd h1 k4 k1
  obtain ⟨R1, f1, f2⟩ := R
  go_upto_region 2 with (fail)
  clear hW4
  have d0 : W4.cell? ⟨w1.heap.size, 0, none⟩ = some (.int .i64 f1) := (B4.out.cell 0).trans rfl
  have d1 : W4.cell? ⟨w1.heap.size, 1, none⟩ = some (.int .i64 f2) := (B4.out.cell 1).trans rfl
  by_cases hf : f1 = 0
  rotate_left
  · have e0 : (f1 == 0) = false := by rw [beq_eq_false_iff_ne]; exact hf
    obtain rfl := hZ1.out hf
    clear hf B4 hZ1 hZ2 htold
    go_wp2_with fail
    go_ret
    exact ⟨rfl, kk4.out⟩
  obtain rfl : f2 = 0 := by have h := htold.out hf; exact congrArg Prod.snd h
  obtain rfl := hZ2.out hf
  subst hf
  clear hZ1 hZ2 B4 htold
  go_wp2_with fail
  refine (same_any hrd4.out h4.out).mono ?_
  rintro e w5 ⟨rfl, k5⟩
  have kk5 := Lib.hid (kk4.out.trans (k5.mono kk4.out.size))
  clear k5
  go_wp2_with fail
  go_ret
  exact ⟨rfl, kk5.out⟩
end Go.Proofs.YtojdjhicjhhblaaDoor
