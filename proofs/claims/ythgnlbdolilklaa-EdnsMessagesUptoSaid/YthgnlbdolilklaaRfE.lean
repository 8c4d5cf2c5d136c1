/- The document's Record 12. -/
import Derived.Test.YthgnlbdolilklaaJn6
namespace Go.Proofs.Ythgnlbdolilklaa
open Go Go.RowKit
theorem rawB_last {O : List Opt} {k : Nat} (h : k < O.length) : (rawB (O.take (k + 1))).length = (rawB (O.take k)).length + 4 + O[k].2.length := by
  rw [List.take_succ_eq_append_getElem h, rawB_snoc]
  simp [be16_len]
  omega
theorem lit4 (x n : Nat) (hx : x ≤ 65535) (hn : n ≤ 65535) : (#[Value.int .u8 ((x : Int) / 256), .int .u8 ((x : Int) % 256), .int .u8 ((n : Int) / 256), .int .u8 ((n : Int) % 256)] : Array Value).toList = rowOf byteE (be16 x ++ be16 n) := by
  rw [rowOf_byte]
  have h : ∀ m : Nat, m < 256 → (UInt8.ofNat m).toNat = m := fun m hm => by simp; omega
  unfold be16 u8s
  simp only [List.cons_append, List.nil_append, List.map_cons, List.map_nil, u8]
  rw [h (x / 256) (by omega), h (x % 256) (by omega), h (n / 256) (by omega), h (n % 256) (by omega)]
  simp
theorem Blk.grownV {w wy : World} {b : Nat} {r : Option Nat} {t : TypeId} {fz : Nat × Nat} {C : List Value} (h : Blk w b t fz C) (hg : w.grownBy wy r) (hne : some b ≠ r) : Blk wy b t fz C := (hg.block _ h.lt hne).trans h
set_option maxHeartbeats 8000000 in
set_option maxRecDepth 100000 in
theorem ref_rec {w : World} {a : Option Addr} {n c : Nat} {O : List Opt} (h : RdO w a n c O) (hn : n ≤ 1152921504606846976) (hs : ∀ o ∈ O, o.2.length ≤ 1152921504606846976) (hC : ∀ o ∈ O, o.1 < 65536) (sz hi ver : Int) (d : Bool) :
    Calls Try.prog 12 #[eV sz hi ver d (.slice a n c)] w fun e w' => RecB w.heap.size sz hi ver d O e w' ∧ Below w.heap.size w w' := by
  unfold eV
  have hl := h.len
  subst hl
  have hH := Lib.hid h
  have hs' := Lib.hid hs
  have hC' := Lib.hid hC
  clear h hs hC
  obtain ⟨W1, hW1⟩ : ∃ W1, w.alloc (.cells #[.int .i64 sz, .int .i64 hi, .int .i64 ver, .bool d, .slice a O.length c] 24) = W1 := ⟨_, rfl⟩
  obtain ⟨W2, hW2⟩ : ∃ W2, W1.alloc (.cells #[.slice none 0 0, .int .u16 0, .int .u16 0, .int .u32 0, .slice none 0 0, .slice none 0 0, .slice none 0 0, .slice none 0 0] 37) = W2 := ⟨_, rfl⟩
  have hb1 : Below w.heap.size w W1 := by rw [← hW1]; exact (Below.refl _ _).alloc (Nat.le_refl _) _
  have hB1 : Blk W1 w.heap.size 24 (0, 0) [.int .i64 sz, .int .i64 hi, .int .i64 ver, .bool d, .slice a O.length c] := by rw [← hW1]; exact Blk.new w 24 (0, 0) #[.int .i64 sz, .int .i64 hi, .int .i64 ver, .bool d, .slice a O.length c]
  have hR2 : Hid (Blk W2 W1.heap.size 37 (0, 0) (rC nilV 0 0 0 nilV nilV nilV nilV)) := Lib.hid (by rw [← hW2]; exact Blk.new W1 37 (0, 0) #[.slice none 0 0, .int .u16 0, .int .u16 0, .int .u32 0, .slice none 0 0, .slice none 0 0, .slice none 0 0, .slice none 0 0])
  have hE2 : Hid (Blk W2 w.heap.size 24 (0, 0) [.int .i64 sz, .int .i64 hi, .int .i64 ver, .bool d, .slice a O.length c]) := Lib.hid (by rw [← hW2]; exact hB1.alloc _)
  have hb2 : Hid (Below w.heap.size w W2) := Lib.hid (by rw [← hW2]; exact hb1.alloc hb1.size _)
  have hz1 : Hid (w.heap.size < W1.heap.size ∧ W1.heap.size < W2.heap.size) := Lib.hid (by rw [← hW2, ← hW1]; simp)
  have p0 : W2.cell? ⟨w.heap.size, 0, none⟩ = some (.int .i64 sz) := (hE2.out.cell 0).trans rfl
  have p1 : W2.cell? ⟨w.heap.size, 1, none⟩ = some (.int .i64 hi) := (hE2.out.cell 1).trans rfl
  have p2 : W2.cell? ⟨w.heap.size, 2, none⟩ = some (.int .i64 ver) := (hE2.out.cell 2).trans rfl
  have p3 : W2.cell? ⟨w.heap.size, 3, none⟩ = some (.bool d) := (hE2.out.cell 3).trans rfl
  have p4 : W2.cell? ⟨w.heap.size, 4, none⟩ = some (.slice a O.length c) := (hE2.out.cell 4).trans rfl
  clear hb1 hB1
  have hbad : mayB sz hi ver = false → Calls Try.prog 12 #[.agg #[.int .i64 sz, .int .i64 hi, .int .i64 ver, .bool d, .slice a O.length c]] w fun e w' => RecB w.heap.size sz hi ver d O e w' ∧ Below w.heap.size w w' := by
    intro hm
    have hmf' := Lib.hid hm
    have fin : ∀ (e : Ending) (w6 : World), e = .returned (.tuple #[rV nilV 0 0 0 nilV nilV nilV nilV, .int .i64 2]) → RecB w.heap.size sz hi ver d O e w6 := fun e w6 he => by
      unfold RecB
      rw [if_neg (by rw [hmf'.out]; simp)]
      exact he
    have fin' := Lib.hid fin
    clear fin
    by_cases h0 : 0 ≤ sz
    · by_cases h1 : sz ≤ 65535
      · by_cases h2 : 0 ≤ hi
        · by_cases h3 : hi ≤ 255
          · by_cases h4 : 0 ≤ ver
            · by_cases h5 : ver ≤ 255
              · exfalso
                unfold mayB at hm
                exact absurd ⟨h0, h1, h2, h3, h4, h5⟩ (of_decide_eq_false hm)
              · clear hm
                go_enter Try.func12, Try.ntmps12
                go_wp2_with (refine store_whole rfl 37 (.tmp 2) (.tmp 38) rfl rfl rfl hR2.out (by rfl) (by kernel_rfl) (by kernel_rfl) ?_; intro w6 hB6 hg6 hz6; have hR6 := Lib.hid hB6; have hb6 := Lib.hid (hb2.out.grown hg6 hb2.out.size (fun j hj => by cases hj; exact Nat.le_of_lt hz1.out.1)); clear hB6 hg6 hz6)
                refine bodyPost_ret (results_ct rfl _ rfl hR6.out Try.underlying37 rfl (by kernel_rfl)) rfl ?_
                exact ⟨fin'.out _ _ rfl, hb6.out⟩
            · clear hm
              go_enter Try.func12, Try.ntmps12
              go_wp2_with (refine store_whole rfl 37 (.tmp 2) (.tmp 38) rfl rfl rfl hR2.out (by rfl) (by kernel_rfl) (by kernel_rfl) ?_; intro w6 hB6 hg6 hz6; have hR6 := Lib.hid hB6; have hb6 := Lib.hid (hb2.out.grown hg6 hb2.out.size (fun j hj => by cases hj; exact Nat.le_of_lt hz1.out.1)); clear hB6 hg6 hz6)
              refine bodyPost_ret (results_ct rfl _ rfl hR6.out Try.underlying37 rfl (by kernel_rfl)) rfl ?_
              exact ⟨fin'.out _ _ rfl, hb6.out⟩
          · clear hm
            go_enter Try.func12, Try.ntmps12
            go_wp2_with (refine store_whole rfl 37 (.tmp 2) (.tmp 38) rfl rfl rfl hR2.out (by rfl) (by kernel_rfl) (by kernel_rfl) ?_; intro w6 hB6 hg6 hz6; have hR6 := Lib.hid hB6; have hb6 := Lib.hid (hb2.out.grown hg6 hb2.out.size (fun j hj => by cases hj; exact Nat.le_of_lt hz1.out.1)); clear hB6 hg6 hz6)
            refine bodyPost_ret (results_ct rfl _ rfl hR6.out Try.underlying37 rfl (by kernel_rfl)) rfl ?_
            exact ⟨fin'.out _ _ rfl, hb6.out⟩
        · clear hm
          go_enter Try.func12, Try.ntmps12
          go_wp2_with (refine store_whole rfl 37 (.tmp 2) (.tmp 38) rfl rfl rfl hR2.out (by rfl) (by kernel_rfl) (by kernel_rfl) ?_; intro w6 hB6 hg6 hz6; have hR6 := Lib.hid hB6; have hb6 := Lib.hid (hb2.out.grown hg6 hb2.out.size (fun j hj => by cases hj; exact Nat.le_of_lt hz1.out.1)); clear hB6 hg6 hz6)
          refine bodyPost_ret (results_ct rfl _ rfl hR6.out Try.underlying37 rfl (by kernel_rfl)) rfl ?_
          exact ⟨fin'.out _ _ rfl, hb6.out⟩
      · clear hm
        go_enter Try.func12, Try.ntmps12
        go_wp2_with (refine store_whole rfl 37 (.tmp 2) (.tmp 38) rfl rfl rfl hR2.out (by rfl) (by kernel_rfl) (by kernel_rfl) ?_; intro w6 hB6 hg6 hz6; have hR6 := Lib.hid hB6; have hb6 := Lib.hid (hb2.out.grown hg6 hb2.out.size (fun j hj => by cases hj; exact Nat.le_of_lt hz1.out.1)); clear hB6 hg6 hz6)
        refine bodyPost_ret (results_ct rfl _ rfl hR6.out Try.underlying37 rfl (by kernel_rfl)) rfl ?_
        exact ⟨fin'.out _ _ rfl, hb6.out⟩
    · clear hm
      go_enter Try.func12, Try.ntmps12
      go_wp2_with (refine store_whole rfl 37 (.tmp 2) (.tmp 38) rfl rfl rfl hR2.out (by rfl) (by kernel_rfl) (by kernel_rfl) ?_; intro w6 hB6 hg6 hz6; have hR6 := Lib.hid hB6; have hb6 := Lib.hid (hb2.out.grown hg6 hb2.out.size (fun j hj => by cases hj; exact Nat.le_of_lt hz1.out.1)); clear hB6 hg6 hz6)
      refine bodyPost_ret (results_ct rfl _ rfl hR6.out Try.underlying37 rfl (by kernel_rfl)) rfl ?_
      exact ⟨fin'.out _ _ rfl, hb6.out⟩
  by_cases hmay : mayB sz hi ver = true
  · obtain ⟨hs0, hs1, hh0, hh1, hv0, hv1⟩ := mayB_iff hmay
    have hmt := Lib.hid hmay
    clear hmay hbad
    go_enter Try.func12, Try.ntmps12
    go_upto_region 5 with (fail)
    try rw [hW1]
    try rw [hW2]
    clear hW1 hW2
    go_loopw [4, 5] (fun s i wr => ∃ k : Nat, k ≤ O.length ∧ i = .int .i64 k ∧ s = .int .i64 ((rawB (O.take k)).length : Nat) ∧ (rawB (O.take k)).length ≤ 65535 ∧ W2 = wr) (fun _ i _ => O.length - (intOf i).toNat)
    case atStart => exact ⟨0, Nat.zero_le _, rfl, rfl, by simp [rawB], rfl⟩
    case round =>
      obtain ⟨k, hk, rfl, rfl, h65, rfl⟩ := hrel
      by_cases hlt : k < O.length
      · obtain ⟨b, o, rfl, hblt, hcs⟩ := (hH.out.ext hb2.out).at_ (by omega)
        obtain ⟨ax, nx, cx, q0, q1, q2⟩ := hcs k hlt
        have hxl := q2.len
        have hx65 := hs'.out _ (List.getElem_mem hlt)
        have hsn := rawB_last hlt
        have hle := rawB_take_le O (k + 1)
        rw [hxl] at hx65 hsn
        have hle' : Hid ((rawB (O.take k)).length + 4 + nx ≤ (rawB O).length) := Lib.hid (by omega)
        have hsn' := Lib.hid hsn
        clear hcs q2 hsn hle hxl q0
        by_cases h16 : 65535 < nx
        · have hno : Hid (¬ ((rawB O).length ≤ 65535)) := Lib.hid (by have := hle'.out; omega)
          have h16I : (65535 : Int) < nx := by omega
          go_wp2_with (refine store_whole rfl 37 (.tmp 2) (.tmp 54) rfl rfl rfl hR2.out (by rfl) (by kernel_rfl) (by kernel_rfl) ?_; intro w6 hB6 hg6 hz6; have hR6 := Lib.hid hB6; have hb6 := Lib.hid (hb2.out.grown hg6 hb2.out.size (fun j hj => by cases hj; exact Nat.le_of_lt hz1.out.1)); clear hB6 hg6 hz6)
          refine bodyPost_ret (results_ct rfl _ rfl hR6.out Try.underlying37 rfl (by kernel_rfl)) rfl ?_
          refine ⟨?_, hb6.out⟩
          unfold RecB
          rw [if_neg (fun h => hno.out h.2)]
          rfl
        · have h16I : ¬ (65535 : Int) < nx := by omega
          have hlI : (((rawB (O.take k)).length : Nat) : Int) ≤ 65535 := by omega
          by_cases hfit : (rawB (O.take k)).length + 4 + nx ≤ 65535
          · have hfI : ¬ (65535 : Int) < (rawB (O.take k)).length + 4 + nx := by omega
            go_wp2_with fail
            go_roundw
            case rel => exact ⟨k + 1, by omega, by go_num, by rw [hsn'.out]; simp, by rw [hsn'.out]; exact hfit, by trivial⟩
            case measure => simp [intOf]; omega
          · have hfI : (65535 : Int) < (rawB (O.take k)).length + 4 + nx := by omega
            have hno : Hid (¬ ((rawB O).length ≤ 65535)) := Lib.hid (by have := hle'.out; omega)
            go_wp2_with (refine store_whole rfl 37 (.tmp 2) (.tmp 67) rfl rfl rfl hR2.out (by rfl) (by kernel_rfl) (by kernel_rfl) ?_; intro w6 hB6 hg6 hz6; have hR6 := Lib.hid hB6; have hb6 := Lib.hid (hb2.out.grown hg6 hb2.out.size (fun j hj => by cases hj; exact Nat.le_of_lt hz1.out.1)); clear hB6 hg6 hz6)
            refine bodyPost_ret (results_ct rfl _ rfl hR6.out Try.underlying37 rfl (by kernel_rfl)) rfl ?_
            refine ⟨?_, hb6.out⟩
            unfold RecB
            rw [if_neg (fun h => hno.out h.2)]
            rfl
      · have hk' : k = O.length := by omega
        subst hk'
        rw [List.take_length] at h65 ⊢
        have h65' := Lib.hid h65
        clear h65
        cases d with
        | false =>
          have hz2 : Hid (W1.heap.size < W2.heap.size ∧ w.heap.size < W1.heap.size) := Lib.hid ⟨hz1.out.2, hz1.out.1⟩
          go_upto_region 17 with (fail)
          go_loopw [7, 8] (fun v i wr => ∃ k : Nat, k ≤ O.length ∧ i = .int .i64 k ∧ Hid (Own byteE wr W2.heap.size v (rawB (O.take k))) ∧ Hid (Blk wr W1.heap.size 37 (0, 0) (rC nilV 0 0 0 nilV nilV nilV nilV)) ∧ Hid (Blk wr w.heap.size 24 (0, 0) [.int .i64 sz, .int .i64 hi, .int .i64 ver, .bool false, .slice a O.length c]) ∧ Hid (Below w.heap.size w wr) ∧ Hid (W2.heap.size ≤ wr.heap.size)) (fun _ i _ => O.length - (intOf i).toNat)
          case atStart => exact ⟨0, Nat.zero_le _, rfl, Lib.hid (Own.nil _ _ _), hR2, hE2, hb2, Lib.hid (Nat.le_refl _)⟩
          case round =>
            obtain ⟨k, hk, rfl, ho, hR, hE, hb, hsz⟩ := hrel
            obtain ⟨av, cv, rfl⟩ := ho.out.shape
            clear p0 p1 p2 p3 p4
            have p0 : wr.cell? ⟨w.heap.size, 0, none⟩ = some (.int .i64 sz) := (hE.out.cell 0).trans rfl
            have p4 : wr.cell? ⟨w.heap.size, 4, none⟩ = some (.slice a O.length c) := (hE.out.cell 4).trans rfl
            by_cases hlt : k < O.length
            · obtain ⟨b, o, rfl, hblt, hcs⟩ := hH.out.at_ (by omega)
              obtain ⟨ax, nx, cx, q0w, q1w, q2⟩ := hcs k hlt
              have q0 := cell_old q0w hb.out
              have q1 := cell_old q1w hb.out
              clear q0w q1w
              have hx16 := hC'.out _ (List.getElem_mem hlt)
              have hsn : rawB (O.take (k + 1)) = rawB (O.take k) ++ (be16 O[k].1 ++ (be16 O[k].2.length ++ O[k].2)) := by rw [List.take_succ_eq_append_getElem hlt, rawB_snoc]
              have hll := rawB_last hlt
              have hle := rawB_take_le O (k + 1)
              have hxl := q2.len
              rw [hxl] at hsn hll
              have hx65 : nx ≤ 65535 := by have := h65'.out; omega
              have hkl : Hid ((rawB (O.take k)).length ≤ 65535) := Lib.hid (by have := h65'.out; omega)
              have hsn' := Lib.hid hsn
              have q2' := Lib.hid q2
              have hxl' := Lib.hid hxl
              generalize O[k] = X at *
              clear hcs q2 hsn hle hll hxl
              obtain ⟨V1, hV1⟩ : ∃ V, wr.alloc (.cells #[.int .u16 (X.1 : Nat), .slice ax nx cx] 53) = V := ⟨_, rfl⟩
              have kb1 : Hid (Below wr.heap.size wr V1) := Lib.hid (by rw [← hV1]; exact (Below.refl _ _).alloc (Nat.le_refl _) _)
              have hX1 : Hid (Blk V1 wr.heap.size 53 (0, 0) [.int .u16 (X.1 : Nat), .slice ax nx cx]) := Lib.hid (by rw [← hV1]; exact Blk.new wr 53 (0, 0) #[.int .u16 (X.1 : Nat), .slice ax nx cx])
              have d0 : V1.cell? ⟨wr.heap.size, 0, none⟩ = some (.int .u16 (X.1 : Nat)) := (hX1.out.cell 0).trans rfl
              have d1 : V1.cell? ⟨wr.heap.size, 1, none⟩ = some (.slice ax nx cx) := (hX1.out.cell 1).trans rfl
              have hx16I : (X.1 : Int) ≤ 65535 := by omega
              have hx65I : (nx : Int) ≤ 65535 := by omega
              go_upto_region 20 with (fail)
              try rw [hV1]
              clear hV1
              have hwrl : ∀ j, (Value.slice av (rawB (O.take k)).length cv).ownBlock = some j → j < wr.heap.size := fun j hj => (ho.out.lt j hj).2
              have hwr' := Lib.hid hwrl
              clear hwrl
              obtain ⟨i0, hi5, hy0, hy1, hy2⟩ := info_parts Try.info5
              have ho1 := Lib.hid (ho.out.ext kb1.out)
              go_wp2_with (at_builtin; refine app_own (E := byteE) (base := W2.heap.size) rfl (.tmp 93) (.tmp 112) 33 33 rfl Try.underlying33 hi5 hy0 hy1 hy2 rfl rfl (ho1.out.ext (alloc_bel _ _)) rfl (src_lit (E := byteE) Try.underlying33 _ (be16 X.1 ++ be16 nx) 4 rfl (lit4 X.1 nx (by omega) hx65)) (by have := hkl.out; simp [maxLen, be16_len]; omega) (by have := hkl.out; simp [be16_len]; omega) (by have := hsz.out; have := kb1.out.size; simp; omega) ?_)
              intro v2 w2 ho2 hg2 _
              obtain ⟨a2, c2, rfl⟩ := ho2.shape
              generalize hL2 : (rawB (O.take k) ++ (be16 X.1 ++ be16 nx)).length = L2 at ho2 ⊢
              have hL2' := Lib.hid hL2
              clear hL2
              have hX2 := Lib.hid ((hX1.out.alloc _).grownV hg2 (fun e => by have := hwr'.out _ e.symm; omega))
              have hbx : Hid (Below W2.heap.size wr w2) := Lib.hid (own_below ((kb1.out.mono hsz.out).alloc (Nat.le_trans hsz.out kb1.out.size) _) hg2 (ho1.out.ext (alloc_bel _ _)) (by have := hsz.out; have := kb1.out.size; simp; omega) (Nat.le_refl _))
              have d2 : w2.cell? ⟨wr.heap.size, 1, none⟩ = some (.slice ax nx cx) := (hX2.out.cell 1).trans rfl
              have hbw : Hid (Below w.heap.size w w2) := Lib.hid (hb.out.trans (hbx.out.mono (by have := hz2.out; omega)))
              have ho2' := Lib.hid ho2
              have q22 := Lib.hid (q2'.out.ext hbw.out)
              have hl2 : Hid ((rawB (O.take k) ++ (be16 X.1 ++ be16 nx)).length ≤ 65539) := Lib.hid (by have := hkl.out; simp [be16_len]; omega)
              have hs2 := Lib.hid (Nat.le_trans hsz.out hbx.out.size)
              have hxl2 : Hid (X.2.length ≤ 65535) := Lib.hid (by rw [hxl'.out]; exact hx65)
              clear hg2 ho2 d0 d1
              go_wp2_with (at_builtin; refine app_own (E := byteE) (base := W2.heap.size) rfl (.tmp 114) (.tmp 116) 33 33 rfl Try.underlying33 hi5 hy0 hy1 hy2 rfl rfl ho2'.out rfl (q22.out.src Try.underlying33) (by have := hl2.out; have := hxl2.out; simp only [maxLen]; omega) (by have := hl2.out; have := hxl2.out; omega) hs2.out ?_)
              intro v3 w3 ho3 hg3 _
              obtain ⟨a3, c3, rfl⟩ := ho3.shape
              have hby := own_below (B := W2.heap.size) hbx.out hg3 ho2'.out hs2.out (Nat.le_refl _)
              rw [← hsn'.out] at ho3
              rw [← hsn'.out]
              have ho3' := Lib.hid ho3
              have hR3 : Hid (Blk w3 W1.heap.size 37 (0, 0) (rC nilV 0 0 0 nilV nilV nilV nilV)) := Lib.hid ((hby.block _ hz2.out.1).trans hR.out)
              have hE3 : Hid (Blk w3 w.heap.size 24 (0, 0) [.int .i64 sz, .int .i64 hi, .int .i64 ver, .bool false, .slice (some ⟨b, o, none⟩) O.length c]) := Lib.hid ((hby.block _ (by have := hz2.out; omega)).trans hE.out)
              have hb3 : Hid (Below w.heap.size w w3) := Lib.hid (hb.out.trans (hby.mono (by have := hz2.out; omega)))
              have hs3 : Hid (W2.heap.size ≤ w3.heap.size) := Lib.hid (Nat.le_trans hsz.out hby.size)
              clear hg3 ho3 hby d2
              go_wp2_with fail
              go_roundw
              case rel => exact ⟨k + 1, by omega, by go_num, ho3', hR3, hE3, hb3, hs3⟩
              case measure => simp [intOf]; omega
            · have hk' : k = O.length := by omega
              subst hk'
              have p1 : wr.cell? ⟨w.heap.size, 1, none⟩ = some (.int .i64 hi) := (hE.out.cell 1).trans rfl
              have hcl0 : 0 ≤ sz ∧ sz ≤ 65535 := ⟨hs0, hs1⟩
              go_wp2_with (refine store_whole rfl 37 (.tmp 2) (.tmp 124) rfl rfl rfl hR.out (by rfl) (by kernel_rfl) (by kernel_rfl) ?_; intro w6 hB6 hg6 hz6; have hR6 := Lib.hid hB6; have hg6' := Lib.hid hg6; clear hB6 hg6 hz6)
              refine bodyPost_ret (results_ct rfl _ rfl hR6.out Try.underlying37 rfl (by kernel_rfl)) rfl ?_
              have hb6 : Below w.heap.size w w6 := hb.out.grown hg6'.out hb.out.size (fun j hj => by cases hj; exact Nat.le_of_lt hz2.out.2)
              refine ⟨?_, hb6⟩
              unfold RecB
              rw [if_pos ⟨hmt.out, h65'.out⟩]
              have ho5 := ho.out
              rw [List.take_length] at ho5
              have ho6 : Own byteE w6 w.heap.size (.slice av (rawB O).length cv) (rawB O) := (ho5.keep (fun j hj => hg6'.out.block j (ho5.lt j hj).2 (fun e => by have e2 := Option.some.inj e; have := (ho5.lt j hj).1; have := hz2.out; omega))).mono (by have := hz2.out; omega)
              have e1 : ((ttlN hi.toNat ver.toNat false : Nat) : Int) = hi * 16777216 + ver * 65536 := by unfold ttlN; simp; omega
              refine ⟨_, ?_, ho6⟩
              unfold rV nilV
              rw [e1, Int.toNat_of_nonneg hs0]
              rfl
        | true =>
          have hz2 : Hid (W1.heap.size < W2.heap.size ∧ w.heap.size < W1.heap.size) := Lib.hid ⟨hz1.out.2, hz1.out.1⟩
          go_upto_region 17 with (fail)
          go_loopw [7, 8] (fun v i wr => ∃ k : Nat, k ≤ O.length ∧ i = .int .i64 k ∧ Hid (Own byteE wr W2.heap.size v (rawB (O.take k))) ∧ Hid (Blk wr W1.heap.size 37 (0, 0) (rC nilV 0 0 0 nilV nilV nilV nilV)) ∧ Hid (Blk wr w.heap.size 24 (0, 0) [.int .i64 sz, .int .i64 hi, .int .i64 ver, .bool true, .slice a O.length c]) ∧ Hid (Below w.heap.size w wr) ∧ Hid (W2.heap.size ≤ wr.heap.size)) (fun _ i _ => O.length - (intOf i).toNat)
          case atStart => exact ⟨0, Nat.zero_le _, rfl, Lib.hid (Own.nil _ _ _), hR2, hE2, hb2, Lib.hid (Nat.le_refl _)⟩
          case round =>
            obtain ⟨k, hk, rfl, ho, hR, hE, hb, hsz⟩ := hrel
            obtain ⟨av, cv, rfl⟩ := ho.out.shape
            clear p0 p1 p2 p3 p4
            have p0 : wr.cell? ⟨w.heap.size, 0, none⟩ = some (.int .i64 sz) := (hE.out.cell 0).trans rfl
            have p4 : wr.cell? ⟨w.heap.size, 4, none⟩ = some (.slice a O.length c) := (hE.out.cell 4).trans rfl
            by_cases hlt : k < O.length
            · obtain ⟨b, o, rfl, hblt, hcs⟩ := hH.out.at_ (by omega)
              obtain ⟨ax, nx, cx, q0w, q1w, q2⟩ := hcs k hlt
              have q0 := cell_old q0w hb.out
              have q1 := cell_old q1w hb.out
              clear q0w q1w
              have hx16 := hC'.out _ (List.getElem_mem hlt)
              have hsn : rawB (O.take (k + 1)) = rawB (O.take k) ++ (be16 O[k].1 ++ (be16 O[k].2.length ++ O[k].2)) := by rw [List.take_succ_eq_append_getElem hlt, rawB_snoc]
              have hll := rawB_last hlt
              have hle := rawB_take_le O (k + 1)
              have hxl := q2.len
              rw [hxl] at hsn hll
              have hx65 : nx ≤ 65535 := by have := h65'.out; omega
              have hkl : Hid ((rawB (O.take k)).length ≤ 65535) := Lib.hid (by have := h65'.out; omega)
              have hsn' := Lib.hid hsn
              have q2' := Lib.hid q2
              have hxl' := Lib.hid hxl
              generalize O[k] = X at *
              clear hcs q2 hsn hle hll hxl
              obtain ⟨V1, hV1⟩ : ∃ V, wr.alloc (.cells #[.int .u16 (X.1 : Nat), .slice ax nx cx] 53) = V := ⟨_, rfl⟩
              have kb1 : Hid (Below wr.heap.size wr V1) := Lib.hid (by rw [← hV1]; exact (Below.refl _ _).alloc (Nat.le_refl _) _)
              have hX1 : Hid (Blk V1 wr.heap.size 53 (0, 0) [.int .u16 (X.1 : Nat), .slice ax nx cx]) := Lib.hid (by rw [← hV1]; exact Blk.new wr 53 (0, 0) #[.int .u16 (X.1 : Nat), .slice ax nx cx])
              have d0 : V1.cell? ⟨wr.heap.size, 0, none⟩ = some (.int .u16 (X.1 : Nat)) := (hX1.out.cell 0).trans rfl
              have d1 : V1.cell? ⟨wr.heap.size, 1, none⟩ = some (.slice ax nx cx) := (hX1.out.cell 1).trans rfl
              have hx16I : (X.1 : Int) ≤ 65535 := by omega
              have hx65I : (nx : Int) ≤ 65535 := by omega
              go_upto_region 20 with (fail)
              try rw [hV1]
              clear hV1
              have hwrl : ∀ j, (Value.slice av (rawB (O.take k)).length cv).ownBlock = some j → j < wr.heap.size := fun j hj => (ho.out.lt j hj).2
              have hwr' := Lib.hid hwrl
              clear hwrl
              obtain ⟨i0, hi5, hy0, hy1, hy2⟩ := info_parts Try.info5
              have ho1 := Lib.hid (ho.out.ext kb1.out)
              go_wp2_with (at_builtin; refine app_own (E := byteE) (base := W2.heap.size) rfl (.tmp 93) (.tmp 112) 33 33 rfl Try.underlying33 hi5 hy0 hy1 hy2 rfl rfl (ho1.out.ext (alloc_bel _ _)) rfl (src_lit (E := byteE) Try.underlying33 _ (be16 X.1 ++ be16 nx) 4 rfl (lit4 X.1 nx (by omega) hx65)) (by have := hkl.out; simp [maxLen, be16_len]; omega) (by have := hkl.out; simp [be16_len]; omega) (by have := hsz.out; have := kb1.out.size; simp; omega) ?_)
              intro v2 w2 ho2 hg2 _
              obtain ⟨a2, c2, rfl⟩ := ho2.shape
              generalize hL2 : (rawB (O.take k) ++ (be16 X.1 ++ be16 nx)).length = L2 at ho2 ⊢
              have hL2' := Lib.hid hL2
              clear hL2
              have hX2 := Lib.hid ((hX1.out.alloc _).grownV hg2 (fun e => by have := hwr'.out _ e.symm; omega))
              have hbx : Hid (Below W2.heap.size wr w2) := Lib.hid (own_below ((kb1.out.mono hsz.out).alloc (Nat.le_trans hsz.out kb1.out.size) _) hg2 (ho1.out.ext (alloc_bel _ _)) (by have := hsz.out; have := kb1.out.size; simp; omega) (Nat.le_refl _))
              have d2 : w2.cell? ⟨wr.heap.size, 1, none⟩ = some (.slice ax nx cx) := (hX2.out.cell 1).trans rfl
              have hbw : Hid (Below w.heap.size w w2) := Lib.hid (hb.out.trans (hbx.out.mono (by have := hz2.out; omega)))
              have ho2' := Lib.hid ho2
              have q22 := Lib.hid (q2'.out.ext hbw.out)
              have hl2 : Hid ((rawB (O.take k) ++ (be16 X.1 ++ be16 nx)).length ≤ 65539) := Lib.hid (by have := hkl.out; simp [be16_len]; omega)
              have hs2 := Lib.hid (Nat.le_trans hsz.out hbx.out.size)
              have hxl2 : Hid (X.2.length ≤ 65535) := Lib.hid (by rw [hxl'.out]; exact hx65)
              clear hg2 ho2 d0 d1
              go_wp2_with (at_builtin; refine app_own (E := byteE) (base := W2.heap.size) rfl (.tmp 114) (.tmp 116) 33 33 rfl Try.underlying33 hi5 hy0 hy1 hy2 rfl rfl ho2'.out rfl (q22.out.src Try.underlying33) (by have := hl2.out; have := hxl2.out; simp only [maxLen]; omega) (by have := hl2.out; have := hxl2.out; omega) hs2.out ?_)
              intro v3 w3 ho3 hg3 _
              obtain ⟨a3, c3, rfl⟩ := ho3.shape
              have hby := own_below (B := W2.heap.size) hbx.out hg3 ho2'.out hs2.out (Nat.le_refl _)
              rw [← hsn'.out] at ho3
              rw [← hsn'.out]
              have ho3' := Lib.hid ho3
              have hR3 : Hid (Blk w3 W1.heap.size 37 (0, 0) (rC nilV 0 0 0 nilV nilV nilV nilV)) := Lib.hid ((hby.block _ hz2.out.1).trans hR.out)
              have hE3 : Hid (Blk w3 w.heap.size 24 (0, 0) [.int .i64 sz, .int .i64 hi, .int .i64 ver, .bool true, .slice (some ⟨b, o, none⟩) O.length c]) := Lib.hid ((hby.block _ (by have := hz2.out; omega)).trans hE.out)
              have hb3 : Hid (Below w.heap.size w w3) := Lib.hid (hb.out.trans (hby.mono (by have := hz2.out; omega)))
              have hs3 : Hid (W2.heap.size ≤ w3.heap.size) := Lib.hid (Nat.le_trans hsz.out hby.size)
              clear hg3 ho3 hby d2
              go_wp2_with fail
              go_roundw
              case rel => exact ⟨k + 1, by omega, by go_num, ho3', hR3, hE3, hb3, hs3⟩
              case measure => simp [intOf]; omega
            · have hk' : k = O.length := by omega
              subst hk'
              have p1 : wr.cell? ⟨w.heap.size, 1, none⟩ = some (.int .i64 hi) := (hE.out.cell 1).trans rfl
              have hcl0 : 0 ≤ sz ∧ sz ≤ 65535 := ⟨hs0, hs1⟩
              go_wp2_with (refine store_whole rfl 37 (.tmp 2) (.tmp 124) rfl rfl rfl hR.out (by rfl) (by kernel_rfl) (by kernel_rfl) ?_; intro w6 hB6 hg6 hz6; have hR6 := Lib.hid hB6; have hg6' := Lib.hid hg6; clear hB6 hg6 hz6)
              refine bodyPost_ret (results_ct rfl _ rfl hR6.out Try.underlying37 rfl (by kernel_rfl)) rfl ?_
              have hb6 : Below w.heap.size w w6 := hb.out.grown hg6'.out hb.out.size (fun j hj => by cases hj; exact Nat.le_of_lt hz2.out.2)
              refine ⟨?_, hb6⟩
              unfold RecB
              rw [if_pos ⟨hmt.out, h65'.out⟩]
              have ho5 := ho.out
              rw [List.take_length] at ho5
              have ho6 : Own byteE w6 w.heap.size (.slice av (rawB O).length cv) (rawB O) := (ho5.keep (fun j hj => hg6'.out.block j (ho5.lt j hj).2 (fun e => by have e2 := Option.some.inj e; have := (ho5.lt j hj).1; have := hz2.out; omega))).mono (by have := hz2.out; omega)
              have e1 : ((ttlN hi.toNat ver.toNat true : Nat) : Int) = hi * 16777216 + ver * 65536 + 32768 := by unfold ttlN; simp; omega
              refine ⟨_, ?_, ho6⟩
              unfold rV nilV
              rw [e1, Int.toNat_of_nonneg hs0]
              rfl
  · exact hbad (by simpa using hmay)
end Go.Proofs.Ythgnlbdolilklaa
