/- The program's Record 11; may 36; printed by gen_edb.py. -/
import Derived.Test.YthgnlbdolilklaaEdL
import Derived.Test.YthgnlbdolilklaaJn4
import Derived.Test.YthgnlbdolilklaaJn5
import Derived.Deep.CutRange
namespace Go.Proofs.Ythgnlbdolilklaa
open Go Go.RowKit
def mayB (sz hi ver : Int) : Bool := decide (0 ≤ sz ∧ sz ≤ 65535 ∧ 0 ≤ hi ∧ hi ≤ 255 ∧ 0 ≤ ver ∧ ver ≤ 255)
set_option maxHeartbeats 4000000 in
set_option maxRecDepth 100000 in
theorem may_any (w : World) (sz hi ver : Int) (d : Bool) (o : Value) : Calls Try.prog 36 #[eV sz hi ver d o] w fun e w' => e = .returned (.bool (mayB sz hi ver)) ∧ Below w.heap.size w w' := by
  unfold eV
  have hb : Hid (Below w.heap.size w (w.alloc (.cells #[.int .i64 sz, .int .i64 hi, .int .i64 ver, .bool d, o] 24))) := Lib.hid ((Below.refl _ _).alloc (Nat.le_refl _) _)
  by_cases h0 : 0 ≤ sz
  · by_cases h1 : sz ≤ 65535
    · by_cases h2 : 0 ≤ hi
      · by_cases h3 : hi ≤ 255
        · by_cases h4 : 0 ≤ ver
          · by_cases h5 : ver ≤ 255
            · go_enter Try.func36, Try.ntmps36
              go_wp2_with fail
              go_ret
              exact ⟨ret_bool (by unfold mayB; simp [h0, h1, h2, h3, h4, h5]), hb.out⟩
            · go_enter Try.func36, Try.ntmps36
              go_wp2_with fail
              go_ret
              exact ⟨ret_bool (by unfold mayB; exact (decide_eq_false (by omega)).symm), hb.out⟩
          · go_enter Try.func36, Try.ntmps36
            go_wp2_with fail
            go_ret
            exact ⟨ret_bool (by unfold mayB; exact (decide_eq_false (by omega)).symm), hb.out⟩
        · go_enter Try.func36, Try.ntmps36
          go_wp2_with fail
          go_ret
          exact ⟨ret_bool (by unfold mayB; exact (decide_eq_false (by omega)).symm), hb.out⟩
      · go_enter Try.func36, Try.ntmps36
        go_wp2_with fail
        go_ret
        exact ⟨ret_bool (by unfold mayB; exact (decide_eq_false (by omega)).symm), hb.out⟩
    · go_enter Try.func36, Try.ntmps36
      go_wp2_with fail
      go_ret
      exact ⟨ret_bool (by unfold mayB; exact (decide_eq_false (by omega)).symm), hb.out⟩
  · go_enter Try.func36, Try.ntmps36
    go_wp2_with fail
    go_ret
    exact ⟨ret_bool (by unfold mayB; exact (decide_eq_false (by omega)).symm), hb.out⟩
theorem or_u32 (a b : Nat) (ha : a < 4294967296) (hb : b < 4294967296) : bits .or .u32 (a : Int) (b : Int) = ((a ||| b : Nat) : Int) := (bits_nat .u32 32 (by decide) (fun n h0 h1 => by rw [IntKind.wrap_u32]; omega) a b ha hb).2
theorem or_part (i x y : Nat) (h : y < 2 ^ i) : 2 ^ i * x ||| y = 2 ^ i * x + y := (Nat.two_pow_add_eq_or_of_lt h x).symm
theorem ttl_or1 (hi ver : Int) (h0 : 0 ≤ hi) (h1 : hi ≤ 255) (h2 : 0 ≤ ver) (h3 : ver ≤ 255) : bits .or .u32 (hi * 16777216) (ver * 65536) = (ttlN hi.toNat ver.toNat false : Nat) := by
  have e1 : hi * 16777216 = ((2 ^ 24 * hi.toNat : Nat) : Int) := by omega
  have e2 : ver * 65536 = ((ver.toNat * 65536 : Nat) : Int) := by omega
  rw [e1, e2, or_u32 _ _ (by omega) (by omega), or_part 24 _ _ (by omega)]
  unfold ttlN
  simp
  omega
theorem ttl_or2 (hi ver : Nat) (h1 : hi ≤ 255) (h3 : ver ≤ 255) : bits .or .u32 (ttlN hi ver false : Nat) 32768 = (ttlN hi ver true : Nat) := by
  have e1 : (ttlN hi ver false : Nat) = 2 ^ 16 * (hi * 256 + ver) := by unfold ttlN; simp; omega
  have e2 : (32768 : Int) = ((32768 : Nat) : Int) := rfl
  rw [e1, e2, or_u32 _ _ (by omega) (by omega), or_part 16 _ _ (by omega)]
  unfold ttlN
  simp
  omega
/-- a record's cells -/
def rC (ow : Value) (ty cl ttl : Nat) (nm nu tx raw : Value) : List Value := [ow, .int .u16 ty, .int .u16 cl, .int .u32 ttl, nm, nu, tx, raw]
def rV (ow : Value) (ty cl ttl : Nat) (nm nu tx raw : Value) : Value := .agg #[ow, .int .u16 ty, .int .u16 cl, .int .u32 ttl, nm, nu, tx, raw]
def nilV : Value := .slice none 0 0
def RecB (w0 : Nat) (sz hi ver : Int) (d : Bool) (O : List Opt) (e : Ending) (w' : World) : Prop :=
  if mayB sz hi ver = true ∧ (rawB O).length ≤ 65535 then ∃ v, e = .returned (.tuple #[rV nilV 41 sz.toNat (ttlN hi.toNat ver.toNat d) nilV nilV nilV v, .int .i64 0]) ∧ Own byteE w' w0 v (rawB O)
  else e = .returned (.tuple #[rV nilV 0 0 0 nilV nilV nilV nilV, .int .i64 2])
set_option maxHeartbeats 8000000 in
set_option maxRecDepth 100000 in
theorem rec_any {w : World} {a : Option Addr} {n c : Nat} {O : List Opt} (h : RdO w a n c O) (hs : ∀ o ∈ O, o.2.length ≤ 65540) (hC : ∀ o ∈ O, o.1 < 65536) (sz hi ver : Int) (d : Bool) :
    Calls Try.prog 11 #[eV sz hi ver d (.slice a n c)] w fun e w' => RecB w.heap.size sz hi ver d O e w' ∧ Below w.heap.size w w' := by
  unfold eV
  have hl := h.len
  have hm := h.most
  subst hl
  simp only [maxLen] at hm
  have hma : ∀ u, Calls Try.prog 36 #[.agg #[.int .i64 sz, .int .i64 hi, .int .i64 ver, .bool d, .slice a O.length c]] u fun e w' => e = .returned (.bool (mayB sz hi ver)) ∧ Below u.heap.size u w' := fun u => may_any u sz hi ver d _
  have hma' := Lib.hid hma
  have hH := Lib.hid h
  have hs' := Lib.hid hs
  have hC' := Lib.hid hC
  clear h hs hC hma
  obtain ⟨W1, hW1⟩ : ∃ W1, w.alloc (.cells #[.int .i64 sz, .int .i64 hi, .int .i64 ver, .bool d, .slice a O.length c] 24) = W1 := ⟨_, rfl⟩
  obtain ⟨W2, hW2⟩ : ∃ W2, W1.alloc (.cells #[.slice none 0 0, .int .u16 0, .int .u16 0, .int .u32 0, .slice none 0 0, .slice none 0 0, .slice none 0 0, .slice none 0 0] 37) = W2 := ⟨_, rfl⟩
  have hb1 : Below w.heap.size w W1 := by rw [← hW1]; exact (Below.refl _ _).alloc (Nat.le_refl _) _
  have hB1 : Blk W1 w.heap.size 24 (0, 0) [.int .i64 sz, .int .i64 hi, .int .i64 ver, .bool d, .slice a O.length c] := by rw [← hW1]; exact Blk.new w 24 (0, 0) #[.int .i64 sz, .int .i64 hi, .int .i64 ver, .bool d, .slice a O.length c]
  have hR2 : Hid (Blk W2 W1.heap.size 37 (0, 0) (rC nilV 0 0 0 nilV nilV nilV nilV)) := Lib.hid (by rw [← hW2]; exact Blk.new W1 37 (0, 0) #[.slice none 0 0, .int .u16 0, .int .u16 0, .int .u32 0, .slice none 0 0, .slice none 0 0, .slice none 0 0, .slice none 0 0])
  have hE2 : Hid (Blk W2 w.heap.size 24 (0, 0) [.int .i64 sz, .int .i64 hi, .int .i64 ver, .bool d, .slice a O.length c]) := Lib.hid (by rw [← hW2]; exact hB1.alloc _)
  have hb2 : Hid (Below w.heap.size w W2) := Lib.hid (by rw [← hW2]; exact hb1.alloc hb1.size _)
  have hz1 : Hid (w.heap.size < W1.heap.size ∧ W1.heap.size < W2.heap.size) := Lib.hid (by rw [← hW2, ← hW1]; simp)
  have p0 : W2.cell? ⟨w.heap.size, 0, none⟩ = some (.int .i64 sz) := (hE2.out.cell 0).trans rfl
  have p1 : W2.cell? ⟨w.heap.size, 1, none⟩ = some (.int .i64 hi) := (hE2.out.cell 1).trans rfl
  have p2 : W2.cell? ⟨w.heap.size, 2, none⟩ = some (.int .i64 ver) := (hE2.out.cell 2).trans rfl
  have p3 : W2.cell? ⟨w.heap.size, 3, none⟩ = some (.bool d) := (hE2.out.cell 3).trans rfl
  have p4 : W2.cell? ⟨w.heap.size, 4, none⟩ = some (.slice a O.length c) := (hE2.out.cell 4).trans rfl
  clear hb1 hB1
  by_cases hmay : mayB sz hi ver = true
  · have hmt := Lib.hid hmay
    clear hmay
    go_enter Try.func11, Try.ntmps11
    go_wp2_with fail
    refine (hma'.out _).mono ?_
    rw [hmt.out]
    rintro e w1 ⟨rfl, hb1⟩
    clear hW1 hW2
    have hE3 := Lib.hid (hE2.out.below hb1 (by have := hz1.out; omega))
    have hR3 := Lib.hid (hR2.out.below hb1 (by have := hz1.out; omega))
    have hb3 := Lib.hid (hb2.out.trans (hb1.mono hb2.out.size))
    have hz3 : Hid (W2.heap.size ≤ w1.heap.size) := Lib.hid hb1.size
    have p0 : w1.cell? ⟨w.heap.size, 0, none⟩ = some (.int .i64 sz) := (hE3.out.cell 0).trans rfl
    have p1 : w1.cell? ⟨w.heap.size, 1, none⟩ = some (.int .i64 hi) := (hE3.out.cell 1).trans rfl
    have p2 : w1.cell? ⟨w.heap.size, 2, none⟩ = some (.int .i64 ver) := (hE3.out.cell 2).trans rfl
    have p3 : w1.cell? ⟨w.heap.size, 3, none⟩ = some (.bool d) := (hE3.out.cell 3).trans rfl
    have p4 : w1.cell? ⟨w.heap.size, 4, none⟩ = some (.slice a O.length c) := (hE3.out.cell 4).trans rfl
    obtain ⟨hs0, hs1, hh0, hh1, hv0, hv1⟩ : 0 ≤ sz ∧ sz ≤ 65535 ∧ 0 ≤ hi ∧ hi ≤ 255 ∧ 0 ≤ ver ∧ ver ≤ 255 := by have := hmt.out; unfold mayB at this; exact of_decide_eq_true this
    have or1 := ttl_or1 hi ver hh0 hh1 hv0 hv1
    have or2 := ttl_or2 hi.toNat ver.toNat (by omega) (by omega)
    have hsz0 : sz = (sz.toNat : Int) := by omega
    have kx : ∀ t : Nat, Below w1.heap.size w1 (w1.alloc (.cells #[.slice none 0 0, .int .u16 41, .int .u16 sz, .int .u32 t, .slice none 0 0, .slice none 0 0, .slice none 0 0, .slice none 0 0] 37)) := fun t => (Below.refl _ _).alloc (Nat.le_refl _) _
    have hlt1 : w.heap.size < w1.heap.size := by have := hz1.out; have := hz3.out; omega
    have hr4 : Hid (Blk (w1.alloc (.cells #[.slice none 0 0, .int .u16 41, .int .u16 sz, .int .u32 (ttlN hi.toNat ver.toNat d : Nat), .slice none 0 0, .slice none 0 0, .slice none 0 0, .slice none 0 0] 37)) w1.heap.size 37 (0, 0) (rC nilV 41 sz.toNat (ttlN hi.toNat ver.toNat d) nilV nilV nilV nilV)) := Lib.hid (by
      have := Blk.new w1 37 (0, 0) #[.slice none 0 0, .int .u16 41, .int .u16 sz, .int .u32 (ttlN hi.toNat ver.toNat d : Nat), .slice none 0 0, .slice none 0 0, .slice none 0 0, .slice none 0 0]
      unfold rC nilV
      rw [← hsz0]
      exact this)
    have hR5 := Lib.hid (hR3.out.below (kx (ttlN hi.toNat ver.toNat d)) (by have := hz1.out; have := hz3.out; omega))
    have hb5 := Lib.hid (hb3.out.trans ((kx (ttlN hi.toNat ver.toNat d)).mono hb3.out.size))
    have hz4 := hr4.out.lt
    have x3 := ((kx (ttlN hi.toNat ver.toNat false)).cell (p := ⟨w.heap.size, 3, none⟩) hlt1).trans p3
    have x4 := ((kx (ttlN hi.toNat ver.toNat d)).cell (p := ⟨w.heap.size, 4, none⟩) hlt1).trans p4
    obtain ⟨X3, hX3⟩ : ∃ X, w1.alloc (.cells #[.slice none 0 0, .int .u16 41, .int .u16 sz, .int .u32 (ttlN hi.toNat ver.toNat d : Nat), .slice none 0 0, .slice none 0 0, .slice none 0 0, .slice none 0 0] 37) = X := ⟨_, rfl⟩
    rw [hX3] at hr4 hR5 hb5 hz4
    have hX3' := Lib.hid hX3
    clear hE2 hR2 hb2 hb1 kx hsz0 hX3
    cases d with
    | false =>
      clear or2
      go_wp2_with fail
      rw [hX3'.out]
      clear x3 x4 or1 hX3' hE3 hR3 hb3 p0 p1 p2 p3 p4
      have hz5 : Hid (W1.heap.size < w1.heap.size ∧ w.heap.size < W1.heap.size) := Lib.hid ⟨by have := hz1.out; have := hz3.out; omega, hz1.out.1⟩
      have hpc : w.heap.size ≤ w1.heap.size + 1 := by have := hz5.out; omega
      have hWl : Hid (w.heap.size ≤ W1.heap.size) := Lib.hid (by have := hz5.out; omega)
      go_loopw [37] (fun i wr => ∃ (k : Nat) (v : Value), k ≤ O.length ∧ i = .int .i64 k ∧ Hid (Blk wr w1.heap.size 37 (0, 0) (rC nilV 41 sz.toNat (ttlN hi.toNat ver.toNat false) nilV nilV nilV v)) ∧ Hid (Own byteE wr (w1.heap.size + 1) v (rawB (O.take k))) ∧ (rawB (O.take k)).length ≤ 65535 ∧ Hid (Blk wr W1.heap.size 37 (0, 0) (rC nilV 0 0 0 nilV nilV nilV nilV)) ∧ Hid (Below w.heap.size w wr) ∧ w1.heap.size < wr.heap.size)
        (fun i _ => O.length - (intOf i).toNat)
      case atStart => exact ⟨0, nilV, Nat.zero_le _, rfl, hr4, Lib.hid (Own.nil _ _ _), by simp [rawB], hR5, hb5, hz4⟩
      case round =>
        obtain ⟨k, v, hk, rfl, hr, ho, h65, hR, hb, hsz⟩ := hrel
        clear hr4 hR5 hb5 hz4
        have t7 : wr.cell? ⟨w1.heap.size, 7, none⟩ = some v := (hr.out.cell 7).trans rfl
        obtain ⟨av, cv, rfl⟩ := ho.out.shape
        by_cases hlt : k < O.length
        · obtain ⟨b, o, rfl, hblt, hcs⟩ := (hH.out.ext hb.out).at_ (by omega)
          obtain ⟨ax, nx, cx, q0, q1, q2⟩ := hcs k hlt
          have hx16 := hC'.out _ (List.getElem_mem hlt)
          have hx65 := hs'.out _ (List.getElem_mem hlt)
          have hsn : rawB (O.take (k + 1)) = rawB (O.take k) ++ (be16 O[k].1 ++ (be16 O[k].2.length ++ O[k].2)) := by rw [List.take_succ_eq_append_getElem hlt, rawB_snoc]
          have hle := rawB_take_le O (k + 1)
          have hll : (rawB (O.take (k + 1))).length = (rawB (O.take k)).length + 4 + O[k].2.length := by rw [hsn]; simp [be16_len]; omega
          have hxl := q2.len
          have hsn' := Lib.hid hsn
          have hle' : Hid ((rawB (O.take k)).length + 4 + nx ≤ (rawB O).length) := Lib.hid (by omega)
          have hll' : Hid ((rawB (O.take (k + 1))).length = (rawB (O.take k)).length + 4 + nx) := Lib.hid (by omega)
          have q2' := Lib.hid q2
          have hxl' := Lib.hid hxl
          generalize O[k] = X at *
          clear hcs q2 hsn hle hll
          rw [hxl] at hx65
          clear hxl
          obtain ⟨V1, hV1⟩ : ∃ V, wr.alloc (.cells #[.int .u16 (X.1 : Nat), .slice ax nx cx] 53) = V := ⟨_, rfl⟩
          have hX1 : Blk V1 wr.heap.size 53 (0, 0) [.int .u16 (X.1 : Nat), .slice ax nx cx] := by rw [← hV1]; exact Blk.new wr 53 (0, 0) #[.int .u16 (X.1 : Nat), .slice ax nx cx]
          have kb1 : Below wr.heap.size wr V1 := by rw [← hV1]; exact (Below.refl _ _).alloc (Nat.le_refl _) _
          have hX1' := Lib.hid hX1
          have kb1' := Lib.hid kb1
          have d0 : V1.cell? ⟨wr.heap.size, 0, none⟩ = some (.int .u16 (X.1 : Nat)) := (hX1.cell 0).trans rfl
          have hzV : Hid (wr.heap.size < V1.heap.size) := Lib.hid hX1.lt
          have hx16I : (X.1 : Int) ≤ 65535 := by omega
          clear hX1 kb1
          go_wp2_with fail
          refine (put16_ok X.1 _ (by omega)).mono ?_
          rintro e w2 ⟨rfl, hP2, kb2⟩
          clear hV1
          have kb2' := Lib.hid (kb1'.out.trans (kb2.mono kb1'.out.size))
          have hX2 := Lib.hid (hX1'.out.below kb2 hX1'.out.lt)
          have d1 : w2.cell? ⟨wr.heap.size, 1, none⟩ = some (.slice ax nx cx) := (hX2.out.cell 1).trans rfl
          have hP2' := Lib.hid hP2
          have hzw2 : Hid (V1.heap.size < w2.heap.size) := Lib.hid hP2.lt
          clear kb2 hP2 hX1'
          by_cases h16 : nx ≤ 65535
          · go_wp2_with fail
            refine (put16_ok nx _ h16).mono ?_
            rintro e w3 ⟨rfl, hP3, kb3⟩
            have kb3' := Lib.hid (kb2'.out.trans (kb3.mono kb2'.out.size))
            have hX3 := Lib.hid (hX2.out.below kb3 hX2.out.lt)
            have hP23 := Lib.hid (hP2'.out.below kb3 hP2'.out.lt)
            have hP3' := Lib.hid hP3
            have d3 : w3.cell? ⟨wr.heap.size, 1, none⟩ = some (.slice ax nx cx) := (hX3.out.cell 1).trans rfl
            have hr3 := Lib.hid (hr.out.below kb3'.out hsz)
            have t3 : w3.cell? ⟨w1.heap.size, 7, none⟩ = some (.slice av (rawB (O.take k)).length cv) := (hr3.out.cell 7).trans rfl
            have z3 : w3.frozen? ⟨w1.heap.size, 7, none⟩ = false := by rw [hr3.out.frozen]; simp
            have hb3x := Lib.hid (hb.out.trans (kb3'.out.mono hb.out.size))
            have hzw3 : Hid (w2.heap.size < w3.heap.size) := Lib.hid hP3.lt
            clear kb3 hP3 hP2' hX2 kb2'
            by_cases hfit : (rawB (O.take k)).length + 4 + nx ≤ 65535
            · have hfI : ¬ (65535 : Int) < (rawB (O.take k)).length + 4 + nx := by omega
              have ho3 := Lib.hid (ho.out.ext kb3'.out)
              have hq3 := Lib.hid (q2'.out.ext kb3'.out)
              have hR3x := Lib.hid (hR.out.below kb3'.out (by have := hz5.out; omega))
              obtain ⟨V4, hV4⟩ : ∃ V, w3.alloc (.cells #[.slice av (rawB (O.take k)).length cv, .slice (some ⟨V1.heap.size, 0, none⟩) 2 2, .slice (some ⟨w2.heap.size, 0, none⟩) 2 2, .slice ax nx cx] 33) = V := ⟨_, rfl⟩
              have hG4 : Hid (Blk V4 w3.heap.size 33 (0, 0) [.slice av (rawB (O.take k)).length cv, .slice (some ⟨V1.heap.size, 0, none⟩) 2 2, .slice (some ⟨w2.heap.size, 0, none⟩) 2 2, .slice ax nx cx]) := Lib.hid (by rw [← hV4]; exact Blk.new w3 33 (0, 0) #[.slice av (rawB (O.take k)).length cv, .slice (some ⟨V1.heap.size, 0, none⟩) 2 2, .slice (some ⟨w2.heap.size, 0, none⟩) 2 2, .slice ax nx cx])
              have kb4 : Hid (Below w3.heap.size w3 V4) := Lib.hid (by rw [← hV4]; exact (Below.refl _ _).alloc (Nat.le_refl _) _)
              go_wp2_with fail
              refine (concat_any (gl := w3.heap.size) [.slice av (rawB (O.take k)).length cv, .slice (some ⟨V1.heap.size, 0, none⟩) 2 2, .slice (some ⟨w2.heap.size, 0, none⟩) 2 2, .slice ax nx cx] [rawB (O.take k), be16 X.1, be16 nx, X.2] hG4.out rfl ?cv ?cs (by simp)).mono ?_
              case cv =>
                intro j Y hj
                have e5 : ∀ (g : Nat) (L : List UInt8), Blk V4 g 5 (0, 0) (u8s L) → L.length = 2 → Rd byteE V4 (some ⟨g, 0, none⟩) 2 2 L := fun g L hB hL => rd_blk (E := byteE) (by rw [rowOf_byte]; exact hB) 2 hL.symm (by decide)
                match j, hj with
                | 0, hj => cases hj; obtain ⟨a8, c8, e8, r8⟩ := (ho3.out.ext kb4.out).rd; cases e8; exact ⟨_, _, _, rfl, r8⟩
                | 1, hj => cases hj; exact ⟨_, _, _, rfl, e5 _ _ (hP23.out.below kb4.out hP23.out.lt) rfl⟩
                | 2, hj => cases hj; exact ⟨_, _, _, rfl, e5 _ _ (hP3'.out.below kb4.out hP3'.out.lt) rfl⟩
                | 3, hj => cases hj; exact ⟨_, _, _, rfl, hq3.out.ext kb4.out⟩
              case cs => have := hxl'.out; simp [be16_len]; omega
              rintro e w5 ⟨⟨v5, rfl, ho5⟩, kb5⟩
              have hfl : [rawB (O.take k), be16 X.1, be16 nx, X.2].flatten = rawB (O.take (k + 1)) := by rw [hsn'.out, ← hxl'.out]; simp
              rw [hfl] at ho5
              obtain ⟨a5, c5, e5⟩ := ho5.shape
              subst e5
              have kb5' := kb4.out.trans (kb5.mono kb4.out.size)
              have hr5 := hr3.out.below kb5' hr3.out.lt
              have hR5x := hR3x.out.below kb5' hR3x.out.lt
              have hb5x := hb3x.out.trans (kb5'.mono hb3x.out.size)
              have hlt5 : w1.heap.size < w5.heap.size := hr5.lt
              have z5 : w5.frozen? ⟨w1.heap.size, 7, none⟩ = false := by rw [hr5.frozen]; simp
              have c57 : w5.cell? ⟨w1.heap.size, 7, none⟩ = some (.slice av (rawB (O.take k)).length cv) := (hr5.cell 7).trans rfl
              obtain ⟨V6, hV6⟩ : ∃ V, w5.setCell ⟨w1.heap.size, 7, none⟩ (.slice a5 (rawB (O.take (k + 1))).length c5) = V := ⟨_, rfl⟩
              have hbase : w1.heap.size + 1 ≤ V4.heap.size := by have := hG4.out.lt; have := hr3.out.lt; omega
              have hr6 : Hid (Blk V6 w1.heap.size 37 (0, 0) (rC nilV 41 sz.toNat (ttlN hi.toNat ver.toNat false) nilV nilV nilV (.slice a5 (rawB (O.take (k + 1))).length c5))) := Lib.hid (by rw [← hV6]; exact hr5.set 7 (.slice a5 (rawB (O.take (k + 1))).length c5))
              have ho6 : Hid (Own byteE V6 (w1.heap.size + 1) (.slice a5 (rawB (O.take (k + 1))).length c5) (rawB (O.take (k + 1)))) := Lib.hid (by
                rw [← hV6]
                exact (ho5.mono hbase).keep (fun j hj => Below.heap_setCell _ _ _ _ (by have := (ho5.lt j hj).1; intro e; simp at e; omega)))
              have hR6 : Hid (Blk V6 W1.heap.size 37 (0, 0) (rC nilV 0 0 0 nilV nilV nilV nilV)) := Lib.hid (by rw [← hV6]; exact hR5x.setOther (by have := hz5.out; intro e; simp at e; omega) _)
              have hb6 : Hid (Below w.heap.size w V6) := Lib.hid (by rw [← hV6]; exact hb5x.setCell (by have := hz5.out; simp; omega) _)
              have hz6 : w1.heap.size < V6.heap.size := by rw [← hV6]; simpa using hlt5
              clear hV4 ho5 kb5 kb5' hr5 hR5x hb5x hG4 kb4 ho3 hq3 hR3x hr3 hX3 hP23 hP3' hfl ho hr hR hb
              go_wp2_with fail
              clear hV6
              go_roundw
              case rel => exact ⟨k + 1, _, by omega, by go_num, hr6, ho6, by have := hll'.out; omega, hR6, hb6, hz6⟩
              case measure => simp [intOf]; omega
            · have hfI : (65535 : Int) < (rawB (O.take k)).length + 4 + nx := by omega
              have hR3x := Lib.hid (hR.out.below kb3'.out (by have := hz5.out; omega))
              have hno : Hid (¬ ((rawB O).length ≤ 65535)) := Lib.hid (by have := hle'.out; omega)
              clear ho hr hR hb q2' hX3 hP23 hP3'
              go_wp2_with (refine store_whole rfl 37 (.tmp 2) (.tmp 69) rfl rfl rfl hR3x.out (by rfl) (by kernel_rfl) (by kernel_rfl) ?_; intro w6 hB6 hg6 hz6; have hR6 := Lib.hid hB6; have hb6 := Lib.hid (hb3x.out.grown hg6 hb3x.out.size (fun j hj => by cases hj; exact hWl.out)); clear hB6 hg6 hz6)
              refine bodyPost_ret (results_ct rfl _ rfl hR6.out Try.underlying37 rfl (by kernel_rfl)) rfl ?_
              refine ⟨?_, hb6.out⟩
              unfold RecB
              rw [if_neg (fun h => hno.out h.2)]
              rfl
          · have h16I : (65535 : Int) < nx := by omega
            go_wp2_with fail
            refine (put16_no nx _ (.inr h16I)).mono ?_
            rintro e w3 ⟨rfl, rfl⟩
            have hR3x := Lib.hid (hR.out.below kb2'.out (by have := hz5.out; omega))
            have hb3x := Lib.hid (hb.out.trans (kb2'.out.mono hb.out.size))
            have hno : Hid (¬ ((rawB O).length ≤ 65535)) := Lib.hid (by have := hle'.out; omega)
            clear ho hr hR hb q2' hX2 hP2'
            go_upto_region 12 with (fail)
            go_wp2_with (refine store_whole rfl 37 (.tmp 2) (.tmp 69) rfl rfl rfl hR3x.out (by rfl) (by kernel_rfl) (by kernel_rfl) ?_; intro w6 hB6 hg6 hz6; have hR6 := Lib.hid hB6; have hb6 := Lib.hid (hb3x.out.grown hg6 hb3x.out.size (fun j hj => by cases hj; exact hWl.out)); clear hB6 hg6 hz6)
            refine bodyPost_ret (results_ct rfl _ rfl hR6.out Try.underlying37 rfl (by kernel_rfl)) rfl ?_
            refine ⟨?_, hb6.out⟩
            unfold RecB
            rw [if_neg (fun h => hno.out h.2)]
            rfl
        · have hk' : k = O.length := by omega
          subst hk'
          rw [List.take_length] at ho h65
          have ho' := Lib.hid (ho.out.mono hpc)
          clear t7
          rw [List.take_length] at hr
          go_wp2_with (first
            | (refine load_whole rfl 37 (.tmp 4) rfl rfl hr.out Try.underlying37 rfl (by kernel_rfl) ?_)
            | (refine store_whole rfl 37 (.tmp 2) (.tmp 82) rfl rfl rfl hR.out (by rfl) (by kernel_rfl) (by kernel_rfl) ?_; intro w6 hB6 hg6 hz6; have hR6 := Lib.hid hB6; have hb6 := Lib.hid (hb.out.grown hg6 hb.out.size (fun j hj => by cases hj; exact hWl.out)); have ho6 := Lib.hid (ho.out.keep (w' := w6) (fun j hj => hg6.block j (ho.out.lt j hj).2 (fun e => by have := (ho.out.lt j hj).1; have := hz5.out; cases e; omega))); clear hB6 hg6 hz6))
          refine bodyPost_ret (results_ct rfl _ rfl hR6.out Try.underlying37 rfl (by kernel_rfl)) rfl ?_
          refine ⟨?_, hb6.out⟩
          unfold RecB
          rw [if_pos ⟨hmt.out, h65⟩]
          exact ⟨_, rfl, ho6.out.mono hpc⟩
    | true =>
      go_wp2_with fail
      rw [hX3'.out]
      clear x3 x4 or1 or2 hX3' hE3 hR3 hb3 p0 p1 p2 p3 p4
      have hz5 : Hid (W1.heap.size < w1.heap.size ∧ w.heap.size < W1.heap.size) := Lib.hid ⟨by have := hz1.out; have := hz3.out; omega, hz1.out.1⟩
      have hpc : w.heap.size ≤ w1.heap.size + 1 := by have := hz5.out; omega
      have hWl : Hid (w.heap.size ≤ W1.heap.size) := Lib.hid (by have := hz5.out; omega)
      go_loopw [37] (fun i wr => ∃ (k : Nat) (v : Value), k ≤ O.length ∧ i = .int .i64 k ∧ Hid (Blk wr w1.heap.size 37 (0, 0) (rC nilV 41 sz.toNat (ttlN hi.toNat ver.toNat true) nilV nilV nilV v)) ∧ Hid (Own byteE wr (w1.heap.size + 1) v (rawB (O.take k))) ∧ (rawB (O.take k)).length ≤ 65535 ∧ Hid (Blk wr W1.heap.size 37 (0, 0) (rC nilV 0 0 0 nilV nilV nilV nilV)) ∧ Hid (Below w.heap.size w wr) ∧ w1.heap.size < wr.heap.size)
        (fun i _ => O.length - (intOf i).toNat)
      case atStart => exact ⟨0, nilV, Nat.zero_le _, rfl, hr4, Lib.hid (Own.nil _ _ _), by simp [rawB], hR5, hb5, hz4⟩
      case round =>
        obtain ⟨k, v, hk, rfl, hr, ho, h65, hR, hb, hsz⟩ := hrel
        clear hr4 hR5 hb5 hz4
        have t7 : wr.cell? ⟨w1.heap.size, 7, none⟩ = some v := (hr.out.cell 7).trans rfl
        obtain ⟨av, cv, rfl⟩ := ho.out.shape
        by_cases hlt : k < O.length
        · obtain ⟨b, o, rfl, hblt, hcs⟩ := (hH.out.ext hb.out).at_ (by omega)
          obtain ⟨ax, nx, cx, q0, q1, q2⟩ := hcs k hlt
          have hx16 := hC'.out _ (List.getElem_mem hlt)
          have hx65 := hs'.out _ (List.getElem_mem hlt)
          have hsn : rawB (O.take (k + 1)) = rawB (O.take k) ++ (be16 O[k].1 ++ (be16 O[k].2.length ++ O[k].2)) := by rw [List.take_succ_eq_append_getElem hlt, rawB_snoc]
          have hle := rawB_take_le O (k + 1)
          have hll : (rawB (O.take (k + 1))).length = (rawB (O.take k)).length + 4 + O[k].2.length := by rw [hsn]; simp [be16_len]; omega
          have hxl := q2.len
          have hsn' := Lib.hid hsn
          have hle' : Hid ((rawB (O.take k)).length + 4 + nx ≤ (rawB O).length) := Lib.hid (by omega)
          have hll' : Hid ((rawB (O.take (k + 1))).length = (rawB (O.take k)).length + 4 + nx) := Lib.hid (by omega)
          have q2' := Lib.hid q2
          have hxl' := Lib.hid hxl
          generalize O[k] = X at *
          clear hcs q2 hsn hle hll
          rw [hxl] at hx65
          clear hxl
          obtain ⟨V1, hV1⟩ : ∃ V, wr.alloc (.cells #[.int .u16 (X.1 : Nat), .slice ax nx cx] 53) = V := ⟨_, rfl⟩
          have hX1 : Blk V1 wr.heap.size 53 (0, 0) [.int .u16 (X.1 : Nat), .slice ax nx cx] := by rw [← hV1]; exact Blk.new wr 53 (0, 0) #[.int .u16 (X.1 : Nat), .slice ax nx cx]
          have kb1 : Below wr.heap.size wr V1 := by rw [← hV1]; exact (Below.refl _ _).alloc (Nat.le_refl _) _
          have hX1' := Lib.hid hX1
          have kb1' := Lib.hid kb1
          have d0 : V1.cell? ⟨wr.heap.size, 0, none⟩ = some (.int .u16 (X.1 : Nat)) := (hX1.cell 0).trans rfl
          have hzV : Hid (wr.heap.size < V1.heap.size) := Lib.hid hX1.lt
          have hx16I : (X.1 : Int) ≤ 65535 := by omega
          clear hX1 kb1
          go_wp2_with fail
          refine (put16_ok X.1 _ (by omega)).mono ?_
          rintro e w2 ⟨rfl, hP2, kb2⟩
          clear hV1
          have kb2' := Lib.hid (kb1'.out.trans (kb2.mono kb1'.out.size))
          have hX2 := Lib.hid (hX1'.out.below kb2 hX1'.out.lt)
          have d1 : w2.cell? ⟨wr.heap.size, 1, none⟩ = some (.slice ax nx cx) := (hX2.out.cell 1).trans rfl
          have hP2' := Lib.hid hP2
          have hzw2 : Hid (V1.heap.size < w2.heap.size) := Lib.hid hP2.lt
          clear kb2 hP2 hX1'
          by_cases h16 : nx ≤ 65535
          · go_wp2_with fail
            refine (put16_ok nx _ h16).mono ?_
            rintro e w3 ⟨rfl, hP3, kb3⟩
            have kb3' := Lib.hid (kb2'.out.trans (kb3.mono kb2'.out.size))
            have hX3 := Lib.hid (hX2.out.below kb3 hX2.out.lt)
            have hP23 := Lib.hid (hP2'.out.below kb3 hP2'.out.lt)
            have hP3' := Lib.hid hP3
            have d3 : w3.cell? ⟨wr.heap.size, 1, none⟩ = some (.slice ax nx cx) := (hX3.out.cell 1).trans rfl
            have hr3 := Lib.hid (hr.out.below kb3'.out hsz)
            have t3 : w3.cell? ⟨w1.heap.size, 7, none⟩ = some (.slice av (rawB (O.take k)).length cv) := (hr3.out.cell 7).trans rfl
            have z3 : w3.frozen? ⟨w1.heap.size, 7, none⟩ = false := by rw [hr3.out.frozen]; simp
            have hb3x := Lib.hid (hb.out.trans (kb3'.out.mono hb.out.size))
            have hzw3 : Hid (w2.heap.size < w3.heap.size) := Lib.hid hP3.lt
            clear kb3 hP3 hP2' hX2 kb2'
            by_cases hfit : (rawB (O.take k)).length + 4 + nx ≤ 65535
            · have hfI : ¬ (65535 : Int) < (rawB (O.take k)).length + 4 + nx := by omega
              have ho3 := Lib.hid (ho.out.ext kb3'.out)
              have hq3 := Lib.hid (q2'.out.ext kb3'.out)
              have hR3x := Lib.hid (hR.out.below kb3'.out (by have := hz5.out; omega))
              obtain ⟨V4, hV4⟩ : ∃ V, w3.alloc (.cells #[.slice av (rawB (O.take k)).length cv, .slice (some ⟨V1.heap.size, 0, none⟩) 2 2, .slice (some ⟨w2.heap.size, 0, none⟩) 2 2, .slice ax nx cx] 33) = V := ⟨_, rfl⟩
              have hG4 : Hid (Blk V4 w3.heap.size 33 (0, 0) [.slice av (rawB (O.take k)).length cv, .slice (some ⟨V1.heap.size, 0, none⟩) 2 2, .slice (some ⟨w2.heap.size, 0, none⟩) 2 2, .slice ax nx cx]) := Lib.hid (by rw [← hV4]; exact Blk.new w3 33 (0, 0) #[.slice av (rawB (O.take k)).length cv, .slice (some ⟨V1.heap.size, 0, none⟩) 2 2, .slice (some ⟨w2.heap.size, 0, none⟩) 2 2, .slice ax nx cx])
              have kb4 : Hid (Below w3.heap.size w3 V4) := Lib.hid (by rw [← hV4]; exact (Below.refl _ _).alloc (Nat.le_refl _) _)
              go_wp2_with fail
              refine (concat_any (gl := w3.heap.size) [.slice av (rawB (O.take k)).length cv, .slice (some ⟨V1.heap.size, 0, none⟩) 2 2, .slice (some ⟨w2.heap.size, 0, none⟩) 2 2, .slice ax nx cx] [rawB (O.take k), be16 X.1, be16 nx, X.2] hG4.out rfl ?cv ?cs (by simp)).mono ?_
              case cv =>
                intro j Y hj
                have e5 : ∀ (g : Nat) (L : List UInt8), Blk V4 g 5 (0, 0) (u8s L) → L.length = 2 → Rd byteE V4 (some ⟨g, 0, none⟩) 2 2 L := fun g L hB hL => rd_blk (E := byteE) (by rw [rowOf_byte]; exact hB) 2 hL.symm (by decide)
                match j, hj with
                | 0, hj => cases hj; obtain ⟨a8, c8, e8, r8⟩ := (ho3.out.ext kb4.out).rd; cases e8; exact ⟨_, _, _, rfl, r8⟩
                | 1, hj => cases hj; exact ⟨_, _, _, rfl, e5 _ _ (hP23.out.below kb4.out hP23.out.lt) rfl⟩
                | 2, hj => cases hj; exact ⟨_, _, _, rfl, e5 _ _ (hP3'.out.below kb4.out hP3'.out.lt) rfl⟩
                | 3, hj => cases hj; exact ⟨_, _, _, rfl, hq3.out.ext kb4.out⟩
              case cs => have := hxl'.out; simp [be16_len]; omega
              rintro e w5 ⟨⟨v5, rfl, ho5⟩, kb5⟩
              have hfl : [rawB (O.take k), be16 X.1, be16 nx, X.2].flatten = rawB (O.take (k + 1)) := by rw [hsn'.out, ← hxl'.out]; simp
              rw [hfl] at ho5
              obtain ⟨a5, c5, e5⟩ := ho5.shape
              subst e5
              have kb5' := kb4.out.trans (kb5.mono kb4.out.size)
              have hr5 := hr3.out.below kb5' hr3.out.lt
              have hR5x := hR3x.out.below kb5' hR3x.out.lt
              have hb5x := hb3x.out.trans (kb5'.mono hb3x.out.size)
              have hlt5 : w1.heap.size < w5.heap.size := hr5.lt
              have z5 : w5.frozen? ⟨w1.heap.size, 7, none⟩ = false := by rw [hr5.frozen]; simp
              have c57 : w5.cell? ⟨w1.heap.size, 7, none⟩ = some (.slice av (rawB (O.take k)).length cv) := (hr5.cell 7).trans rfl
              obtain ⟨V6, hV6⟩ : ∃ V, w5.setCell ⟨w1.heap.size, 7, none⟩ (.slice a5 (rawB (O.take (k + 1))).length c5) = V := ⟨_, rfl⟩
              have hbase : w1.heap.size + 1 ≤ V4.heap.size := by have := hG4.out.lt; have := hr3.out.lt; omega
              have hr6 : Hid (Blk V6 w1.heap.size 37 (0, 0) (rC nilV 41 sz.toNat (ttlN hi.toNat ver.toNat true) nilV nilV nilV (.slice a5 (rawB (O.take (k + 1))).length c5))) := Lib.hid (by rw [← hV6]; exact hr5.set 7 (.slice a5 (rawB (O.take (k + 1))).length c5))
              have ho6 : Hid (Own byteE V6 (w1.heap.size + 1) (.slice a5 (rawB (O.take (k + 1))).length c5) (rawB (O.take (k + 1)))) := Lib.hid (by
                rw [← hV6]
                exact (ho5.mono hbase).keep (fun j hj => Below.heap_setCell _ _ _ _ (by have := (ho5.lt j hj).1; intro e; simp at e; omega)))
              have hR6 : Hid (Blk V6 W1.heap.size 37 (0, 0) (rC nilV 0 0 0 nilV nilV nilV nilV)) := Lib.hid (by rw [← hV6]; exact hR5x.setOther (by have := hz5.out; intro e; simp at e; omega) _)
              have hb6 : Hid (Below w.heap.size w V6) := Lib.hid (by rw [← hV6]; exact hb5x.setCell (by have := hz5.out; simp; omega) _)
              have hz6 : w1.heap.size < V6.heap.size := by rw [← hV6]; simpa using hlt5
              clear hV4 ho5 kb5 kb5' hr5 hR5x hb5x hG4 kb4 ho3 hq3 hR3x hr3 hX3 hP23 hP3' hfl ho hr hR hb
              go_wp2_with fail
              clear hV6
              go_roundw
              case rel => exact ⟨k + 1, _, by omega, by go_num, hr6, ho6, by have := hll'.out; omega, hR6, hb6, hz6⟩
              case measure => simp [intOf]; omega
            · have hfI : (65535 : Int) < (rawB (O.take k)).length + 4 + nx := by omega
              have hR3x := Lib.hid (hR.out.below kb3'.out (by have := hz5.out; omega))
              have hno : Hid (¬ ((rawB O).length ≤ 65535)) := Lib.hid (by have := hle'.out; omega)
              clear ho hr hR hb q2' hX3 hP23 hP3'
              go_wp2_with (refine store_whole rfl 37 (.tmp 2) (.tmp 69) rfl rfl rfl hR3x.out (by rfl) (by kernel_rfl) (by kernel_rfl) ?_; intro w6 hB6 hg6 hz6; have hR6 := Lib.hid hB6; have hb6 := Lib.hid (hb3x.out.grown hg6 hb3x.out.size (fun j hj => by cases hj; exact hWl.out)); clear hB6 hg6 hz6)
              refine bodyPost_ret (results_ct rfl _ rfl hR6.out Try.underlying37 rfl (by kernel_rfl)) rfl ?_
              refine ⟨?_, hb6.out⟩
              unfold RecB
              rw [if_neg (fun h => hno.out h.2)]
              rfl
          · have h16I : (65535 : Int) < nx := by omega
            go_wp2_with fail
            refine (put16_no nx _ (.inr h16I)).mono ?_
            rintro e w3 ⟨rfl, rfl⟩
            have hR3x := Lib.hid (hR.out.below kb2'.out (by have := hz5.out; omega))
            have hb3x := Lib.hid (hb.out.trans (kb2'.out.mono hb.out.size))
            have hno : Hid (¬ ((rawB O).length ≤ 65535)) := Lib.hid (by have := hle'.out; omega)
            clear ho hr hR hb q2' hX2 hP2'
            go_upto_region 12 with (fail)
            go_wp2_with (refine store_whole rfl 37 (.tmp 2) (.tmp 69) rfl rfl rfl hR3x.out (by rfl) (by kernel_rfl) (by kernel_rfl) ?_; intro w6 hB6 hg6 hz6; have hR6 := Lib.hid hB6; have hb6 := Lib.hid (hb3x.out.grown hg6 hb3x.out.size (fun j hj => by cases hj; exact hWl.out)); clear hB6 hg6 hz6)
            refine bodyPost_ret (results_ct rfl _ rfl hR6.out Try.underlying37 rfl (by kernel_rfl)) rfl ?_
            refine ⟨?_, hb6.out⟩
            unfold RecB
            rw [if_neg (fun h => hno.out h.2)]
            rfl
        · have hk' : k = O.length := by omega
          subst hk'
          rw [List.take_length] at ho h65
          have ho' := Lib.hid (ho.out.mono hpc)
          clear t7
          rw [List.take_length] at hr
          go_wp2_with (first
            | (refine load_whole rfl 37 (.tmp 4) rfl rfl hr.out Try.underlying37 rfl (by kernel_rfl) ?_)
            | (refine store_whole rfl 37 (.tmp 2) (.tmp 82) rfl rfl rfl hR.out (by rfl) (by kernel_rfl) (by kernel_rfl) ?_; intro w6 hB6 hg6 hz6; have hR6 := Lib.hid hB6; have hb6 := Lib.hid (hb.out.grown hg6 hb.out.size (fun j hj => by cases hj; exact hWl.out)); have ho6 := Lib.hid (ho.out.keep (w' := w6) (fun j hj => hg6.block j (ho.out.lt j hj).2 (fun e => by have := (ho.out.lt j hj).1; have := hz5.out; cases e; omega))); clear hB6 hg6 hz6))
          refine bodyPost_ret (results_ct rfl _ rfl hR6.out Try.underlying37 rfl (by kernel_rfl)) rfl ?_
          refine ⟨?_, hb6.out⟩
          unfold RecB
          rw [if_pos ⟨hmt.out, h65⟩]
          exact ⟨_, rfl, ho6.out.mono hpc⟩
  · have hmf : mayB sz hi ver = false := by simpa using hmay
    have hmf' := Lib.hid hmf
    clear hmay hmf
    go_enter Try.func11, Try.ntmps11
    go_wp2_with fail
    refine (hma'.out _).mono ?_
    rw [hmf'.out]
    rintro e w1 ⟨rfl, hb1⟩
    have hR3 := Lib.hid (hR2.out.below hb1 (by have := hz1.out; omega))
    have hb3 := Lib.hid (hb2.out.trans (hb1.mono hb2.out.size))
    clear hb1 hb2 hR2 hE2 p0 p1 p2 p3 p4
    go_wp2_with (refine store_whole rfl 37 (.tmp 2) (.tmp 14) rfl rfl rfl hR3.out (by rfl) (by kernel_rfl) (by kernel_rfl) ?_; intro w6 hB6 hg6 hz6; have hR6 := Lib.hid hB6; have hb6 := Lib.hid (hb3.out.grown hg6 hb3.out.size (fun k hk => by cases hk; have := hz1.out; omega)); clear hB6 hg6 hz6)
    refine bodyPost_ret (results_ct rfl _ rfl hR6.out Try.underlying37 rfl (by kernel_rfl)) rfl ?_
    refine ⟨?_, hb6.out⟩
    unfold RecB
    rw [if_neg (by rw [hmf'.out]; simp)]
    rfl
end Go.Proofs.Ythgnlbdolilklaa
