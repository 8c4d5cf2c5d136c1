/- The program's Read 13. -/
import Derived.Test.YthgnlbdolilklaaEdC
import Derived.Deep.CutRange
import Derived.Deep.RegionHeld3
import Derived.Deep.RegionLaw
namespace Go.Proofs.Ythgnlbdolilklaa
open Go Go.RowKit
theorem grown_same {u w v : World} {r : Option Nat} (h : u.grownBy v r) (e : u.heap = w.heap) (_t : u.tape = w.tape := by rfl) (_o : u.os = w.os := by rfl) (_p : u.output = w.output := by rfl) : w.grownBy v r :=
  ⟨h.os.trans _o, h.tape.trans _t, h.output.trans _p, by rw [← e]; exact h.size, fun k hk hn => by rw [← e] at hk ⊢; exact h.block k hk hn⟩
theorem step_own {α : Type} {P : Program} {E : Enc α} {ops : Array Oper} {o : Oper} {a : Act} {W : World} {K : Act → World → Prop} {Q : Exit → Act → World → Prop} {Ep : Prop} (hgd : o.guard = none) (s x : Operand) (t tx : TypeId)
    (ho : o.op = .call { callee := .builtin .append, args := #[s, x], argTypes := #[t, tx] }) {i : TypeInfo} {z : Value} {bytes : Nat} (ht : P.underlying t = some (.slice E.e)) (hi : P.info? E.e = some i) (hz : i.zero = some z)
    (hsize : i.size = E.k) (hby : i.bytes = bytes) (hzc : z.cells.toList = E.f E.z) {base : Nat} {v xv : Value} {l news : List α} (hs : a.eval s = v) (hown : Own E W base v l) (hx : a.eval x = xv) (hsrc : Src P E.k tx xv news.length (rowOf E news) W)
    (h63 : l.length + news.length ≤ maxLen) (hbytes : (l.length + news.length) * bytes ≤ 140737488355328) (hbase : base ≤ W.heap.size)
    (h : ∀ v' w', Own E w' base v' (l ++ news) → W.grownBy w' v.ownBlock → (v'.ownBlock = v.ownBlock ∨ v'.ownBlock = some W.heap.size) → K (a.put o.dst v') w') :
    if Region.wanted o (yielded ops a.tmps) = true then Oper.wp P o a W K Q else Ep := by
  have hw : Region.wanted o (yielded ops a.tmps) = true := by simp [Region.wanted, hgd]
  rw [if_pos hw]
  obtain ⟨v', w', hr, h2, h3, h4⟩ := run_append_Own (P := P) E W base t tx o.type i z bytes ht hi hz hsize hby hzc v l hown xv news hsrc h63 hbytes hbase
  unfold Oper.wp execOp
  simp only [ho, resolve, invoke, builtin, Sem.run_bind, Sem.run_pure, Result.andThen_ok, List.map_toArray, List.map_cons, List.map_nil, hs, hx, hr]
  exact h v' w' h2 h3 h4
theorem cell_alloc {w w0 : World} {o : Obj} {g j : Nat} {v : Value} (h : w0.cell? ⟨g, j, none⟩ = some v) (e : w.heap = w0.heap) : (w.alloc o).cell? ⟨g, j, none⟩ = some v := by
  have h2 : w.cell? ⟨g, j, none⟩ = some v := by rw [← h]; unfold World.cell?; rw [e]
  exact (((Below.refl w.heap.size w).alloc (Nat.le_refl _) o).cell (p := ⟨g, j, none⟩) (World.block_lt_of_cell? w _ h2)).trans h2
theorem Try.info53 : (Try.prog.info? 53).map (fun i => (i.zero, i.size, i.bytes)) = some (some (.agg #[.int .u16 0, .slice none 0 0]), 2, 32) := by kernel_rfl
/-- an option is appended, as a step of a region that draws -/
theorem step_opt {ops : Array Oper} {o : Oper} {a : Act} {w0 W0 : World} {K : Act → World → Prop} {Q : Exit → Act → World → Prop} {Ep : Prop} {g e1 : Nat} {av a8 : Option Addr} {cv c8 : Nat} {A : List Opt} {D : List UInt8} (hgd : o.guard = none) (s x : Operand)
    (ho : o.op = .call { callee := .builtin .append, args := #[s, x], argTypes := #[22, 22] }) (hO : OwnO w0 (g + 1) (.slice av A.length cv) A) (hD : Own byteE w0 (g + 1) (.slice a8 D.length c8) D) (hb : g + 1 ≤ w0.heap.size) (hA : A.length ≤ 65535)
    (e : W0.heap = w0.heap) (et : W0.tape = w0.tape) (eo : W0.os = w0.os) (ep : W0.output = w0.output)
    (hs : a.eval s = .slice av A.length cv) (hx : a.eval x = .slice (some ⟨W0.heap.size, 0, none⟩) 1 1)
    (h : ∀ a9 c9 w', OwnO w' (g + 1) (.slice a9 (A.length + 1) c9) (A ++ [(e1, D)]) → Below (g + 1) w0 w' → K (a.put o.dst (.slice a9 (A.length + 1) c9)) w') :
    if Region.wanted o (yielded ops a.tmps) = true then Oper.wp Try.prog o a (W0.alloc (.cells #[.int .u16 (e1 : Nat), .slice a8 D.length c8] 53)) K Q else Ep := by
  obtain ⟨i0, hi, hz0, hz1, hz2⟩ := info_parts Try.info53
  have k0 : Below (g + 1) w0 W0 := ⟨eo, et, ep, by rw [e]; exact Nat.le_refl _, fun _ _ => by rw [e]⟩
  have kb : Below w0.heap.size w0 (W0.alloc (.cells #[.int .u16 (e1 : Nat), .slice a8 D.length c8] 53)) := (⟨eo, et, ep, by rw [e]; exact Nat.le_refl _, fun _ _ => by rw [e]⟩ : Below w0.heap.size w0 W0).alloc (by rw [e]; exact Nat.le_refl _) _
  obtain ⟨ps, h1, h2, h3⟩ := hO.ext kb
  have hD' := hD.ext kb
  have hB := Blk.new W0 53 (0, 0) #[.int .u16 (e1 : Nat), .slice a8 D.length c8]
  have hsrc := (rd_blk (E := opE) (X := [(e1, a8, D.length, c8)]) hB 1 rfl (by decide)).src (P := Try.prog) (tx := 22) Try.underlying22
  have hsz : g + 1 ≤ (W0.alloc (.cells #[.int .u16 (e1 : Nat), .slice a8 D.length c8] 53)).heap.size := Nat.le_trans hb kb.size
  refine step_own (E := opE) hgd s x 22 22 ho Try.underlying22 hi hz0 hz1 hz2 rfl hs h1 hx hsrc (by simp [maxLen]; omega) (by simp; omega) hsz ?_
  intro v' w' h4 h5 h6
  have h7 := OwnO.app (o := (e1, D)) h1 h2 h3 ⟨rfl, hD'⟩ h4 h5
  obtain ⟨a9, c9, e9, _⟩ := h7.rdO
  have e10 : (A ++ [(e1, D)]).length = A.length + 1 := by simp
  rw [e10] at e9
  subst e9
  exact h a9 c9 w' h7 ((kb.mono hb).grown h5 hsz (fun k hk => (h1.lt k hk).1))
theorem opt_blk {w5 w8 w9 : World} {b g : Nat} {t : TypeId} {fz : Nat × Nat} {C : List Value} (hB : Blk w5 b t fz C) (hg : w5.grownBy w8 (some g)) (hne : b ≠ g) (kb : Below (g + 1) w8 w9) (hl : b < g + 1) : Blk w9 b t fz C :=
  (kb.block b hl).trans ((hg.block b hB.lt (fun e => hne (Option.some.inj e))).trans hB)
theorem Steps.next {l : List UInt8} {p p1 p2 p3 : Nat} {b1 b2 b3 : Bool} {c1 c2 : Nat} {D : List UInt8} (h : Steps l p p1 p2 p3 b1 b2 b3 c1 c2 D) (hlt : p < l.length) {A : List Opt} (hg : prs l 0 = (prs l p).map (A ++ ·)) (hA : A.length ≤ p) :
    (b3 = false → prs l 0 = (prs l p3).map ((A ++ [(c1, D)]) ++ ·)) ∧ (b3 = true → prs l 0 = none) ∧ (b3 = false → p3 ≤ l.length ∧ (A ++ [(c1, D)]).length ≤ p3 ∧ p < p3) := by
  by_cases h4 : p + 4 + cD l (p + 2) ≤ l.length
  · obtain ⟨r1, r2, r3, r4⟩ := h.good h4
    refine ⟨fun _ => ?_, fun e => absurd (r1.symm.trans e) (by decide), fun _ => ⟨by omega, by simp; omega, by omega⟩⟩
    rw [hg, prs_one h4, Option.map_map, r2, r3, r4]
    congr 1
    funext O
    simp
  · obtain ⟨r1, r2⟩ := h.bad (by omega)
    refine ⟨fun e => absurd (r1.symm.trans e) (by decide), fun _ => ?_, fun e => absurd (r1.symm.trans e) (by decide)⟩
    rw [hg, prs_no hlt (by omega)]
    rfl
/-- the reader's state, as its cells tell it: what is left -/
def leftM (w : World) (g n : Nat) : Nat := match w.cell? ⟨g, 2, none⟩, w.cell? ⟨g, 1, none⟩ with
  | some (.bool false), some (.int _ q) => n + 1 - q.toNat
  | _, _ => 0
theorem leftM_of {w : World} {lo g : Nat} {l : List UInt8} {p : Nat} {b : Bool} (h : Rdr w lo g l p b) : leftM w g l.length = if b then 0 else l.length + 1 - p := by
  obtain ⟨a, c, r1, _⟩ := h
  have c2 := (r1.cell 2).trans (rfl : _ = some (Value.bool b))
  have c1 := (r1.cell 1).trans (rfl : _ = some (Value.int .i64 p))
  unfold leftM
  rw [c2, c1]
  cases b <;> simp
theorem and_u32 (a b : Nat) (ha : a < 4294967296) (hb : b < 4294967296) : bits .and .u32 (a : Int) (b : Int) = ((a &&& b : Nat) : Int) := (bits_nat .u32 32 (by decide) (fun n h0 h1 => by rw [IntKind.wrap_u32]; omega) a b ha hb).1
theorem and_bit (x i : Nat) : (x &&& 2 ^ i != 0) = (x / 2 ^ i % 2 == 1) := by
  have h : x &&& 2 ^ i = if x / 2 ^ i % 2 = 1 then 2 ^ i else 0 := by
    apply Nat.eq_of_testBit_eq
    intro j
    rw [Nat.testBit_and, Nat.testBit_two_pow]
    by_cases hi : i = j
    · subst hi
      rw [decide_eq_true rfl, Bool.and_true, Nat.testBit_eq_decide_div_mod_eq]
      by_cases hx : x / 2 ^ i % 2 = 1
      · rw [decide_eq_true hx, if_pos hx, Nat.testBit_two_pow, decide_eq_true rfl]
      · rw [decide_eq_false hx, if_neg hx]; simp
    · rw [decide_eq_false hi, Bool.and_false]
      split
      · rw [Nat.testBit_two_pow, decide_eq_false hi]
      · simp
  rw [h]
  have hp : (2 : Nat) ^ i ≠ 0 := Nat.ne_of_gt (Nat.two_pow_pos i)
  by_cases hx : x / 2 ^ i % 2 = 1
  · rw [if_pos hx, hx]; simp
  · rw [if_neg hx]; simp [hx]
theorem ttl_ver (t : Nat) (h : t < 4294967296) : bits .and .u32 ((t : Int) / 65536) 255 = (t : Int) / 65536 % 256 := by
  have e1 : (t : Int) / 65536 = ((t / 65536 : Nat) : Int) := by omega
  have e2 : (255 : Int) = ((2 ^ 8 - 1 : Nat) : Int) := rfl
  rw [e1, e2, and_u32 _ _ (by omega) (by decide), Nat.and_two_pow_sub_one_eq_mod]
  omega
theorem ttl_do (t : Nat) (h : t < 4294967296) : (bits .and .u32 (t : Int) 32768 != 0) = (t / 32768 % 2 == 1) := by
  have e2 : (32768 : Int) = ((2 ^ 15 : Nat) : Int) := rfl
  rw [e2, and_u32 _ _ h (by decide)]
  have e3 : ((((t &&& 2 ^ 15 : Nat)) : Int) != 0) = ((t &&& 2 ^ 15) != 0) := by
    rw [Bool.eq_iff_iff]; simp
  rw [e3, and_bit t 15]
set_option maxHeartbeats 8000000 in
set_option maxRecDepth 100000 in
theorem read_any {w : World} (a0 : Option Addr) (n0 c0 : Nat) (ty cl ttl : Nat) (a4 : Option Addr) (n4 c4 : Nat) (a5 : Option Addr) (n5 c5 : Nat) (a6 : Option Addr) (n6 c6 : Nat) {a : Option Addr} {n c : Nat} {l : List UInt8} (h : Rd byteE w a n c l)
    (ht : ttl < 4294967296) (_hty : ty < 65536) (hcl : cl < 65536) (h0 : n0 ≤ 1152921504606846976) (h4 : n4 ≤ 1152921504606846976) (h5 : n5 ≤ 1152921504606846976) (h6 : n6 ≤ 1152921504606846976) (hn : n ≤ 1152921504606846976) :
    Calls Try.prog 13 #[rV (.slice a0 n0 c0) ty cl ttl (.slice a4 n4 c4) (.slice a5 n5 c5) (.slice a6 n6 c6) (.slice a n c)] w fun e w' => ReadB w.heap.size n0 ty cl ttl n4 n5 n6 l e w' ∧ Below w.heap.size w w' := by
  unfold rV
  have hl := h.len
  have hH := Lib.hid h
  have hl' := Lib.hid hl
  clear h hl
  obtain ⟨W1, hW1⟩ : ∃ W, w.alloc (.cells #[.slice a0 n0 c0, .int .u16 ty, .int .u16 cl, .int .u32 ttl, .slice a4 n4 c4, .slice a5 n5 c5, .slice a6 n6 c6, .slice a n c] 37) = W := ⟨_, rfl⟩
  obtain ⟨W2, hW2⟩ : ∃ W, W1.alloc (.cells #[.int .i64 0, .int .i64 0, .int .i64 0, .bool false, .slice none 0 0] 24) = W := ⟨_, rfl⟩
  obtain ⟨W3, hW3⟩ : ∃ W, W2.alloc (.cells #[.slice a4 n4 c4, .slice a5 n5 c5, .slice a6 n6 c6, .slice a n c] 35) = W := ⟨_, rfl⟩
  have B1 : Blk W1 w.heap.size 37 (0, 0) [.slice a0 n0 c0, .int .u16 ty, .int .u16 cl, .int .u32 ttl, .slice a4 n4 c4, .slice a5 n5 c5, .slice a6 n6 c6, .slice a n c] := by rw [← hW1]; exact Blk.new w 37 (0, 0) #[.slice a0 n0 c0, .int .u16 ty, .int .u16 cl, .int .u32 ttl, .slice a4 n4 c4, .slice a5 n5 c5, .slice a6 n6 c6, .slice a n c]
  have B2 : Blk W2 W1.heap.size 24 (0, 0) [.int .i64 0, .int .i64 0, .int .i64 0, .bool false, .slice none 0 0] := by rw [← hW2]; exact Blk.new W1 24 (0, 0) #[.int .i64 0, .int .i64 0, .int .i64 0, .bool false, .slice none 0 0]
  have B3 : Blk W3 W2.heap.size 35 (0, 0) [.slice a4 n4 c4, .slice a5 n5 c5, .slice a6 n6 c6, .slice a n c] := by rw [← hW3]; exact Blk.new W2 35 (0, 0) #[.slice a4 n4 c4, .slice a5 n5 c5, .slice a6 n6 c6, .slice a n c]
  have k1 : Below w.heap.size w W1 := by rw [← hW1]; exact (Below.refl _ _).alloc (Nat.le_refl _) _
  have k2 : Below W1.heap.size W1 W2 := by rw [← hW2]; exact (Below.refl _ _).alloc (Nat.le_refl _) _
  have k3 : Below W2.heap.size W2 W3 := by rw [← hW3]; exact (Below.refl _ _).alloc (Nat.le_refl _) _
  have B12 := B1.below k2 B1.lt
  have B13 := Lib.hid (B12.below k3 B12.lt)
  have B23 := Lib.hid (B2.below k3 B2.lt)
  have B33 := Lib.hid B3
  have hz : Hid (w.heap.size < W1.heap.size ∧ W1.heap.size < W2.heap.size ∧ W2.heap.size < W3.heap.size) := Lib.hid ⟨B1.lt, B2.lt, B3.lt⟩
  have hb3 : Hid (Below w.heap.size w W3) := Lib.hid ((k1.trans (k2.mono k1.size)).trans (k3.mono (by have := hz.out; omega)))
  have x4 : W2.cell? ⟨w.heap.size, 4, none⟩ = some (.slice a4 n4 c4) := (B12.cell 4).trans rfl
  have x5 : W2.cell? ⟨w.heap.size, 5, none⟩ = some (.slice a5 n5 c5) := (B12.cell 5).trans rfl
  have x6 : W2.cell? ⟨w.heap.size, 6, none⟩ = some (.slice a6 n6 c6) := (B12.cell 6).trans rfl
  have x7 : W2.cell? ⟨w.heap.size, 7, none⟩ = some (.slice a n c) := (B12.cell 7).trans rfl
  have y0 : W3.cell? ⟨w.heap.size, 0, none⟩ = some (.slice a0 n0 c0) := (B13.out.cell 0).trans rfl
  have y1 : W3.cell? ⟨w.heap.size, 1, none⟩ = some (.int .u16 ty) := (B13.out.cell 1).trans rfl
  have y2 : W3.cell? ⟨w.heap.size, 2, none⟩ = some (.int .u16 cl) := (B13.out.cell 2).trans rfl
  have y3 : W3.cell? ⟨w.heap.size, 3, none⟩ = some (.int .u32 ttl) := (B13.out.cell 3).trans rfl
  have d0 : W3.cell? ⟨W2.heap.size, 0, none⟩ = some (.slice a4 n4 c4) := (B3.cell 0).trans rfl
  have d1 : W3.cell? ⟨W2.heap.size, 1, none⟩ = some (.slice a5 n5 c5) := (B3.cell 1).trans rfl
  have d2 : W3.cell? ⟨W2.heap.size, 2, none⟩ = some (.slice a6 n6 c6) := (B3.cell 2).trans rfl
  have d3 : W3.cell? ⟨W2.heap.size, 3, none⟩ = some (.slice a n c) := (B3.cell 3).trans rfl
  clear B1 B2 B3 B12 k1 k2 k3
  have hbad : ¬ rdOK n0 ty ttl n4 n5 n6 n → Calls Try.prog 13 #[.agg #[.slice a0 n0 c0, .int .u16 ty, .int .u16 cl, .int .u32 ttl, .slice a4 n4 c4, .slice a5 n5 c5, .slice a6 n6 c6, .slice a n c]] w fun e w' => ReadB w.heap.size n0 ty cl ttl n4 n5 n6 l e w' ∧ Below w.heap.size w w' := by
    intro hno
    have hno' : Hid (¬ rdOK n0 ty ttl n4 n5 n6 l.length) := Lib.hid (by rw [hl'.out]; exact hno)
    by_cases q0 : 0 < n0
    · have q0I : (0 : Int) < n0 := by omega
      clear hno
      go_enter Try.func13, Try.ntmps13
      go_upto_region 3 with (fail)
      go_wp2_with (refine store_whole rfl 24 (.tmp 2) (.tmp 44) rfl rfl rfl B23.out (by rfl) (by kernel_rfl) (by kernel_rfl) ?_; intro w6 hB6 hg6 hz6; have hR6 := Lib.hid hB6; have hb6 := Lib.hid (hb3.out.grown hg6 hb3.out.size (fun j hj => by cases hj; exact Nat.le_of_lt hz.out.1)); clear hB6 hg6 hz6)
      refine bodyPost_ret (results_ct rfl _ rfl hR6.out Try.underlying24 rfl (by kernel_rfl)) rfl ?_
      exact ⟨ReadB.bad (.inl hno'.out) rfl, hb6.out⟩
    · have q0I : ¬ (0 : Int) < n0 := by omega
      by_cases q1 : ty = 41
      · have q1I : ((ty : Int) != 41) = false := by rw [q1]; rfl
        have q1h := Lib.hid q1
        clear q1
        by_cases q2 : ttl % 32768 = 0
        · have q2I : ((ttl : Int) % 32768 != 0) = false := by simp; omega
          by_cases q3 : 0 < n4 + n5 + n6
          · have q3I : (0 : Int) < (n4 : Int) + n5 + n6 := by omega
            clear hno
            go_enter Try.func13, Try.ntmps13
            go_upto_region 3 with (fail)
            go_wp2_with (refine store_whole rfl 24 (.tmp 2) (.tmp 44) rfl rfl rfl B23.out (by rfl) (by kernel_rfl) (by kernel_rfl) ?_; intro w6 hB6 hg6 hz6; have hR6 := Lib.hid hB6; have hb6 := Lib.hid (hb3.out.grown hg6 hb3.out.size (fun j hj => by cases hj; exact Nat.le_of_lt hz.out.1)); clear hB6 hg6 hz6)
            refine bodyPost_ret (results_ct rfl _ rfl hR6.out Try.underlying24 rfl (by kernel_rfl)) rfl ?_
            exact ⟨ReadB.bad (.inl hno'.out) rfl, hb6.out⟩
          · have q3I : ¬ (0 : Int) < (n4 : Int) + n5 + n6 := by omega
            have q4I : (65535 : Int) < n := by have := q1h.out; unfold rdOK at hno; omega
            clear hno
            go_enter Try.func13, Try.ntmps13
            go_upto_region 3 with (fail)
            go_wp2_with (refine store_whole rfl 24 (.tmp 2) (.tmp 44) rfl rfl rfl B23.out (by rfl) (by kernel_rfl) (by kernel_rfl) ?_; intro w6 hB6 hg6 hz6; have hR6 := Lib.hid hB6; have hb6 := Lib.hid (hb3.out.grown hg6 hb3.out.size (fun j hj => by cases hj; exact Nat.le_of_lt hz.out.1)); clear hB6 hg6 hz6)
            refine bodyPost_ret (results_ct rfl _ rfl hR6.out Try.underlying24 rfl (by kernel_rfl)) rfl ?_
            exact ⟨ReadB.bad (.inl hno'.out) rfl, hb6.out⟩
        · have q2I : ((ttl : Int) % 32768 != 0) = true := by simp; omega
          clear hno
          go_enter Try.func13, Try.ntmps13
          go_upto_region 3 with (fail)
          go_wp2_with (refine store_whole rfl 24 (.tmp 2) (.tmp 44) rfl rfl rfl B23.out (by rfl) (by kernel_rfl) (by kernel_rfl) ?_; intro w6 hB6 hg6 hz6; have hR6 := Lib.hid hB6; have hb6 := Lib.hid (hb3.out.grown hg6 hb3.out.size (fun j hj => by cases hj; exact Nat.le_of_lt hz.out.1)); clear hB6 hg6 hz6)
          refine bodyPost_ret (results_ct rfl _ rfl hR6.out Try.underlying24 rfl (by kernel_rfl)) rfl ?_
          exact ⟨ReadB.bad (.inl hno'.out) rfl, hb6.out⟩
      · have q1I : ((ty : Int) != 41) = true := by simp; omega
        clear hno
        go_enter Try.func13, Try.ntmps13
        go_upto_region 3 with (fail)
        go_wp2_with (refine store_whole rfl 24 (.tmp 2) (.tmp 44) rfl rfl rfl B23.out (by rfl) (by kernel_rfl) (by kernel_rfl) ?_; intro w6 hB6 hg6 hz6; have hR6 := Lib.hid hB6; have hb6 := Lib.hid (hb3.out.grown hg6 hb3.out.size (fun j hj => by cases hj; exact Nat.le_of_lt hz.out.1)); clear hB6 hg6 hz6)
        refine bodyPost_ret (results_ct rfl _ rfl hR6.out Try.underlying24 rfl (by kernel_rfl)) rfl ?_
        exact ⟨ReadB.bad (.inl hno'.out) rfl, hb6.out⟩
  by_cases hok : rdOK n0 ty ttl n4 n5 n6 n
  · have hok' : Hid (rdOK n0 ty ttl n4 n5 n6 l.length) := Lib.hid (by rw [hl'.out]; exact hok)
    obtain ⟨rfl, o1, o2, o3, o4, o5, o6⟩ := hok
    have q0I : ¬ (0 : Int) < ((0 : Nat) : Int) := by omega
    have q1I : ((ty : Int) != 41) = false := by rw [o1]; rfl
    have q3I : ¬ (0 : Int) < (n4 : Int) + n5 + n6 := by omega
    clear o1 o3 o4 o5
    have q2I : ((ttl : Int) % 32768 != 0) = false := by simp; omega
    have q4I : ¬ (65535 : Int) < n := by omega
    have v1 := ttl_ver ttl ht
    have v2 := ttl_do ttl ht
    clear hbad
    have hl65 : l.length ≤ 65535 := by rw [hl'.out]; omega
    have hl140 : l.length ≤ 140737488355328 := by omega
    have hl140' := Lib.hid hl140
    obtain ⟨X, hX⟩ : ∃ X, W3.alloc (.cells #[.int .i64 cl, .int .i64 ((ttl : Int) / 16777216), .int .i64 ((ttl : Int) / 65536 % 256), .bool (ttl / 32768 % 2 == 1), .slice none 0 0] 24) = X := ⟨_, rfl⟩
    have BX : Blk X W3.heap.size 24 (0, 0) [.int .i64 cl, .int .i64 ((ttl : Int) / 16777216), .int .i64 ((ttl : Int) / 65536 % 256), .bool (ttl / 32768 % 2 == 1), .slice none 0 0] := by rw [← hX]; exact Blk.new W3 24 (0, 0) #[.int .i64 cl, .int .i64 ((ttl : Int) / 16777216), .int .i64 ((ttl : Int) / 65536 % 256), .bool (ttl / 32768 % 2 == 1), .slice none 0 0]
    have kx : Below W3.heap.size W3 X := by rw [← hX]; exact (Below.refl _ _).alloc (Nat.le_refl _) _
    have xd3 := (kx.cell (p := ⟨W2.heap.size, 3, none⟩) hz.out.2.2).trans d3
    have hz4 : Hid (W3.heap.size < X.heap.size) := Lib.hid BX.lt
    have BX' := Lib.hid BX
    have B2X := Lib.hid (B23.out.below kx B23.out.lt)
    have hbX := Lib.hid (hb3.out.trans (kx.mono hb3.out.size))
    have hHX := Lib.hid (hH.out.ext hbX.out)
    rw [← hX] at xd3
    have hX' := Lib.hid hX
    clear hX BX kx
    go_enter Try.func13, Try.ntmps13
    go_wp2_with fail
    rw [hX'.out]
    refine (new_any hHX.out (by omega)).mono ?_
    rintro e w4 ⟨g, rfl, hgX, hR4, kb4⟩
    have BX4 := Lib.hid (BX'.out.below kb4 hz4.out)
    have B24 := Lib.hid (B2X.out.below kb4 B2X.out.lt)
    have hb4 := Lib.hid (hbX.out.trans (kb4.mono hbX.out.size))
    have hR4' := Lib.hid hR4
    have hg4 := hR4.lt
    have hgW : Hid (W3.heap.size < g ∧ W1.heap.size < g ∧ w.heap.size ≤ W1.heap.size ∧ w.heap.size ≤ W3.heap.size ∧ W1.heap.size < W3.heap.size) := Lib.hid (by have := hz.out; have := hz4.out; omega)
    have hgX' := Lib.hid hgX
    clear hR4 kb4 hX' xd3 x4 x5 x6 x7 y0 y1 y2 y3 d0 d1 d2 d3 hW1 hW2 hW3 B13 B23 B33 BX' B2X hHX v1 v2 q0I q1I q2I q3I q4I o2 o6 hgX
    go_wp2_with fail
    go_loopw [65] (fun _ wr => ∃ (p : Nat) (bad : Bool) (v : Value) (A : List Opt), Hid (Rdr wr X.heap.size g l p bad) ∧ Hid (Blk wr W3.heap.size 24 (0, 0) [.int .i64 cl, .int .i64 ((ttl : Int) / 16777216), .int .i64 ((ttl : Int) / 65536 % 256), .bool (ttl / 32768 % 2 == 1), v]) ∧ Hid (OwnO wr (g + 1) v A) ∧ Hid (bad = false → prs l 0 = (prs l p).map (A ++ ·)) ∧ Hid (bad = true → prs l 0 = none) ∧ Hid (bad = false → p ≤ l.length ∧ A.length ≤ p) ∧ Hid (Blk wr W1.heap.size 24 (0, 0) [.int .i64 0, .int .i64 0, .int .i64 0, .bool false, .slice none 0 0]) ∧ Hid (Below w.heap.size w wr) ∧ g < wr.heap.size)
      (fun _ wr => leftM wr g l.length)
    case atStart => exact ⟨0, false, .slice none 0 0, [], hR4', BX4, Lib.hid (OwnO.nil _ _), Lib.hid (fun _ => by simp), Lib.hid (fun h => by cases h), Lib.hid (fun _ => ⟨Nat.zero_le _, Nat.zero_le _⟩), B24, hb4, hg4⟩
    case round =>
      obtain ⟨p, bad, v, A, hR, hB, hO, hgd, hbd, hpl, hZ, hb, hgs⟩ := hrel
      clear hR4' BX4 B24 hb4 hg4
      cases bad with
      | true =>
        go_wp2_with fail
        refine (rdr_bad hR.out).mono ?_
        rintro e w5 ⟨rfl, rfl⟩
        go_wp2_with fail
        refine (rdr_bad hR.out).mono ?_
        rintro e w5 ⟨rfl, rfl⟩
        go_upto_region 9 with (fail)
        go_wp2_with (refine store_whole rfl 24 (.tmp 2) (.tmp 88) rfl rfl rfl hZ.out (by rfl) (by kernel_rfl) (by kernel_rfl) ?_; intro w6 hB6 hg6 hz6; have hR6 := Lib.hid hB6; have hb6 := Lib.hid (hb.out.grown hg6 hb.out.size (fun j hj => by cases hj; exact hgW.out.2.2.1)); clear hB6 hg6 hz6)
        refine bodyPost_ret (results_ct rfl _ rfl hR6.out Try.underlying24 rfl (by kernel_rfl)) rfl ?_
        exact ⟨ReadB.bad (.inr (hbd.out (by trivial))) rfl, hb6.out⟩
      | false =>
        go_wp2_with fail
        refine (rdr_bad hR.out).mono ?_
        rintro e w5 ⟨rfl, rfl⟩
        go_wp2_with fail
        refine (rdr_left hR.out hl140'.out).mono ?_
        rintro e w5 ⟨rfl, kb5⟩
        have hR5 := Lib.hid (hR.out.keep (fun b _ h2 => kb5.block b (by omega)) (by have := hgX'.out; omega))
        have hB5 := Lib.hid (hB.out.below kb5 hB.out.lt)
        have hO5 := Lib.hid (hO.out.ext kb5)
        have hZ5 := Lib.hid (hZ.out.below kb5 hZ.out.lt)
        have hb5 := Lib.hid (hb.out.trans (kb5.mono hb.out.size))
        have hgs5 : g < w5.heap.size := Nat.lt_of_lt_of_le hgs kb5.size
        have meas0 : Hid (leftM wr g l.length = l.length + 1 - p) := Lib.hid (leftM_of hR.out)
        obtain ⟨av, cv, e4, _⟩ := hO.out.rdO
        subst e4
        obtain ⟨hpl1, hpl2⟩ := hpl.out (by trivial)
        clear hR hB hO hZ hb kb5 hgs
        by_cases hlt : p < l.length
        · have hltI : (0 : Int) < (l.length : Int) - p := by omega
          obtain ⟨p1, p2, p3, b1, b2, b3, e1, e2, D, hS⟩ := steps_of l p
          have hS' := Lib.hid hS
          have x1 := tkN_16 l p false
          have x2 := tkN_16 l p1 b1
          rw [hS.e3] at x1
          rw [hS.e6] at x2
          have sv : w5.cell? ⟨W3.heap.size, 4, none⟩ = some (.slice av A.length cv) := (hB5.out.cell 4).trans rfl
          obtain ⟨ps, hps1, hps2, hps3⟩ := hO5.out
          clear hS
          have hpsl : Hid (ps.length ≤ 65535) := Lib.hid (by omega)
          have hps1' := Lib.hid hps1
          have hps2' := Lib.hid hps2
          have hps3' := Lib.hid hps3
          have x1I : (e1 : Int) < 65536 := by omega
          clear hps1 hps2 hps3
          have hwr : IntKind.u16.wrap (e1 : Int) = (e1 : Int) := by rw [IntKind.wrap_u16]; omega
          have hgne : Hid (W3.heap.size ≠ g) := Lib.hid (by have := hgW.out; omega)
          have hlt3 := hB5.out.lt
          have hA65 : Hid (A.length ≤ 65535) := Lib.hid (by omega)
          have hg13 : Hid (W3.heap.size < g + 1) := Lib.hid (by have := hgW.out; omega)
          go_wp2_with fail
          go_region_law (first
              | (refine step_opt (g := g) (w0 := w8) (by rfl) (.tmp 74) (.tmp 83) (by rfl) hO8.out (ho8'.out.mono hsz7.out) (Nat.le_trans hgs5 g8'.out.size) hA65.out (by rfl) (by rfl) (by rfl) (by rfl) (by rfl) (by rfl) ?_; intro a9 c9 w9 hO9 kb9; have hO9' := Lib.hid hO9; have kb9' := Lib.hid kb9; have hB9 := Lib.hid (opt_blk hB5.out g8'.out hgne.out kb9 hg13.out); have s9 : w9.cell? ⟨W3.heap.size, 4, none⟩ = some (.slice av A.length cv) := (hB9.out.cell 4).trans rfl; have z9 : w9.frozen? ⟨W3.heap.size, 4, none⟩ = false := by rw [hB9.out.frozen]; simp)
              | (go_simp; go_at_call 42; refine (rdr_u16 (Rdr.same hR5.out (by rfl)) hl140'.out).mono ?_; rw [hS'.out.e1, hS'.out.e2, hS'.out.e3]; rintro en w6 ⟨rfl, hR6, hg6⟩; have hR6' := Lib.hid hR6; have g6 := grown_same (w := w5) hg6 (by rfl); have s6 : w6.cell? ⟨W3.heap.size, 4, none⟩ = some (.slice av A.length cv) := (World.cell?_of_block (g6.block W3.heap.size hlt3 (fun e => hgne.out (Option.some.inj e)))).trans sv; dsimp only)
              | (go_simp; go_at_call 42; refine (rdr_u16 (Rdr.same hR6'.out (by rfl)) hl140'.out).mono ?_; rw [hS'.out.e4, hS'.out.e5, hS'.out.e6]; rintro en w7 ⟨rfl, hR7, hg7⟩; have hR7' := Lib.hid hR7; have g7 := grown_trans g6 (grown_same (w := w6) hg7 (by rfl)); have s7 : w7.cell? ⟨W3.heap.size, 4, none⟩ = some (.slice av A.length cv) := (World.cell?_of_block (g7.block W3.heap.size hlt3 (fun e => hgne.out (Option.some.inj e)))).trans sv; dsimp only)
              | (go_simp; go_at_call 43; refine (rdr_Take (Rdr.same hR7'.out (by rfl)) hl140'.out _).mono ?_; rw [hS'.out.e7, hS'.out.e8, hS'.out.e9]; rintro en w8 ⟨⟨v8, rfl, ho8⟩, hR8, hg8⟩; have hR8' := Lib.hid hR8; have g8 := grown_trans g7 (grown_same (w := w7) hg8 (by rfl)); have s8 : w8.cell? ⟨W3.heap.size, 4, none⟩ = some (.slice av A.length cv) := (World.cell?_of_block (g8.block W3.heap.size hlt3 (fun e => hgne.out (Option.some.inj e)))).trans sv; obtain ⟨a8, c8, e8⟩ := ho8.shape; subst e8; have ho8' := Lib.hid ho8; have hO8 := Lib.hid (hO5.out.keep (w' := w8) (fun b h1 h2 => g8.block b h2 (fun e => by have := Option.some.inj e; omega))); have g8' := Lib.hid g8; have hsz7 : Hid (g + 1 ≤ w7.heap.size) := Lib.hid (Nat.le_trans hgs5 g7.size); have s8a := cell_alloc (o := .cells #[.int .u16 (e1 : Nat), .slice a8 D.length c8] 53) s8 rfl; clear ho8; dsimp only))
          all_goals
            clear hwr
            obtain ⟨n1, n2, n3⟩ := hS'.out.next hlt (hgd.out (by trivial)) hpl2
            obtain ⟨V, hV⟩ : ∃ V, w9.setCell ⟨W3.heap.size, 4, none⟩ (.slice a9 (A.length + 1) c9) = V := ⟨_, rfl⟩
            have hVo : ∀ b, b ≠ W3.heap.size → V.heap[b]? = w9.heap[b]? := fun b hb => by rw [← hV]; exact Below.heap_setCell _ _ _ _ (fun e => hb e)
            have rR : Hid (Rdr V X.heap.size g l p3 b3) := Lib.hid (hR8'.out.keep (fun b h1 h2 => (hVo b (by have := hz4.out; omega)).trans (kb9'.out.block b (by omega))) (by have := hgX'.out; omega))
            have rB : Hid (Blk V W3.heap.size 24 (0, 0) [.int .i64 cl, .int .i64 ((ttl : Int) / 16777216), .int .i64 ((ttl : Int) / 65536 % 256), .bool (ttl / 32768 % 2 == 1), .slice a9 (A.length + 1) c9]) := Lib.hid (by rw [← hV]; exact hB9.out.set 4 _)
            have rO : Hid (OwnO V (g + 1) (.slice a9 (A.length + 1) c9) (A ++ [(e1, D)])) := Lib.hid (hO9'.out.keep (fun b h1 _ => hVo b (by have := hg13.out; omega)))
            have rZ : Hid (Blk V W1.heap.size 24 (0, 0) [.int .i64 0, .int .i64 0, .int .i64 0, .bool false, .slice none 0 0]) := Lib.hid ((hVo _ (by have := hgW.out; omega)).trans (opt_blk hZ5.out g8'.out (by have := hgW.out; omega) kb9'.out (by have := hgW.out; omega)))
            have rb : Hid (Below w.heap.size w V) := Lib.hid (by
              have q1 := hb5.out.grown g8'.out hb5.out.size (fun j hj => by cases hj; have := hgW.out; omega)
              have q2 := q1.trans (kb9'.out.mono (by have := hgW.out; omega))
              rw [← hV]
              exact q2.setCell hgW.out.2.2.2.1 _)
            have rs : g < V.heap.size := by rw [← hV]; have h1 := g8'.out.size; have h2 := kb9'.out.size; simp; omega
            have rm : Hid (leftM V g l.length < leftM wr g l.length) := Lib.hid (by
              rw [meas0.out, leftM_of rR.out]
              cases hb3 : b3 with
              | true => simp; omega
              | false => have := n3 hb3; simp; omega)
            have n1' := Lib.hid n1
            have n2' := Lib.hid n2
            have n3' : Hid (b3 = false → p3 ≤ l.length ∧ (A ++ [(e1, D)]).length ≤ p3) := Lib.hid (fun h => ⟨(n3 h).1, (n3 h).2.1⟩)
            clear n1 n2 n3 hVo
            go_wp2_with fail
            try rw [hV]
            exact ⟨⟨p3, b3, _, _, rR, rB, rO, n1', n2', n3', rZ, rb, rs⟩, rm.out⟩
        · have hltI : ¬ (0 : Int) < (l.length : Int) - p := by omega
          have hend : prs l 0 = some A := by
            have := hgd.out (by trivial)
            rw [prs_end (p := p) (by omega)] at this
            rw [this]; simp
          have hend' := Lib.hid hend
          clear hend
          go_wp2_with fail
          refine (rdr_bad hR5.out).mono ?_
          rintro e w6 ⟨rfl, rfl⟩
          go_upto_region 10 with (fail)
          go_wp2_with (first
            | (refine load_whole rfl 24 (.tmp 5) rfl rfl hB5.out Try.underlying24 rfl (by kernel_rfl) ?_)
            | (refine store_whole rfl 24 (.tmp 2) (.tmp 89) rfl rfl rfl hZ5.out (by rfl) (by kernel_rfl) (by kernel_rfl) ?_; intro w6 hB6 hg6 hz6; have hR6 := Lib.hid hB6; have hb6 := Lib.hid (hb5.out.grown hg6 hb5.out.size (fun j hj => by cases hj; exact hgW.out.2.2.1)); have ho6 := Lib.hid (hO5.out.keep (w' := w6) (fun j h1 h2 => hg6.block j h2 (fun e => by have := Option.some.inj e; have := hgW.out; omega))); clear hB6 hg6 hz6))
          refine bodyPost_ret (results_ct rfl _ rfl hR6.out Try.underlying24 rfl (by kernel_rfl)) rfl ?_
          refine ⟨ReadB.ok hok'.out hend'.out rfl (ho6.out.mono (by have := hgW.out; omega)), hb6.out⟩
  · exact hbad hok
end Go.Proofs.Ythgnlbdolilklaa
