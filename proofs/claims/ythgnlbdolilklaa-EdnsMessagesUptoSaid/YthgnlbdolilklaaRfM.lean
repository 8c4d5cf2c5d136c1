/- The document's Without 31, Of 26, Size 29, With 27; printed by gen_rm.py. -/
import Derived.Test.YthgnlbdolilklaaCqM
import Derived.Test.YthgnlbdolilklaaWiM
import Derived.Test.YthgnlbdolilklaaSzE
import Derived.Test.YthgnlbdolilklaaRfR
namespace Go.Proofs.Ythgnlbdolilklaa
open Go Go.RowKit
def qRfM0 (p : String) : Oper := { dst := some 8, op := Op.load 60 (Operand.tmp 2), type := 60, pos := p, after := #[], guard := none }
def qRfM1 (p : String) : Oper := { dst := some 12, op := Op.fieldAddr 60 (Operand.tmp 2) 13, type := 0, pos := p, after := #[], guard := none }
def qRfM2 (p : String) : Oper := { dst := some 13, op := Op.load 55 (Operand.tmp 12), type := 55, pos := p, after := #[{ on := 4, ground := Ground.data }], guard := none }
def qRfM3 (p : String) : Oper := { dst := some 14, op := Op.call { callee := Callee.builtin Builtin.len, args := #[Operand.tmp 13], argTypes := #[55] }, type := 3, pos := p, after := #[{ on := 5, ground := Ground.data }], guard := none }
def qRfM4 (p : String) : Oper := { dst := some 9, op := Op.call { callee := Callee.value (Operand.func 31), args := #[Operand.tmp 8], argTypes := #[60] }, type := 60, pos := p, after := #[{ on := 0, ground := Ground.data }], guard := none }
def qRfM5 (p : String) : Oper := { dst := some 10, op := Op.field 60 (Operand.tmp 9) 13, type := 55, pos := p, after := #[{ on := 1, ground := Ground.data }], guard := none }
def qRfM6 (p : String) : Oper := { dst := some 11, op := Op.call { callee := Callee.builtin Builtin.len, args := #[Operand.tmp 10], argTypes := #[55] }, type := 3, pos := p, after := #[{ on := 2, ground := Ground.data }], guard := none }
def qRfM7 (p : String) : Oper := { dst := some 15, op := Op.binOp BinOp.neq 3 (Operand.tmp 11) (Operand.tmp 14) 3, type := 4, pos := p, after := #[{ on := 3, ground := Ground.data }, { on := 6, ground := Ground.data }], guard := none }
def qRfM8 (p : String) : Oper := { dst := some 26, op := Op.buildSlice 55 0 #[], type := 55, pos := p, after := #[], guard := none }
def qRfM9 (p : String) : Oper := { dst := some 28, op := Op.load 55 (Operand.tmp 27), type := 55, pos := p, after := #[{ on := 1, ground := Ground.data }], guard := none }
def qRfM10 (p : String) : Oper := { dst := some 29, op := Op.call { callee := Callee.builtin Builtin.append, args := #[Operand.tmp 26, Operand.tmp 28], argTypes := #[55, 55] }, type := 55, pos := p, after := #[{ on := 0, ground := Ground.data }, { on := 2, ground := Ground.data }], guard := none }
def qRfM11 (p : String) : Oper := { dst := some 31, op := Op.buildSlice 55 1 #[(0, Operand.tmp 30)], type := 55, pos := p, after := #[{ on := 4, ground := Ground.data }], guard := none }
def qRfM12 (p : String) : Oper := { dst := some 32, op := Op.call { callee := Callee.builtin Builtin.append, args := #[Operand.tmp 29, Operand.tmp 31], argTypes := #[55, 55] }, type := 55, pos := p, after := #[{ on := 3, ground := Ground.data }, { on := 5, ground := Ground.data }, { on := 3, ground := Ground.chain }], guard := none }
def qRfM13 (p : String) : Oper := { dst := some 33, op := Op.fieldAddr 60 (Operand.tmp 2) 13, type := 0, pos := p, after := #[{ on := 0, ground := Ground.phase }, { on := 1, ground := Ground.phase }, { on := 2, ground := Ground.phase }, { on := 3, ground := Ground.phase }, { on := 4, ground := Ground.phase }, { on := 5, ground := Ground.phase }, { on := 6, ground := Ground.phase }], guard := none }
def qRfM14 (p : String) : Oper := { dst := none, op := Op.store 55 (Operand.tmp 33) (Operand.tmp 32), type := 0, pos := p, after := #[{ on := 7, ground := Ground.data }, { on := 6, ground := Ground.data }, { on := 6, ground := Ground.chain }, { on := 0, ground := Ground.phase }, { on := 1, ground := Ground.phase }, { on := 2, ground := Ground.phase }, { on := 3, ground := Ground.phase }, { on := 4, ground := Ground.phase }, { on := 5, ground := Ground.phase }, { on := 6, ground := Ground.phase }], guard := none }
theorem filter_snoc (Q : List RD) (k : Nat) (x : RD) (hx : Q[k]? = some x) : (Q.take (k + 1)).filter (fun y => !isOpt y) = (Q.take k).filter (fun y => !isOpt y) ++ (if isOpt x then [] else [x]) := by
 rw [List.take_add_one, hx, List.filter_append]
 cases h : isOpt x <;> simp [h]
theorem zq_rd {w' : World} {a : Option Addr} {n c b : Nat} {Q : List RD} {L : List RL} {v : Value} (h : RdRs w' a n c Q L) (ho : Own recE w' b v (zQ Q L)) : ∃ a' c', v = .slice a' (zQ Q L).length c' ∧ RdRs w' a' (zQ Q L).length c' (zQ Q L) (zL Q L) := by
 obtain ⟨a', c', e, r⟩ := ho.rd
 have hle : (zQ Q L).length ≤ n := by
  rw [zQ_eq Q L h.2.1, ← h.1.len]
  exact List.length_filter_le _ _
 refine ⟨a', c', e, r, zL_len Q L, Nat.le_trans (Nat.mul_le_mul_right 144 hle) h.2.2.1, fun j q l hq hl => ?_⟩
 obtain ⟨k, h1, h2⟩ := zf_mem hq hl
 exact h.2.2.2 k q l h1 h2
set_option maxHeartbeats 8000000 in
set_option maxRecDepth 100000 in
theorem ref_without {w : World} {a : Option Addr} {n c : Nat} {Q : List RD} {L : List RL} (h : RdRs w a n c Q L) (m0 m1 m2 m3 m4 m5 m6 m7 m8 m9 m10 m11 m12 : Value) (ho : [m0, m1, m2, m3, m4, m5, m6, m7, m8, m9, m10, m11, m12].all (·.oneCell') = true) :
 Calls Try.prog 31 #[.agg #[m0, m1, m2, m3, m4, m5, m6, m7, m8, m9, m10, m11, m12, .slice a n c]] w fun e w' => (∃ v, e = .returned (.agg #[m0, m1, m2, m3, m4, m5, m6, m7, m8, m9, m10, m11, m12, v]) ∧ Own recE w' w.heap.size v (zQ Q L)) ∧ Below w.heap.size w w' := by
 obtain ⟨W1, hW1⟩ : ∃ W, w.alloc (.cells #[m0, m1, m2, m3, m4, m5, m6, m7, m8, m9, m10, m11, m12, .slice a n c] 60) = W := ⟨_, rfl⟩
 have B1 : Hid (Blk W1 w.heap.size 60 (0, 0) [m0, m1, m2, m3, m4, m5, m6, m7, m8, m9, m10, m11, m12, .slice a n c]) := Lib.hid (by rw [← hW1]; exact Blk.new w 60 (0, 0) #[m0, m1, m2, m3, m4, m5, m6, m7, m8, m9, m10, m11, m12, .slice a n c])
 have k1 : Hid (Below w.heap.size w W1) := Lib.hid (by rw [← hW1]; exact alloc_bel _ _)
 obtain ⟨W2, hW2⟩ : ∃ W, W1.alloc (.cells #[.int .u16 0, .bool false, .int .i64 0, .bool false, .bool false, .bool false, .bool false, .bool false, .bool false, .int .i64 0, .slice none 0 0, .slice none 0 0, .slice none 0 0, .slice none 0 0] 60) = W := ⟨_, rfl⟩
 have B2 : Hid (Blk W2 W1.heap.size 60 (0, 0) [.int .u16 0, .bool false, .int .i64 0, .bool false, .bool false, .bool false, .bool false, .bool false, .bool false, .int .i64 0, .slice none 0 0, .slice none 0 0, .slice none 0 0, .slice none 0 0]) := Lib.hid (by rw [← hW2]; exact Blk.new W1 60 (0, 0) #[.int .u16 0, .bool false, .int .i64 0, .bool false, .bool false, .bool false, .bool false, .bool false, .bool false, .int .i64 0, .slice none 0 0, .slice none 0 0, .slice none 0 0, .slice none 0 0])
 have k2 : Hid (Below W1.heap.size W1 W2) := Lib.hid (by rw [← hW2]; exact alloc_bel _ _)
 have hl1 : Hid (w.heap.size < W1.heap.size) := Lib.hid B1.out.lt
 have kb := Lib.hid (k1.out.trans (k2.out.mono k1.out.size))
 have BM := Lib.hid (B1.out.below k2.out B1.out.lt)
 have BZ := B2
 have hl := h.1.len
 have hzq := Lib.hid (zQ_eq Q L h.2.1)
 have hn : n ≤ 1152921504606846976 := by have := h.2.2.1; unfold reachBytes at this; omega
 have hnb : Hid (n * 128 ≤ 140737488355328) := Lib.hid (by have := h.2.2.1; unfold reachBytes at this; omega)
 have hH := Lib.hid (h.1.ext kb.out)
 have L0 : Hid (Below W2.heap.size W2 W2) := Lib.hid (Below.refl _ _)
 have ho' := Lib.hid ho
 clear h ho B1 B2 k1 k2
 go_enter Try.func31, Try.ntmps31
 go_wp2_with fail
 try rw [hW1]
 try rw [hW2]
 clear hW1 hW2
 go_loopw [3, 4] (fun v i wr => ∃ k : Nat, k ≤ n ∧ i = .int .i64 k ∧ Hid (Own recE wr W2.heap.size v ((Q.take k).filter fun y => !isOpt y)) ∧ Hid (Below W2.heap.size W2 wr)) (fun _ i _ => n - (intOf i).toNat)
 case atStart => exact ⟨0, Nat.zero_le _, rfl, Lib.hid (Own.nil _ _ _), L0⟩
 case round =>
  clear L0
  obtain ⟨k, hk, rfl, hv, hL⟩ := hrel
  have cP : wr.cell? ⟨w.heap.size, 13, none⟩ = some (.slice a n c) := (BM.out.below hL.out BM.out.lt).cell 13 |>.trans rfl
  by_cases hlt : k < n
  ·have hkI : (k : Int) < n := by omega
   have hks : k < Q.length := by omega
   obtain ⟨b, o, rfl, hbs, hc⟩ := (hH.out.ext hL.out).addr (by omega)
   obtain ⟨x, hx⟩ : ∃ x, Q[k] = x := ⟨_, rfl⟩
   have hcx := hc k hks
   rw [hx] at hcx
   have c0 : wr.cell? ⟨b, o + k * 8, none⟩ = some (.slice x.oa x.on x.oc) := hcx 0 (by decide)
   have c1 : wr.cell? ⟨b, o + k * 8 + 1, none⟩ = some (.int .u16 x.ty) := hcx 1 (by decide)
   have c2 : wr.cell? ⟨b, o + k * 8 + 2, none⟩ = some (.int .u16 x.cl) := hcx 2 (by decide)
   have c3 : wr.cell? ⟨b, o + k * 8 + 3, none⟩ = some (.int .u32 x.ttl) := hcx 3 (by decide)
   have c4 : wr.cell? ⟨b, o + k * 8 + 4, none⟩ = some (.slice x.ma x.mn x.mc) := hcx 4 (by decide)
   have c5 : wr.cell? ⟨b, o + k * 8 + 5, none⟩ = some (.slice x.ua x.un x.uc) := hcx 5 (by decide)
   have c6 : wr.cell? ⟨b, o + k * 8 + 6, none⟩ = some (.slice x.xa x.xn x.xc) := hcx 6 (by decide)
   have c7 : wr.cell? ⟨b, o + k * 8 + 7, none⟩ = some (.slice x.ra x.rn x.rc) := hcx 7 (by decide)
   clear hc hcx
   have hsn := Lib.hid (filter_snoc Q k x (by rw [List.getElem?_eq_getElem hks, hx]))
   have hfl : ((Q.take k).filter fun y => !isOpt y).length ≤ k := Nat.le_trans (List.length_filter_le _ _) (by rw [List.length_take]; omega)
   clear hx
   obtain ⟨F, hF⟩ : ∃ F, (Q.take k).filter (fun y => !isOpt y) = F := ⟨_, rfl⟩
   rw [hF] at hv hsn hfl
   clear hF
   by_cases ht : x.ty = 41
   ·have hop : Hid (isOpt x = true) := Lib.hid (by unfold isOpt; rw [ht]; rfl)
    have htI : (x.ty : Int) = 41 := by omega
    go_wp2_with fail
    exact ⟨⟨k + 1, by omega, by go_num, Lib.hid (by rw [hsn.out, hop.out, if_pos rfl, List.append_nil]; exact hv.out), hL⟩, by simp [intOf]; omega⟩
   ·have hop : Hid (isOpt x = false) := Lib.hid (by unfold isOpt; simpa using ht)
    have htI : ¬ (x.ty : Int) = 41 := by omega
    obtain ⟨av, cv, rfl⟩ := hv.out.shape
    obtain ⟨V1, hV1⟩ : ∃ V, wr.alloc (.cells #[.slice x.oa x.on x.oc, .int .u16 x.ty, .int .u16 x.cl, .int .u32 x.ttl, .slice x.ma x.mn x.mc, .slice x.ua x.un x.uc, .slice x.xa x.xn x.xc, .slice x.ra x.rn x.rc] 37) = V := ⟨_, rfl⟩
    have hkV : Hid (Below wr.heap.size wr V1) := Lib.hid (by rw [← hV1]; exact alloc_bel _ _)
    have hBV : Hid (Blk V1 wr.heap.size 37 (0, 0) [.slice x.oa x.on x.oc, .int .u16 x.ty, .int .u16 x.cl, .int .u32 x.ttl, .slice x.ma x.mn x.mc, .slice x.ua x.un x.uc, .slice x.xa x.xn x.xc, .slice x.ra x.rn x.rc]) := Lib.hid (by rw [← hV1]; exact Blk.new wr 37 (0, 0) #[.slice x.oa x.on x.oc, .int .u16 x.ty, .int .u16 x.cl, .int .u32 x.ttl, .slice x.ma x.mn x.mc, .slice x.ua x.un x.uc, .slice x.xa x.xn x.xc, .slice x.ra x.rn x.rc])
    obtain ⟨i0, hi7, hq0, hq1, hq2⟩ := info_parts Try.info37
    have hsrc : Src Try.prog recE.k 55 (.slice (some ⟨wr.heap.size, 0, none⟩) 1 1) 1 (rowOf recE [x]) V1 := (rd_blk (E := recE) (X := [x]) (fz := (0, 0)) hBV.out 1 rfl (by decide)).src (P := Try.prog) (tx := 55) Try.underlying55
    have LA := Lib.hid (hL.out.trans (hkV.out.mono hL.out.size))
    have hnbx := hnb.out
    go_wp2_with (at_builtin; refine app_own (E := recE) (l := F) (news := [x]) (base := W2.heap.size) rfl (.tmp 19) (.tmp 25) 55 55 rfl Try.underlying55 hi7 hq0 hq1 hq2 rfl rfl (hv.out.ext hkV.out) rfl hsrc (by simp [maxLen]; omega) (by simp; omega) LA.out.size ?_)
    intro v9 w9 ho9 hg9 _
    have L9 : Hid (Below W2.heap.size W2 w9) := Lib.hid (own_below LA.out hg9 (hv.out.ext hkV.out) LA.out.size (Nat.le_refl _))
    have O9 : Hid (Own recE w9 W2.heap.size v9 ((Q.take (k + 1)).filter fun y => !isOpt y)) := Lib.hid (by rw [hsn.out, hop.out]; exact ho9)
    clear ho9 hg9 hV1 hkV hBV hsrc LA
    go_wp2_with fail
    exact ⟨⟨k + 1, by omega, by go_num, O9, L9⟩, by simp [intOf]; omega⟩
  ·have hkn : k = n := by omega
   subst hkn
   have hv2 := hv.out
   rw [List.take_of_length_le (by omega), ← hzq.out] at hv2
   replace hv2 := Lib.hid hv2
   clear hv
   obtain ⟨av, cv, rfl⟩ := hv2.out.shape
   have BR := Lib.hid (BM.out.below hL.out BM.out.lt)
   have fr : wr.frozen? ⟨w.heap.size, 13, none⟩ = false := by rw [BR.out.frozen]; try simp
   generalize (zQ Q L).length = lz at *
   clear hl hn hnb hlt hk hzq hH
   go_upto_region 8 with (fail)
   obtain ⟨V, hV⟩ : ∃ V, wr.setCell ⟨w.heap.size, 13, none⟩ (.slice av lz cv) = V := ⟨_, rfl⟩
   try rw [hV]
   have g : wr.grownBy V (some w.heap.size) := by rw [← hV]; exact grown_set _ _ _ _
   have BV : Hid (Blk V w.heap.size 60 (0, 0) [m0, m1, m2, m3, m4, m5, m6, m7, m8, m9, m10, m11, m12, .slice av lz cv]) := Lib.hid (by rw [← hV]; exact BR.out.set 13 _)
   have RZ := Lib.hid ((BZ.out.below hL.out BZ.out.lt).grownV2 g (fun e => by have e2 := Option.some.inj e; have := hl1.out; omega))
   have OV := Lib.hid (own_store (E := recE) hv2.out BR.out (by decide) g)
   have KV : Hid (Below w.heap.size w V) := Lib.hid ((kb.out.trans (hL.out.mono kb.out.size)).grown g (Nat.le_trans kb.out.size hL.out.size) (fun j hj => by cases hj; exact Nat.le_refl _))
   have hw2 : Hid (w.heap.size ≤ W2.heap.size) := Lib.hid kb.out.size
   clear hV g BR fr hv2
   have hoC : Hid (#[m0, m1, m2, m3, m4, m5, m6, m7, m8, m9, m10, m11, m12, .slice av lz cv].all (·.oneCell') = true) := Lib.hid (by
    have h9 := ho'.out
    simp only [List.all_cons, List.all_nil, Bool.and_eq_true, Bool.and_true, List.all_toArray] at h9 ⊢
    obtain ⟨o0, o1, o2, o3, o4, o5, o6, o7, o8, o9, o10, o11, o12⟩ := h9
    exact ⟨o0, o1, o2, o3, o4, o5, o6, o7, o8, o9, o10, o11, o12, rfl⟩)
   have p0 : V.cell? ⟨w.heap.size, 0, none⟩ = some (m0) := (BV.out.cell 0).trans rfl
   have p1 : V.cell? ⟨w.heap.size, 1, none⟩ = some (m1) := (BV.out.cell 1).trans rfl
   have p2 : V.cell? ⟨w.heap.size, 2, none⟩ = some (m2) := (BV.out.cell 2).trans rfl
   have p3 : V.cell? ⟨w.heap.size, 3, none⟩ = some (m3) := (BV.out.cell 3).trans rfl
   have p4 : V.cell? ⟨w.heap.size, 4, none⟩ = some (m4) := (BV.out.cell 4).trans rfl
   have p5 : V.cell? ⟨w.heap.size, 5, none⟩ = some (m5) := (BV.out.cell 5).trans rfl
   have p6 : V.cell? ⟨w.heap.size, 6, none⟩ = some (m6) := (BV.out.cell 6).trans rfl
   have p7 : V.cell? ⟨w.heap.size, 7, none⟩ = some (m7) := (BV.out.cell 7).trans rfl
   have p8 : V.cell? ⟨w.heap.size, 8, none⟩ = some (m8) := (BV.out.cell 8).trans rfl
   have p9 : V.cell? ⟨w.heap.size, 9, none⟩ = some (m9) := (BV.out.cell 9).trans rfl
   have p10 : V.cell? ⟨w.heap.size, 10, none⟩ = some (m10) := (BV.out.cell 10).trans rfl
   have p11 : V.cell? ⟨w.heap.size, 11, none⟩ = some (m11) := (BV.out.cell 11).trans rfl
   have p12 : V.cell? ⟨w.heap.size, 12, none⟩ = some (m12) := (BV.out.cell 12).trans rfl
   have p13 : V.cell? ⟨w.heap.size, 13, none⟩ = some (.slice av lz cv) := (BV.out.cell 13).trans rfl
   go_wp2_with (refine store_whole rfl 60 (.tmp 2) (.tmp 29) rfl rfl rfl RZ.out (by rfl) (by kernel_rfl) hoC.out ?_; intro w9 hBx hgx hzx; have R9 := Lib.hid hBx; have g9 := Lib.hid hgx; clear hBx hgx hzx)
   refine bodyPost_ret (results_c rfl _ rfl R9.out Try.underlying60 rfl (by kernel_rfl)) rfl ?_
   exact ⟨⟨_, rfl, (own_store (E := recE) OV.out RZ.out (by decide) g9.out).mono hw2.out⟩, KV.out.grown g9.out KV.out.size (fun j hj => by cases hj; exact Nat.le_of_lt hl1.out)⟩
/-- where the first k records have their OPT record -/
def AtF (Q : List RD) (k : Nat) (at_ : Int) : Prop := (at_ = -1 ∧ ∀ (j : Nat) (hj : j < Q.length), j < k → isOpt Q[j] = false) ∨ (∃ p : Nat, ∃ hp : p < Q.length, p < k ∧ at_ = p ∧ isOpt Q[p] = true ∧ ∀ (j : Nat) (hj : j < Q.length), j < k → j ≠ p → isOpt Q[j] = false)
theorem AtF.no {Q : List RD} {k : Nat} {at_ : Int} (h : AtF Q k at_) (hk : k < Q.length) (hx : isOpt Q[k] = false) : AtF Q (k + 1) at_ := by
 rcases h with ⟨e, h⟩ | ⟨p, hp, h1, e, h2, h3⟩
 ·exact .inl ⟨e, fun j hj hjk => if hjk2 : j = k then by subst hjk2; exact hx else h j hj (by omega)⟩
 ·exact .inr ⟨p, hp, by omega, e, h2, fun j hj hjk hne => if hjk2 : j = k then by subst hjk2; exact hx else h3 j hj (by omega) hne⟩
theorem AtF.yes {Q : List RD} {k : Nat} (h : AtF Q k (-1)) (hk : k < Q.length) (hx : isOpt Q[k] = true) : AtF Q (k + 1) k := by
 rcases h with ⟨e, h⟩ | ⟨p, hp, h1, e, h2, h3⟩
 ·exact .inr ⟨k, hk, by omega, rfl, hx, fun j hj hjk hne => h j hj (by omega)⟩
 ·omega
theorem idxF_drop_none {Q : List RD} {p : Nat} (h : ∀ (j : Nat) (hj : j < Q.length), p < j → isOpt Q[j] = false) : idxF (Q.drop (p + 1)) 0 = -1 := by
 refine idxF_none fun j hj => ?_
 rw [List.getElem_drop]
 exact h _ _ (by omega)
theorem idxF_drop_some {Q : List RD} {p k : Nat} (hk : k < Q.length) (hpk : p < k) (h : isOpt Q[k] = true) : 0 ≤ idxF (Q.drop (p + 1)) 0 := by
 rcases idxF_cases (Q.drop (p + 1)) with ⟨h1, _⟩ | ⟨m, _, _, _, e⟩
 ·have h2 := h1 Q[k] (by
   have e3 : (Q.drop (p + 1))[k - (p + 1)]? = some Q[k] := by
    rw [List.getElem?_drop, show p + 1 + (k - (p + 1)) = k by omega, List.getElem?_eq_getElem hk]
   exact List.mem_of_getElem? e3)
  rw [h] at h2
  cases h2
 ·omega
theorem ofU_no {Q : List RD} {L : List RL} {s h v : Int} {d : Bool} {A : List Opt} {is : Bool} {E : Int} (hU : OfU Q L s h v d A is E) (hn : ∀ (j : Nat) (hj : j < Q.length), isOpt Q[j] = false) : s = 0 ∧ h = 0 ∧ v = 0 ∧ d = false ∧ A = [] ∧ is = false ∧ E = 0 := by
 have e := idxF_none hn
 rcases hU with ⟨_, h⟩ | ⟨k, h1, _⟩ | ⟨k, _, _, h1, _⟩
 ·exact h
 ·omega
 ·omega
theorem ofU_two {Q : List RD} {L : List RL} {s h v : Int} {d : Bool} {A : List Opt} {is : Bool} {E : Int} (hU : OfU Q L s h v d A is E) {p k : Nat} (hp : p < Q.length) (hk : k < Q.length) (hpk : p < k) (h1 : isOpt Q[p] = true) (h2 : isOpt Q[k] = true) (hn : ∀ (j : Nat) (hj : j < Q.length), j < p → isOpt Q[j] = false) : s = 0 ∧ h = 0 ∧ v = 0 ∧ d = false ∧ A = [] ∧ is = false ∧ E = 10 := by
 have e : idxF Q 0 = p := idxF_at hp hn h1
 have e2 := idxF_drop_some hk hpk h2
 rcases hU with ⟨h3, _⟩ | ⟨m, _, _, _, h⟩ | ⟨m, _, _, h3, _, h4, _⟩
 ·omega
 ·exact h
 ·have : m = p := by omega
  subst this
  omega
theorem ofU_one {Q : List RD} {L : List RL} {s h v : Int} {d : Bool} {A : List Opt} {is : Bool} {E : Int} (hU : OfU Q L s h v d A is E) {p : Nat} (hp : p < Q.length) (h1 : isOpt Q[p] = true) (hn : ∀ (j : Nat) (hj : j < Q.length), j ≠ p → isOpt Q[j] = false) :
 ∃ l, L[p]? = some l ∧ is = (E == 0) ∧ ∀ (base : Nat) (e : Ending) (w' : World), ReadB base Q[p].on Q[p].ty Q[p].cl Q[p].ttl Q[p].mn Q[p].un Q[p].xn l.raw e w' → ∃ u, e = .returned (.tuple #[eV s h v d u, .int .i64 E]) ∧ OwnO w' base u A := by
 have e : idxF Q 0 = p := idxF_at hp (fun j hj hjk => hn j hj (by omega)) h1
 have e2 : idxF (Q.drop (p + 1)) 0 = -1 := idxF_drop_none (fun j hj hpj => hn j hj (by omega))
 rcases hU with ⟨h3, _⟩ | ⟨m, h3, _, h4, _⟩ | ⟨m, q, l, h3, _, _, hq, hl, his, h5⟩
 ·omega
 ·have : m = p := by omega
  subst this
  omega
 ·have : m = p := by omega
  subst this
  rw [List.getElem?_eq_getElem hp] at hq
  cases hq
  exact ⟨l, hl, his, h5⟩
set_option maxHeartbeats 8000000 in
set_option maxRecDepth 100000 in
theorem ref_of {w : World} {a : Option Addr} {n c : Nat} {Q : List RD} {L : List RL} (h : RdRs w a n c Q L) {sC iC vC : Int} {dC : Bool} {AC : List Opt} {isC : Bool} {EC : Int} (hU : OfU Q L sC iC vC dC AC isC EC) (m0 m1 m2 m3 m4 m5 m6 m7 m8 m9 m10 m11 m12 : Value) :
 Calls Try.prog 26 #[.agg #[m0, m1, m2, m3, m4, m5, m6, m7, m8, m9, m10, m11, m12, .slice a n c]] w fun e w' => (∃ u, e = .returned (.tuple #[eV sC iC vC dC u, .bool isC, .int .i64 EC]) ∧ OwnO w' w.heap.size u AC) ∧ Below w.heap.size w w' := by
 obtain ⟨W1, hW1⟩ : ∃ W, w.alloc (.cells #[m0, m1, m2, m3, m4, m5, m6, m7, m8, m9, m10, m11, m12, .slice a n c] 60) = W := ⟨_, rfl⟩
 have B1 : Hid (Blk W1 w.heap.size 60 (0, 0) [m0, m1, m2, m3, m4, m5, m6, m7, m8, m9, m10, m11, m12, .slice a n c]) := Lib.hid (by rw [← hW1]; exact Blk.new w 60 (0, 0) #[m0, m1, m2, m3, m4, m5, m6, m7, m8, m9, m10, m11, m12, .slice a n c])
 have k1 : Hid (Below w.heap.size w W1) := Lib.hid (by rw [← hW1]; exact alloc_bel _ _)
 obtain ⟨W2, hW2⟩ : ∃ W, W1.alloc (.cells #[.int .i64 0, .int .i64 0, .int .i64 0, .bool false, .slice none 0 0] 24) = W := ⟨_, rfl⟩
 have B2 : Hid (Blk W2 W1.heap.size 24 (0, 0) [.int .i64 0, .int .i64 0, .int .i64 0, .bool false, .slice none 0 0]) := Lib.hid (by rw [← hW2]; exact Blk.new W1 24 (0, 0) #[.int .i64 0, .int .i64 0, .int .i64 0, .bool false, .slice none 0 0])
 have k2 : Hid (Below W1.heap.size W1 W2) := Lib.hid (by rw [← hW2]; exact alloc_bel _ _)
 have hl1 : Hid (w.heap.size < W1.heap.size) := Lib.hid B1.out.lt
 have kb := Lib.hid (k1.out.trans (k2.out.mono k1.out.size))
 have BM := Lib.hid (B1.out.below k2.out B1.out.lt)
 have BZ := B2
 have hl := h.1.len
 have hn : n ≤ 1152921504606846976 := by have := h.2.2.1; unfold reachBytes at this; omega
 have hH := Lib.hid (h.ext kb.out)
 have hU' := Lib.hid hU
 have L0 : Hid (Below W2.heap.size W2 W2) := Lib.hid (Below.refl _ _)
 clear h hU B1 B2 k1 k2
 go_enter Try.func26, Try.ntmps26
 go_wp2_with fail
 try rw [hW1]
 try rw [hW2]
 clear hW1 hW2
 go_loopw [5, 6] (fun at_ i wr => ∃ (k : Nat) (z : Int), k ≤ n ∧ at_ = .int .i64 z ∧ i = .int .i64 k ∧ Hid (AtF Q k z) ∧ Hid (Below W2.heap.size W2 wr)) (fun _ i _ => n - (intOf i).toNat)
 case atStart => exact ⟨0, -1, Nat.zero_le _, rfl, rfl, Lib.hid (.inl ⟨rfl, fun j hj h => absurd h (Nat.not_lt_zero _)⟩), L0⟩
 case round =>
  clear L0
  obtain ⟨k, z, hk, rfl, rfl, hat, hL⟩ := hrel
  have cP : wr.cell? ⟨w.heap.size, 13, none⟩ = some (.slice a n c) := (BM.out.below hL.out BM.out.lt).cell 13 |>.trans rfl
  have RZ := Lib.hid (BZ.out.below hL.out BZ.out.lt)
  have KW := Lib.hid (kb.out.trans (hL.out.mono kb.out.size))
  by_cases hlt : k < n
  ·have hkI : (k : Int) < n := by omega
   have hks : k < Q.length := by omega
   obtain ⟨b, o, rfl, hbs, hc⟩ := (hH.out.1.ext hL.out).addr (by omega)
   obtain ⟨x, hx⟩ : ∃ x, Q[k] = x := ⟨_, rfl⟩
   have hcx := hc k hks
   rw [hx] at hcx
   have c1 : wr.cell? ⟨b, o + k * 8 + 1, none⟩ = some (.int .u16 x.ty) := hcx 1 (by decide)
   clear hc hcx
   by_cases ht : x.ty = 41
   ·have hop : isOpt Q[k] = true := by rw [hx]; unfold isOpt; rw [ht]; rfl
    have htI : (x.ty : Int) = 41 := by omega
    clear hx
    by_cases hz : 0 ≤ z
    ·have e9 : sC = 0 ∧ iC = 0 ∧ vC = 0 ∧ dC = false ∧ AC = [] ∧ isC = false ∧ EC = 10 := by
      rcases hat.out with ⟨e, _⟩ | ⟨p, hp, h1, e, h2, h3⟩
      ·omega
      ·exact ofU_two hU'.out hp hks h1 h2 hop (fun j hj hjp => h3 j hj (by omega) (by omega))
     obtain ⟨rfl, rfl, rfl, rfl, rfl, rfl, rfl⟩ := e9
     clear hat hU' hop
     go_wp2_with (refine store_whole rfl 24 (.tmp 2) (.tmp 25) rfl rfl rfl RZ.out (by rfl) (by kernel_rfl) (by kernel_rfl) ?_; intro w6 hB6 hg6 hz6; have hR6 := Lib.hid hB6; have hg6' := Lib.hid hg6; clear hB6 hg6 hz6)
     refine bodyPost_ret (results_ctt rfl _ rfl hR6.out Try.underlying24 rfl (by kernel_rfl)) rfl ?_
     exact ⟨⟨nilV, rfl, OwnO.nil _ _⟩, KW.out.grown hg6'.out KW.out.size (fun j hj => by have e2 := Option.some.inj hj; have := hl1.out; omega)⟩
    ·have hz1 : Hid (AtF Q (k + 1) k) := Lib.hid (by
      have h9 := hat.out
      have hz2 : z = -1 := by
       rcases h9 with ⟨e, _⟩ | ⟨p, hp, h1, e, h2, h3⟩
       ·exact e
       ·omega
      rw [hz2] at h9
      exact h9.yes hks hop)
     clear hop hat
     go_wp2_with fail
     exact ⟨⟨k + 1, k, by omega, rfl, by go_num, hz1, hL⟩, by simp [intOf]; omega⟩
   ·have hz1 : Hid (AtF Q (k + 1) z) := Lib.hid (hat.out.no hks (by rw [hx]; unfold isOpt; simpa using ht))
    have htI : ¬ (x.ty : Int) = 41 := by omega
    clear hx hat
    go_wp2_with fail
    exact ⟨⟨k + 1, z, by omega, rfl, by go_num, hz1, hL⟩, by simp [intOf]; omega⟩
  ·have hkI : ¬ (k : Int) < n := by omega
   by_cases hz : 0 ≤ z
   ·obtain ⟨p, hpn, rfl, l, hls, his, uC⟩ : ∃ p, p < n ∧ z = (p : Nat) ∧ ∃ l, L[p]? = some l ∧ isC = (EC == 0) ∧ ∃ hp : p < Q.length, ∀ (base : Nat) (e : Ending) (w' : World), ReadB base Q[p].on Q[p].ty Q[p].cl Q[p].ttl Q[p].mn Q[p].un Q[p].xn l.raw e w' → ∃ u, e = .returned (.tuple #[eV sC iC vC dC u, .int .i64 EC]) ∧ OwnO w' base u AC := by
     rcases hat.out with ⟨e, _⟩ | ⟨p, hp, h1, e, h2, h3⟩
     ·omega
     ·obtain ⟨l, h4, h5, h6⟩ := ofU_one hU'.out hp h2 (fun j hj hne => h3 j hj (by omega) hne)
      exact ⟨p, by omega, e, l, h4, h5, hp, h6⟩
    obtain ⟨hp, uC⟩ := uC
    subst his
    obtain ⟨b, o, rfl, hbs, hc⟩ := rd_recs (hH.out.1.ext hL.out) (by omega)
    have hck := hc p hp
    clear hc
    have hrec := Lib.hid ((hH.out.2.2.2 p _ l (List.getElem?_eq_getElem hp) hls).ext hL.out)
    obtain ⟨x, hx⟩ : ∃ x, Q[p] = x := ⟨_, rfl⟩
    rw [hx] at hck hrec uC
    clear hx hat hU' hls
    obtain ⟨oa, on, oc, ty, cl, ttl, ma, mn, mc, ua, un, uc, xa, xn, xc, ra, rn, rc⟩ := x
    have c0 : wr.cell? ⟨b, o + p * 8, none⟩ = some (.slice oa on oc) := hck 0 _ rfl
    have c1 : wr.cell? ⟨b, o + p * 8 + 1, none⟩ = some (.int .u16 ty) := hck 1 _ rfl
    have c2 : wr.cell? ⟨b, o + p * 8 + 2, none⟩ = some (.int .u16 cl) := hck 2 _ rfl
    have c3 : wr.cell? ⟨b, o + p * 8 + 3, none⟩ = some (.int .u32 ttl) := hck 3 _ rfl
    have c4 : wr.cell? ⟨b, o + p * 8 + 4, none⟩ = some (.slice ma mn mc) := hck 4 _ rfl
    have c5 : wr.cell? ⟨b, o + p * 8 + 5, none⟩ = some (.slice ua un uc) := hck 5 _ rfl
    have c6 : wr.cell? ⟨b, o + p * 8 + 6, none⟩ = some (.slice xa xn xc) := hck 6 _ rfl
    have c7 : wr.cell? ⟨b, o + p * 8 + 7, none⟩ = some (.slice ra rn rc) := hck 7 _ rfl
    have hpI : (p : Int) < n := by omega
    have hread : Hid (Calls Try.prog 14 #[.agg #[.slice oa on oc, .int .u16 ty, .int .u16 cl, .int .u32 ttl, .slice ma mn mc, .slice ua un uc, .slice xa xn xc, .slice ra rn rc]] wr fun e w' => (∃ u, e = .returned (.tuple #[eV sC iC vC dC u, .int .i64 EC]) ∧ OwnO w' wr.heap.size u AC) ∧ Below wr.heap.size wr w') := Lib.hid ((ref_read oa on oc ty cl ttl ma mn mc ua un uc xa xn xc hrec.out.raw hrec.out.ttl hrec.out.ty hrec.out.cl).mono (fun e w' hh => ⟨uC _ e w' hh.1, hh.2⟩))
    clear hck hrec uC hlt
    go_wp2_with fail
    refine hread.out.mono ?_
    rintro e w3 ⟨⟨u, rfl, hu⟩, hb⟩
    obtain ⟨au, cu, rfl⟩ := hu.shape
    have hk3 := Lib.hid hb
    have hu' := Lib.hid hu
    clear hb hu hread c0 c1 c2 c3 c4 c5 c6 c7
    generalize AC.length = nC at *
    unfold eV
    have hb5 := Lib.hid (KW.out.trans (hk3.out.mono KW.out.size))
    have hZ3 := Lib.hid (RZ.out.below hk3.out RZ.out.lt)
    obtain ⟨W4, hW4⟩ : ∃ W, w3.alloc (.cells #[.int .i64 0, .int .i64 0, .int .i64 0, .bool false, .slice none 0 0] 24) = W := ⟨_, rfl⟩
    have hN4 : Hid (Blk W4 w3.heap.size 24 (0, 0) [.int .i64 0, .int .i64 0, .int .i64 0, .bool false, .slice none 0 0]) := Lib.hid (by rw [← hW4]; exact Blk.new w3 24 (0, 0) #[.int .i64 0, .int .i64 0, .int .i64 0, .bool false, .slice none 0 0])
    have hk4 : Hid (Below w3.heap.size w3 W4) := Lib.hid (by rw [← hW4]; exact alloc_bel _ _)
    go_upto_region 12 with (refine store_whole rfl 24 (.tmp 7) (.tmp 37) rfl rfl rfl hN4.out (by rfl) (by kernel_rfl) (by kernel_rfl) ?_; intro w5 hB6 hg6 hz6; have hR5 := Lib.hid hB6; have hk5 := Lib.hid (fresh_store hk4.out hg6); clear hB6 hg6 hz6)
    have hb6 := Lib.hid (hb5.out.trans (hk5.out.mono hb5.out.size))
    have hZ5 := Lib.hid (hZ3.out.below hk5.out hZ3.out.lt)
    have hu5 := Lib.hid (hu'.out.ext hk5.out)
    have y0 : w5.cell? ⟨w3.heap.size, 0, none⟩ = some (.int .i64 sC) := (hR5.out.cell 0).trans rfl
    have y1 : w5.cell? ⟨w3.heap.size, 1, none⟩ = some (.int .i64 iC) := (hR5.out.cell 1).trans rfl
    have y2 : w5.cell? ⟨w3.heap.size, 2, none⟩ = some (.int .i64 vC) := (hR5.out.cell 2).trans rfl
    have y3 : w5.cell? ⟨w3.heap.size, 3, none⟩ = some (.bool dC) := (hR5.out.cell 3).trans rfl
    have y4 : w5.cell? ⟨w3.heap.size, 4, none⟩ = some (.slice au nC cu) := (hR5.out.cell 4).trans rfl
    clear hW4 hN4 hk4
    go_wp2_with (refine store_whole rfl 24 (.tmp 2) (.tmp 39) rfl rfl rfl hZ5.out (by rfl) (by kernel_rfl) (by kernel_rfl) ?_; intro w6 hB6 hg6 hz6; have hR6 := Lib.hid hB6; have hg6' := Lib.hid hg6; clear hB6 hg6 hz6)
    refine bodyPost_ret (results_ctt rfl _ rfl hR6.out Try.underlying24 rfl (by kernel_rfl)) rfl ?_
    have hle : w.heap.size ≤ wr.heap.size := KW.out.size
    exact ⟨⟨.slice au nC cu, rfl, (ownO_store hu5.out hZ5.out (by decide) (by decide) hg6'.out).mono hle⟩, hb6.out.grown hg6'.out hb6.out.size (fun j hj => by have e2 := Option.some.inj hj; have := hl1.out; omega)⟩
   ·have e9 : sC = 0 ∧ iC = 0 ∧ vC = 0 ∧ dC = false ∧ AC = [] ∧ isC = false ∧ EC = 0 := by
     rcases hat.out with ⟨e, h9⟩ | ⟨p, hp, h1, e, h2, h3⟩
     ·exact ofU_no hU'.out (fun j hj => h9 j hj (by omega))
     ·omega
    obtain ⟨rfl, rfl, rfl, rfl, rfl, rfl, rfl⟩ := e9
    clear hat hU'
    go_wp2_with (refine store_whole rfl 24 (.tmp 2) (.tmp 29) rfl rfl rfl RZ.out (by rfl) (by kernel_rfl) (by kernel_rfl) ?_; intro w6 hB6 hg6 hz6; have hR6 := Lib.hid hB6; have hg6' := Lib.hid hg6; clear hB6 hg6 hz6)
    refine bodyPost_ret (results_ctt rfl _ rfl hR6.out Try.underlying24 rfl (by kernel_rfl)) rfl ?_
    exact ⟨⟨nilV, rfl, OwnO.nil _ _⟩, KW.out.grown hg6'.out KW.out.size (fun j hj => by have e2 := Option.some.inj hj; have := hl1.out; omega)⟩
theorem ofU_is {Q : List RD} {L : List RL} {s h v : Int} {d : Bool} {A : List Opt} {is : Bool} {E : Int} (hU : OfU Q L s h v d A is E) (hi : is = true) : E = 0 := by
 rcases hU with ⟨_, _, _, _, _, _, h7, _⟩ | ⟨_, _, _, _, _, _, _, _, _, h9, _⟩ | ⟨_, _, _, _, _, _, _, _, h3, _⟩
 ·rw [h7] at hi; cases hi
 ·rw [h9] at hi; cases hi
 ·rw [h3] at hi; simpa using hi
def sizE (own : Int) : Int := if own < 512 ∨ 65535 < own then 2 else 0
def sizN (own s : Int) (is : Bool) (E : Int) : Int := if own < 512 ∨ 65535 < own then 0 else szV own s is E
theorem size_both {w : World} {a : Option Addr} {n c : Nat} {QS : List RD} {LS : List RL} (h : RdRs w a n c QS LS) {sC iC vC : Int} {dC : Bool} {AC : List Opt} {isC : Bool} {EC : Int} (hU : OfU QS LS sC iC vC dC AC isC EC) (own : Int) (m0 m1 m2 m3 m4 m5 m6 m7 m8 m9 m10 m11 m12 : Value) :
 Calls Try.prog 23 #[.agg #[m0, m1, m2, m3, m4, m5, m6, m7, m8, m9, m10, m11, m12, .slice a n c], .int .i64 own] w fun e w' => e = .returned (.tuple #[.int .i64 (sizN own sC isC EC), .int .i64 (sizE own)]) ∧ Below w.heap.size w w' := by
 unfold sizN sizE
 by_cases hb : own < 512 ∨ 65535 < own
 ·rw [if_pos hb, if_pos hb]
  exact size_bad w own hb a n c m0 m1 m2 m3 m4 m5 m6 m7 m8 m9 m10 m11 m12
 ·rw [if_neg hb, if_neg hb]
  exact size_any h hU own (by omega) (by omega) m0 m1 m2 m3 m4 m5 m6 m7 m8 m9 m10 m11 m12
set_option maxHeartbeats 8000000 in
set_option maxRecDepth 100000 in
theorem ref_size {w : World} {a : Option Addr} {n c : Nat} {Q : List RD} {L : List RL} (h : RdRs w a n c Q L) {sC iC vC : Int} {dC : Bool} {AC : List Opt} {isC : Bool} {EC : Int} (hU : OfU Q L sC iC vC dC AC isC EC) (own : Int) (m0 m1 m2 m3 m4 m5 m6 m7 m8 m9 m10 m11 m12 : Value) :
 Calls Try.prog 29 #[.agg #[m0, m1, m2, m3, m4, m5, m6, m7, m8, m9, m10, m11, m12, .slice a n c], .int .i64 own] w fun e w' => e = .returned (.tuple #[.int .i64 (sizN own sC isC EC), .int .i64 (sizE own)]) ∧ Below w.heap.size w w' := by
 obtain ⟨W1, hW1⟩ : ∃ W, w.alloc (.cells #[m0, m1, m2, m3, m4, m5, m6, m7, m8, m9, m10, m11, m12, .slice a n c] 60) = W := ⟨_, rfl⟩
 have B1 : Hid (Blk W1 w.heap.size 60 (0, 0) [m0, m1, m2, m3, m4, m5, m6, m7, m8, m9, m10, m11, m12, .slice a n c]) := Lib.hid (by rw [← hW1]; exact Blk.new w 60 (0, 0) #[m0, m1, m2, m3, m4, m5, m6, m7, m8, m9, m10, m11, m12, .slice a n c])
 have k1 : Hid (Below w.heap.size w W1) := Lib.hid (by rw [← hW1]; exact alloc_bel _ _)
 have p0 : W1.cell? ⟨w.heap.size, 0, none⟩ = some (m0) := (B1.out.cell 0).trans rfl
 have p1 : W1.cell? ⟨w.heap.size, 1, none⟩ = some (m1) := (B1.out.cell 1).trans rfl
 have p2 : W1.cell? ⟨w.heap.size, 2, none⟩ = some (m2) := (B1.out.cell 2).trans rfl
 have p3 : W1.cell? ⟨w.heap.size, 3, none⟩ = some (m3) := (B1.out.cell 3).trans rfl
 have p4 : W1.cell? ⟨w.heap.size, 4, none⟩ = some (m4) := (B1.out.cell 4).trans rfl
 have p5 : W1.cell? ⟨w.heap.size, 5, none⟩ = some (m5) := (B1.out.cell 5).trans rfl
 have p6 : W1.cell? ⟨w.heap.size, 6, none⟩ = some (m6) := (B1.out.cell 6).trans rfl
 have p7 : W1.cell? ⟨w.heap.size, 7, none⟩ = some (m7) := (B1.out.cell 7).trans rfl
 have p8 : W1.cell? ⟨w.heap.size, 8, none⟩ = some (m8) := (B1.out.cell 8).trans rfl
 have p9 : W1.cell? ⟨w.heap.size, 9, none⟩ = some (m9) := (B1.out.cell 9).trans rfl
 have p10 : W1.cell? ⟨w.heap.size, 10, none⟩ = some (m10) := (B1.out.cell 10).trans rfl
 have p11 : W1.cell? ⟨w.heap.size, 11, none⟩ = some (m11) := (B1.out.cell 11).trans rfl
 have p12 : W1.cell? ⟨w.heap.size, 12, none⟩ = some (m12) := (B1.out.cell 12).trans rfl
 have p13 : W1.cell? ⟨w.heap.size, 13, none⟩ = some (.slice a n c) := (B1.out.cell 13).trans rfl
 by_cases hb : own < 512 ∨ 65535 < own
 ·unfold sizN sizE
  rw [if_pos hb, if_pos hb]
  clear p0 p1 p2 p3 p4 p5 p6 p7 p8 p9 p10 p11 p12 p13 h hU
  by_cases h1 : own < 512
  ·go_enter Try.func29, Try.ntmps29
   go_wp2_with fail
   try rw [hW1]
   refine bodyPost_ret (results_tmp2 rfl _ _ _) rfl ?_
   exact ⟨rfl, k1.out⟩
  ·have h2 : 65535 < own := by omega
   clear hb
   go_enter Try.func29, Try.ntmps29
   go_wp2_with fail
   try rw [hW1]
   refine bodyPost_ret (results_tmp2 rfl _ _ _) rfl ?_
   exact ⟨rfl, k1.out⟩
 have hsE : Hid (sizE own = 0) := Lib.hid (by unfold sizE; rw [if_neg hb])
 have hsN : Hid (sizN own sC isC EC = szV own sC isC EC) := Lib.hid (by unfold sizN; rw [if_neg hb])
 have hof := Lib.hid (ref_of (h.ext k1.out) hU m0 m1 m2 m3 m4 m5 m6 m7 m8 m9 m10 m11 m12)
 have hIs := Lib.hid (ofU_is hU)
 clear h hU
 have h1' : ¬ own < 512 := by omega
 have h2' : ¬ 65535 < own := by omega
 clear hb
 rw [hsE.out, hsN.out]
 go_enter Try.func29, Try.ntmps29
 go_wp2_with fail
 try rw [hW1]
 clear hW1
 refine hof.out.mono ?_
 rintro e w1 ⟨⟨u, rfl, hu⟩, hb⟩
 obtain ⟨au, cu, rfl⟩ := hu.shape
 have hb2 := Lib.hid (k1.out.trans (hb.mono k1.out.size))
 generalize AC.length = nC at *
 clear hb hu hof p0 p1 p2 p3 p4 p5 p6 p7 p8 p9 p10 p11 p12 p13
 unfold eV
 obtain ⟨W4, hW4⟩ : ∃ W, w1.alloc (.cells #[.int .i64 0, .int .i64 0, .int .i64 0, .bool false, .slice none 0 0] 24) = W := ⟨_, rfl⟩
 have hN4 : Hid (Blk W4 w1.heap.size 24 (0, 0) [.int .i64 0, .int .i64 0, .int .i64 0, .bool false, .slice none 0 0]) := Lib.hid (by rw [← hW4]; exact Blk.new w1 24 (0, 0) #[.int .i64 0, .int .i64 0, .int .i64 0, .bool false, .slice none 0 0])
 have hk4 : Hid (Below w1.heap.size w1 W4) := Lib.hid (by rw [← hW4]; exact alloc_bel _ _)
 go_upto_region 4 with (refine store_whole rfl 24 (.tmp 6) (.tmp 18) rfl rfl rfl hN4.out (by rfl) (by kernel_rfl) (by kernel_rfl) ?_; intro w5 hB6 hg6 hz6; have hR5 := Lib.hid hB6; have hk5 := Lib.hid (fresh_store hk4.out hg6); clear hB6 hg6 hz6)
 have hb6 := Lib.hid (hb2.out.trans (hk5.out.mono hb2.out.size))
 have y0 : w5.cell? ⟨w1.heap.size, 0, none⟩ = some (.int .i64 sC) := (hR5.out.cell 0).trans rfl
 clear hW4 hN4 hk4
 cases isC with
 | false =>
  go_wp2_with fail
  refine bodyPost_ret (results_tmp2 rfl _ _ _) rfl ?_
  exact ⟨by unfold szV; rw [if_pos (.inr rfl)]; rfl, hb6.out⟩
 | true =>
  have hE := hIs.out rfl
  have hsz : Hid (szV own sC true EC = min own (max 512 sC)) := Lib.hid (by unfold szV; rw [if_neg (by rw [hE]; simp)])
  clear hE
  by_cases hs : 512 < sC
  ·by_cases ho : sC < own
   ·have e1 : Hid (min own (max 512 sC) = sC) := Lib.hid (by omega)
    go_wp2_with fail
    refine bodyPost_ret (results_tmp2 rfl _ _ _) rfl ?_
    exact ⟨by rw [hsz.out, e1.out]; rfl, hb6.out⟩
   ·have e1 : Hid (min own (max 512 sC) = own) := Lib.hid (by omega)
    go_wp2_with fail
    refine bodyPost_ret (results_tmp2 rfl _ _ _) rfl ?_
    exact ⟨by rw [hsz.out, e1.out]; rfl, hb6.out⟩
  ·by_cases ho : 512 < own
   ·have e1 : Hid (min own (max 512 sC) = 512) := Lib.hid (by omega)
    go_wp2_with fail
    refine bodyPost_ret (results_tmp2 rfl _ _ _) rfl ?_
    exact ⟨by rw [hsz.out, e1.out]; rfl, hb6.out⟩
   ·have ho2 : own = 512 := by omega
    subst ho2
    have e1 : Hid (min (512 : Int) (max 512 sC) = 512) := Lib.hid (by omega)
    go_wp2_with fail
    refine bodyPost_ret (results_tmp2 rfl _ _ _) rfl ?_
    exact ⟨by rw [hsz.out, e1.out]; rfl, hb6.out⟩
theorem m_field13 (m0 m1 m2 m3 m4 m5 m6 m7 m8 m9 m10 m11 m12 : Value) (av : Option Addr) (lz cv : Nat) (u : World) : (Instr.field 60 (.agg #[m0, m1, m2, m3, m4, m5, m6, m7, m8, m9, m10, m11, m12, .slice av lz cv]) 13).run Try.prog u = .ok (.slice av lz cv) u := by kernel_rfl
theorem enter31 (args : Array Value) (w : World) : (callFunc 31 args).run Try.prog w = .ok (.enter 31 args) w := Go.MuLone.run_callFunc_enter Try.func31 (by kernel_rfl) (by rfl) args w
set_option maxHeartbeats 8000000 in
set_option maxRecDepth 100000 in
theorem ref_with_there {w : World} {a : Option Addr} {n c : Nat} {Q : List RD} {L : List RL} (h : RdRs w a n c Q L) (m0 m1 m2 m3 m4 m5 m6 m7 m8 m9 m10 m11 m12 : Value) (ho : [m0, m1, m2, m3, m4, m5, m6, m7, m8, m9, m10, m11, m12].all (·.oneCell') = true) (hi : 0 ≤ idxF Q 0) (sz hi_ ver : Int) (d : Bool) (ea : Option Addr) (en ec : Nat) :
 Calls Try.prog 27 #[.agg #[m0, m1, m2, m3, m4, m5, m6, m7, m8, m9, m10, m11, m12, .slice a n c], .agg #[.int .i64 sz, .int .i64 hi_, .int .i64 ver, .bool d, .slice ea en ec]] w fun e w' => e = .returned (.tuple #[.agg #[.int .u16 0, .bool false, .int .i64 0, .bool false, .bool false, .bool false, .bool false, .bool false, .bool false, .int .i64 0, .slice none 0 0, .slice none 0 0, .slice none 0 0, .slice none 0 0], .int .i64 10]) ∧ Below w.heap.size w w' := by
 obtain ⟨W1, hW1⟩ : ∃ W, w.alloc (.cells #[m0, m1, m2, m3, m4, m5, m6, m7, m8, m9, m10, m11, m12, .slice a n c] 60) = W := ⟨_, rfl⟩
 have B1 : Hid (Blk W1 w.heap.size 60 (0, 0) [m0, m1, m2, m3, m4, m5, m6, m7, m8, m9, m10, m11, m12, .slice a n c]) := Lib.hid (by rw [← hW1]; exact Blk.new w 60 (0, 0) #[m0, m1, m2, m3, m4, m5, m6, m7, m8, m9, m10, m11, m12, .slice a n c])
 have k1 : Hid (Below w.heap.size w W1) := Lib.hid (by rw [← hW1]; exact alloc_bel _ _)
 obtain ⟨W2, hW2⟩ : ∃ W, W1.alloc (.cells #[.int .i64 sz, .int .i64 hi_, .int .i64 ver, .bool d, .slice ea en ec] 24) = W := ⟨_, rfl⟩
 have B2 : Hid (Blk W2 W1.heap.size 24 (0, 0) [.int .i64 sz, .int .i64 hi_, .int .i64 ver, .bool d, .slice ea en ec]) := Lib.hid (by rw [← hW2]; exact Blk.new W1 24 (0, 0) #[.int .i64 sz, .int .i64 hi_, .int .i64 ver, .bool d, .slice ea en ec])
 have k2 : Hid (Below W1.heap.size W1 W2) := Lib.hid (by rw [← hW2]; exact alloc_bel _ _)
 obtain ⟨W3, hW3⟩ : ∃ W, W2.alloc (.cells #[.int .u16 0, .bool false, .int .i64 0, .bool false, .bool false, .bool false, .bool false, .bool false, .bool false, .int .i64 0, .slice none 0 0, .slice none 0 0, .slice none 0 0, .slice none 0 0] 60) = W := ⟨_, rfl⟩
 have B3 : Hid (Blk W3 W2.heap.size 60 (0, 0) [.int .u16 0, .bool false, .int .i64 0, .bool false, .bool false, .bool false, .bool false, .bool false, .bool false, .int .i64 0, .slice none 0 0, .slice none 0 0, .slice none 0 0, .slice none 0 0]) := Lib.hid (by rw [← hW3]; exact Blk.new W2 60 (0, 0) #[.int .u16 0, .bool false, .int .i64 0, .bool false, .bool false, .bool false, .bool false, .bool false, .bool false, .int .i64 0, .slice none 0 0, .slice none 0 0, .slice none 0 0, .slice none 0 0])
 have k3 : Hid (Below W2.heap.size W2 W3) := Lib.hid (by rw [← hW3]; exact alloc_bel _ _)
 have hl1 : Hid (w.heap.size < W1.heap.size) := Lib.hid B1.out.lt
 have hl2 : Hid (W1.heap.size < W2.heap.size) := Lib.hid B2.out.lt
 have hl3 : Hid (W2.heap.size < W3.heap.size) := Lib.hid B3.out.lt
 have k12 := Lib.hid (k1.out.trans (k2.out.mono k1.out.size))
 have kb := Lib.hid (k12.out.trans (k3.out.mono k12.out.size))
 have PM := Lib.hid ((B1.out.below k2.out B1.out.lt).below k3.out (Nat.lt_trans hl1.out hl2.out))
 have PE := Lib.hid (B2.out.below k3.out B2.out.lt)
 have PZ := B3
 have hl := h.1.len
 have hzq := Lib.hid (zQ_eq Q L h.2.1)
 have hn : n ≤ 1152921504606846976 := by have := h.2.2.1; unfold reachBytes at this; omega
 have hH := Lib.hid (h.ext kb.out)
 have hwo := Lib.hid (ref_without hH.out m0 m1 m2 m3 m4 m5 m6 m7 m8 m9 m10 m11 m12 ho)
 have ho' := Lib.hid ho
 have hlz : Hid (¬ ((zQ Q L).length : Int) = n) := Lib.hid (by
  rw [zQ_eq Q L h.2.1, ← h.1.len]
  intro e
  have e2 : (Q.filter fun x => !isOpt x).length = Q.length := by omega
  rw [List.length_filter_eq_length_iff] at e2
  rcases idxF_cases Q with ⟨_, h2⟩ | ⟨k, hk, h1, _⟩
  ·omega
  ·have h3 := e2 _ (List.getElem_mem hk); rw [h1] at h3; cases h3)
 have cs : Hid (∀ U : World, Blk U w.heap.size 60 (0, 0) [m0, m1, m2, m3, m4, m5, m6, m7, m8, m9, m10, m11, m12, .slice a n c] → U.cell? ⟨w.heap.size, 0, none⟩ = some (m0) ∧ U.cell? ⟨w.heap.size, 1, none⟩ = some (m1) ∧ U.cell? ⟨w.heap.size, 2, none⟩ = some (m2) ∧ U.cell? ⟨w.heap.size, 3, none⟩ = some (m3) ∧ U.cell? ⟨w.heap.size, 4, none⟩ = some (m4) ∧ U.cell? ⟨w.heap.size, 5, none⟩ = some (m5) ∧ U.cell? ⟨w.heap.size, 6, none⟩ = some (m6) ∧ U.cell? ⟨w.heap.size, 7, none⟩ = some (m7) ∧ U.cell? ⟨w.heap.size, 8, none⟩ = some (m8) ∧ U.cell? ⟨w.heap.size, 9, none⟩ = some (m9) ∧ U.cell? ⟨w.heap.size, 10, none⟩ = some (m10) ∧ U.cell? ⟨w.heap.size, 11, none⟩ = some (m11) ∧ U.cell? ⟨w.heap.size, 12, none⟩ = some (m12) ∧ U.cell? ⟨w.heap.size, 13, none⟩ = some (.slice a n c)) := Lib.hid (fun U hB => ⟨(hB.cell 0).trans rfl, (hB.cell 1).trans rfl, (hB.cell 2).trans rfl, (hB.cell 3).trans rfl, (hB.cell 4).trans rfl, (hB.cell 5).trans rfl, (hB.cell 6).trans rfl, (hB.cell 7).trans rfl, (hB.cell 8).trans rfl, (hB.cell 9).trans rfl, (hB.cell 10).trans rfl, (hB.cell 11).trans rfl, (hB.cell 12).trans rfl, (hB.cell 13).trans rfl⟩)
 clear h ho B1 B2 B3 k1 k2 k3 k12
 go_enter Try.func27, Try.ntmps27
 go_upto_region 1 with (fail)
 try rw [hW1]
 try rw [hW2]
 try rw [hW3]
 clear hW1 hW2 hW3
 refine wp_region_noPanic ?_
 refine wp_region_held_drew (S := fun U => U.cell? ⟨w.heap.size, 0, none⟩ = some (m0) ∧ U.cell? ⟨w.heap.size, 1, none⟩ = some (m1) ∧ U.cell? ⟨w.heap.size, 2, none⟩ = some (m2) ∧ U.cell? ⟨w.heap.size, 3, none⟩ = some (m3) ∧ U.cell? ⟨w.heap.size, 4, none⟩ = some (m4) ∧ U.cell? ⟨w.heap.size, 5, none⟩ = some (m5) ∧ U.cell? ⟨w.heap.size, 6, none⟩ = some (m6) ∧ U.cell? ⟨w.heap.size, 7, none⟩ = some (m7) ∧ U.cell? ⟨w.heap.size, 8, none⟩ = some (m8) ∧ U.cell? ⟨w.heap.size, 9, none⟩ = some (m9) ∧ U.cell? ⟨w.heap.size, 10, none⟩ = some (m10) ∧ U.cell? ⟨w.heap.size, 11, none⟩ = some (m11) ∧ U.cell? ⟨w.heap.size, 12, none⟩ = some (m12) ∧ U.cell? ⟨w.heap.size, 13, none⟩ = some (.slice a n c)) (by kernel_rfl) (cs.out _ PM.out.drew) (fun hHeld => ?_)
 have hfd := m_field13 m0 m1 m2 m3 m4 m5 m6 m7 m8 m9 m10 m11 m12
 have L0 : Hid (Below W3.heap.size W3 W3.drew) := Lib.hid (Below.refl _ _).drew
 generalize W3.drew = U0 at *
 refine tkz 0 (qRfM0 _) ?_ rfl ?_ ?_
 rotate_left
 ·intro w hSw
  unfold qRfM0
  go_simp
  first | done | with_reducible rfl
 try simp only [qRfM0, pz0, pz2, pz3, pz4]
 refine tkz 4 (qRfM1 _) ?_ rfl ?_ ?_
 rotate_left
 ·intro w hSw
  unfold qRfM1
  go_simp
  first | done | with_reducible rfl
 try simp only [qRfM1, pz0, pz2, pz3, pz4]
 refine tkz 5 (qRfM2 _) ?_ rfl ?_ ?_
 rotate_left
 ·intro w hSw
  unfold qRfM2
  go_simp
  first | done | with_reducible rfl
 try simp only [qRfM2, pz0, pz2, pz3, pz4]
 refine tkz 6 (qRfM3 _) ?_ rfl ?_ ?_
 rotate_left
 ·intro w hSw
  unfold qRfM3
  go_simp
  first | done | with_reducible rfl
 try simp only [qRfM3, pz0, pz2, pz3, pz4]
 refine wpAnyH_ready (rs := [1]) (by kernel_rfl) (by simp) ?_
 refine arz (qRfM4 _) rfl (fun K hK => ?_) AllReadyH.nil
 unfold qRfM4
 refine step_call (by rfl) (.tmp 8) 60 (by rfl) (by rfl) enter31 ?_
 refine (ref_without (hH.out.ext L0.out) m0 m1 m2 m3 m4 m5 m6 m7 m8 m9 m10 m11 m12 ho'.out).mono ?_
 rintro e U1 ⟨⟨v, rfl, hv⟩, hb⟩
 obtain ⟨av, cv, rfl⟩ := hv.shape
 have L1 := Lib.hid (L0.out.trans (hb.mono L0.out.size))
 clear hv hb L0
 refine ⟨_, rfl, ?_⟩
 refine hK.out _ _ (cs.out _ (PM.out.below L1.out PM.out.lt)) (fun hHeld => ?_)
 clear hK K
 try simp only [pz0, pz2, pz3, pz4]
 refine tkz 2 (qRfM5 _) ?_ rfl ?_ ?_
 rotate_left
 ·intro w hSw
  unfold qRfM5
  go_simp
  first | done | with_reducible rfl
 try simp only [qRfM5, pz0, pz2, pz3, pz4]
 refine tkz 3 (qRfM6 _) ?_ rfl ?_ ?_
 rotate_left
 ·intro w hSw
  unfold qRfM6
  go_simp
  first | done | with_reducible rfl
 try simp only [qRfM6, pz0, pz2, pz3, pz4]
 refine tkz 7 (qRfM7 _) ?_ rfl ?_ ?_
 rotate_left
 ·intro w hSw
  unfold qRfM7
  go_simp
  first | done | with_reducible rfl
 try simp only [qRfM7, pz0, pz2, pz3, pz4]
 refine wpAnyH_done (by kernel_rfl) ?_ _
 refine NoPanic.normal ?_
 clear hHeld hfd
 have RZ := Lib.hid (PZ.out.below L1.out PZ.out.lt)
 have KW := Lib.hid (kb.out.trans (L1.out.mono kb.out.size))
 have hlz2 := hlz.out
 generalize (zQ Q L).length = lz at *
 go_wp2_with (refine store_whole rfl 60 (.tmp 4) (.tmp 16) rfl rfl rfl RZ.out (by rfl) (by kernel_rfl) (by kernel_rfl) ?_; intro w6 hB6 hg6 hz6; have hR6 := Lib.hid hB6; have hg6' := Lib.hid hg6; clear hB6 hg6 hz6)
 refine bodyPost_ret (results_ct rfl _ rfl hR6.out Try.underlying60 rfl (by kernel_rfl)) rfl ?_
 exact ⟨rfl, KW.out.grown hg6'.out KW.out.size (fun j hj => by have e2 := Option.some.inj hj; have := hl1.out; have := hl2.out; omega)⟩
set_option maxHeartbeats 8000000 in
set_option maxRecDepth 100000 in
theorem ref_with_bad {w : World} {a : Option Addr} {n c : Nat} {Q : List RD} {L : List RL} (h : RdRs w a n c Q L) (m0 m1 m2 m3 m4 m5 m6 m7 m8 m9 m10 m11 m12 : Value) (ho : [m0, m1, m2, m3, m4, m5, m6, m7, m8, m9, m10, m11, m12].all (·.oneCell') = true) (hno : idxF Q 0 < 0) {ea : Option Addr} {en ec : Nat} {O : List Opt} (hO : RdO w ea en ec O) (hen : en ≤ 1152921504606846976) (hs : ∀ o ∈ O, o.2.length ≤ 65540) (hC : ∀ o ∈ O, o.1 < 65536) (sz hi ver : Int) (d : Bool) (hb1 : ¬ (mayB sz hi ver = true ∧ (rawB O).length ≤ 65535)) :
 Calls Try.prog 27 #[.agg #[m0, m1, m2, m3, m4, m5, m6, m7, m8, m9, m10, m11, m12, .slice a n c], .agg #[.int .i64 sz, .int .i64 hi, .int .i64 ver, .bool d, .slice ea en ec]] w fun e w' => e = .returned (.tuple #[.agg #[.int .u16 0, .bool false, .int .i64 0, .bool false, .bool false, .bool false, .bool false, .bool false, .bool false, .int .i64 0, .slice none 0 0, .slice none 0 0, .slice none 0 0, .slice none 0 0], .int .i64 2]) ∧ Below w.heap.size w w' := by
 replace hb1 := Lib.hid hb1
 obtain ⟨W1, hW1⟩ : ∃ W, w.alloc (.cells #[m0, m1, m2, m3, m4, m5, m6, m7, m8, m9, m10, m11, m12, .slice a n c] 60) = W := ⟨_, rfl⟩
 have B1 : Hid (Blk W1 w.heap.size 60 (0, 0) [m0, m1, m2, m3, m4, m5, m6, m7, m8, m9, m10, m11, m12, .slice a n c]) := Lib.hid (by rw [← hW1]; exact Blk.new w 60 (0, 0) #[m0, m1, m2, m3, m4, m5, m6, m7, m8, m9, m10, m11, m12, .slice a n c])
 have k1 : Hid (Below w.heap.size w W1) := Lib.hid (by rw [← hW1]; exact alloc_bel _ _)
 obtain ⟨W2, hW2⟩ : ∃ W, W1.alloc (.cells #[.int .i64 sz, .int .i64 hi, .int .i64 ver, .bool d, .slice ea en ec] 24) = W := ⟨_, rfl⟩
 have B2 : Hid (Blk W2 W1.heap.size 24 (0, 0) [.int .i64 sz, .int .i64 hi, .int .i64 ver, .bool d, .slice ea en ec]) := Lib.hid (by rw [← hW2]; exact Blk.new W1 24 (0, 0) #[.int .i64 sz, .int .i64 hi, .int .i64 ver, .bool d, .slice ea en ec])
 have k2 : Hid (Below W1.heap.size W1 W2) := Lib.hid (by rw [← hW2]; exact alloc_bel _ _)
 obtain ⟨W3, hW3⟩ : ∃ W, W2.alloc (.cells #[.int .u16 0, .bool false, .int .i64 0, .bool false, .bool false, .bool false, .bool false, .bool false, .bool false, .int .i64 0, .slice none 0 0, .slice none 0 0, .slice none 0 0, .slice none 0 0] 60) = W := ⟨_, rfl⟩
 have B3 : Hid (Blk W3 W2.heap.size 60 (0, 0) [.int .u16 0, .bool false, .int .i64 0, .bool false, .bool false, .bool false, .bool false, .bool false, .bool false, .int .i64 0, .slice none 0 0, .slice none 0 0, .slice none 0 0, .slice none 0 0]) := Lib.hid (by rw [← hW3]; exact Blk.new W2 60 (0, 0) #[.int .u16 0, .bool false, .int .i64 0, .bool false, .bool false, .bool false, .bool false, .bool false, .bool false, .int .i64 0, .slice none 0 0, .slice none 0 0, .slice none 0 0, .slice none 0 0])
 have k3 : Hid (Below W2.heap.size W2 W3) := Lib.hid (by rw [← hW3]; exact alloc_bel _ _)
 have hl1 : Hid (w.heap.size < W1.heap.size) := Lib.hid B1.out.lt
 have hl2 : Hid (W1.heap.size < W2.heap.size) := Lib.hid B2.out.lt
 have hl3 : Hid (W2.heap.size < W3.heap.size) := Lib.hid B3.out.lt
 have k12 := Lib.hid (k1.out.trans (k2.out.mono k1.out.size))
 have kb := Lib.hid (k12.out.trans (k3.out.mono k12.out.size))
 have PM := Lib.hid ((B1.out.below k2.out B1.out.lt).below k3.out (Nat.lt_trans hl1.out hl2.out))
 have PE := Lib.hid (B2.out.below k3.out B2.out.lt)
 have PZ := B3
 have hl := h.1.len
 have hzq := Lib.hid (zQ_eq Q L h.2.1)
 have hn : n ≤ 1152921504606846976 := by have := h.2.2.1; unfold reachBytes at this; omega
 have hH := Lib.hid (h.ext kb.out)
 have hwo := Lib.hid (ref_without hH.out m0 m1 m2 m3 m4 m5 m6 m7 m8 m9 m10 m11 m12 ho)
 have ho' := Lib.hid ho
 have hlz : Hid ((zQ Q L).length = n) := Lib.hid (by
  rw [zQ_eq Q L h.2.1, ← h.1.len]
  rw [List.length_filter_eq_length_iff]
  rcases idxF_cases Q with ⟨h1, _⟩ | ⟨k, _, _, _, h2⟩
  ·intro x hx; rw [h1 x hx]; rfl
  ·omega)
 have hE := Lib.hid (hO.ext kb.out)
 have hs' := Lib.hid hs
 have hC' := Lib.hid hC
 clear hO hs hC hno
 have cs : Hid (∀ U : World, Blk U w.heap.size 60 (0, 0) [m0, m1, m2, m3, m4, m5, m6, m7, m8, m9, m10, m11, m12, .slice a n c] → U.cell? ⟨w.heap.size, 0, none⟩ = some (m0) ∧ U.cell? ⟨w.heap.size, 1, none⟩ = some (m1) ∧ U.cell? ⟨w.heap.size, 2, none⟩ = some (m2) ∧ U.cell? ⟨w.heap.size, 3, none⟩ = some (m3) ∧ U.cell? ⟨w.heap.size, 4, none⟩ = some (m4) ∧ U.cell? ⟨w.heap.size, 5, none⟩ = some (m5) ∧ U.cell? ⟨w.heap.size, 6, none⟩ = some (m6) ∧ U.cell? ⟨w.heap.size, 7, none⟩ = some (m7) ∧ U.cell? ⟨w.heap.size, 8, none⟩ = some (m8) ∧ U.cell? ⟨w.heap.size, 9, none⟩ = some (m9) ∧ U.cell? ⟨w.heap.size, 10, none⟩ = some (m10) ∧ U.cell? ⟨w.heap.size, 11, none⟩ = some (m11) ∧ U.cell? ⟨w.heap.size, 12, none⟩ = some (m12) ∧ U.cell? ⟨w.heap.size, 13, none⟩ = some (.slice a n c)) := Lib.hid (fun U hB => ⟨(hB.cell 0).trans rfl, (hB.cell 1).trans rfl, (hB.cell 2).trans rfl, (hB.cell 3).trans rfl, (hB.cell 4).trans rfl, (hB.cell 5).trans rfl, (hB.cell 6).trans rfl, (hB.cell 7).trans rfl, (hB.cell 8).trans rfl, (hB.cell 9).trans rfl, (hB.cell 10).trans rfl, (hB.cell 11).trans rfl, (hB.cell 12).trans rfl, (hB.cell 13).trans rfl⟩)
 clear h ho B1 B2 B3 k1 k2 k3 k12
 go_enter Try.func27, Try.ntmps27
 go_upto_region 1 with (fail)
 try rw [hW1]
 try rw [hW2]
 try rw [hW3]
 clear hW1 hW2 hW3
 refine wp_region_noPanic ?_
 refine wp_region_held_drew (S := fun U => U.cell? ⟨w.heap.size, 0, none⟩ = some (m0) ∧ U.cell? ⟨w.heap.size, 1, none⟩ = some (m1) ∧ U.cell? ⟨w.heap.size, 2, none⟩ = some (m2) ∧ U.cell? ⟨w.heap.size, 3, none⟩ = some (m3) ∧ U.cell? ⟨w.heap.size, 4, none⟩ = some (m4) ∧ U.cell? ⟨w.heap.size, 5, none⟩ = some (m5) ∧ U.cell? ⟨w.heap.size, 6, none⟩ = some (m6) ∧ U.cell? ⟨w.heap.size, 7, none⟩ = some (m7) ∧ U.cell? ⟨w.heap.size, 8, none⟩ = some (m8) ∧ U.cell? ⟨w.heap.size, 9, none⟩ = some (m9) ∧ U.cell? ⟨w.heap.size, 10, none⟩ = some (m10) ∧ U.cell? ⟨w.heap.size, 11, none⟩ = some (m11) ∧ U.cell? ⟨w.heap.size, 12, none⟩ = some (m12) ∧ U.cell? ⟨w.heap.size, 13, none⟩ = some (.slice a n c)) (by kernel_rfl) (cs.out _ PM.out.drew) (fun hHeld => ?_)
 have hfd := m_field13 m0 m1 m2 m3 m4 m5 m6 m7 m8 m9 m10 m11 m12
 have L0 : Hid (Below W3.heap.size W3 W3.drew) := Lib.hid (Below.refl _ _).drew
 generalize W3.drew = U0 at *
 refine tkz 0 (qRfM0 _) ?_ rfl ?_ ?_
 rotate_left
 ·intro w hSw
  unfold qRfM0
  go_simp
  first | done | with_reducible rfl
 try simp only [qRfM0, pz0, pz2, pz3, pz4]
 refine tkz 4 (qRfM1 _) ?_ rfl ?_ ?_
 rotate_left
 ·intro w hSw
  unfold qRfM1
  go_simp
  first | done | with_reducible rfl
 try simp only [qRfM1, pz0, pz2, pz3, pz4]
 refine tkz 5 (qRfM2 _) ?_ rfl ?_ ?_
 rotate_left
 ·intro w hSw
  unfold qRfM2
  go_simp
  first | done | with_reducible rfl
 try simp only [qRfM2, pz0, pz2, pz3, pz4]
 refine tkz 6 (qRfM3 _) ?_ rfl ?_ ?_
 rotate_left
 ·intro w hSw
  unfold qRfM3
  go_simp
  first | done | with_reducible rfl
 try simp only [qRfM3, pz0, pz2, pz3, pz4]
 refine wpAnyH_ready (rs := [1]) (by kernel_rfl) (by simp) ?_
 refine arz (qRfM4 _) rfl (fun K hK => ?_) AllReadyH.nil
 unfold qRfM4
 refine step_call (by rfl) (.tmp 8) 60 (by rfl) (by rfl) enter31 ?_
 refine (ref_without (hH.out.ext L0.out) m0 m1 m2 m3 m4 m5 m6 m7 m8 m9 m10 m11 m12 ho'.out).mono ?_
 rintro e U1 ⟨⟨v, rfl, hv⟩, hb⟩
 obtain ⟨av, cv, rfl⟩ := hv.shape
 have L1 := Lib.hid (L0.out.trans (hb.mono L0.out.size))
 clear hv hb L0
 refine ⟨_, rfl, ?_⟩
 refine hK.out _ _ (cs.out _ (PM.out.below L1.out PM.out.lt)) (fun hHeld => ?_)
 clear hK K
 try simp only [pz0, pz2, pz3, pz4]
 refine tkz 2 (qRfM5 _) ?_ rfl ?_ ?_
 rotate_left
 ·intro w hSw
  unfold qRfM5
  go_simp
  first | done | with_reducible rfl
 try simp only [qRfM5, pz0, pz2, pz3, pz4]
 refine tkz 3 (qRfM6 _) ?_ rfl ?_ ?_
 rotate_left
 ·intro w hSw
  unfold qRfM6
  go_simp
  first | done | with_reducible rfl
 try simp only [qRfM6, pz0, pz2, pz3, pz4]
 refine tkz 7 (qRfM7 _) ?_ rfl ?_ ?_
 rotate_left
 ·intro w hSw
  unfold qRfM7
  go_simp
  first | done | with_reducible rfl
 try simp only [qRfM7, pz0, pz2, pz3, pz4]
 refine wpAnyH_done (by kernel_rfl) ?_ _
 refine NoPanic.normal ?_
 clear hHeld hfd
 have RZ := Lib.hid (PZ.out.below L1.out PZ.out.lt)
 have RE := Lib.hid (PE.out.below L1.out PE.out.lt)
 have KW := Lib.hid (kb.out.trans (L1.out.mono kb.out.size))
 have hlz2 := hlz.out
 generalize (zQ Q L).length = lz at *
 subst hlz2
 have q0 : U1.cell? ⟨W1.heap.size, 0, none⟩ = some (.int .i64 sz) := (RE.out.cell 0).trans rfl
 have q1 : U1.cell? ⟨W1.heap.size, 1, none⟩ = some (.int .i64 hi) := (RE.out.cell 1).trans rfl
 have q2 : U1.cell? ⟨W1.heap.size, 2, none⟩ = some (.int .i64 ver) := (RE.out.cell 2).trans rfl
 have q3 : U1.cell? ⟨W1.heap.size, 3, none⟩ = some (.bool d) := (RE.out.cell 3).trans rfl
 have q4 : U1.cell? ⟨W1.heap.size, 4, none⟩ = some (.slice ea en ec) := (RE.out.cell 4).trans rfl
 have hrc := Lib.hid (ref_rec (hE.out.ext L1.out) hen (fun o ho => Nat.le_trans (hs'.out o ho) (by decide)) hC'.out sz hi ver d)
 dsimp only [eV] at hrc
 go_wp2_with fail
 refine hrc.out.mono ?_
 rintro e w3 ⟨hB, hb⟩
 unfold RecB at hB
 rw [if_neg hb1.out] at hB
 subst hB
 dsimp only [rV, nilV]
 have KW2 := Lib.hid (KW.out.trans (hb.mono KW.out.size))
 have RZ2 := Lib.hid (RZ.out.below hb RZ.out.lt)
 clear hb hrc q0 q1 q2 q3 q4
 obtain ⟨W4, hW4⟩ : ∃ W, w3.alloc (.cells #[.slice none 0 0, .int .u16 0, .int .u16 0, .int .u32 0, .slice none 0 0, .slice none 0 0, .slice none 0 0, .slice none 0 0] 37) = W := ⟨_, rfl⟩
 have N4 : Hid (Blk W4 w3.heap.size 37 (0, 0) [.slice none 0 0, .int .u16 0, .int .u16 0, .int .u32 0, .slice none 0 0, .slice none 0 0, .slice none 0 0, .slice none 0 0]) := Lib.hid (by rw [← hW4]; exact Blk.new w3 37 (0, 0) #[.slice none 0 0, .int .u16 0, .int .u16 0, .int .u32 0, .slice none 0 0, .slice none 0 0, .slice none 0 0, .slice none 0 0])
 have n4 : Hid (Below w3.heap.size w3 W4) := Lib.hid (by rw [← hW4]; exact alloc_bel _ _)
 go_upto_region 4 with (refine store_whole rfl 37 (.tmp 6) (.tmp 20) rfl rfl rfl N4.out (by rfl) (by kernel_rfl) (by kernel_rfl) ?_; intro w5 hB6 hg6 hz6; have R5 := Lib.hid hB6; have k5 := Lib.hid (fresh_store n4.out hg6); clear hB6 hg6 hz6)
 try rw [hW4]
 clear hW4
 have KW3 := Lib.hid (KW2.out.trans (k5.out.mono KW2.out.size))
 have RZ3 := Lib.hid (RZ2.out.below k5.out RZ2.out.lt)
 go_wp2_with (refine store_whole rfl 60 (.tmp 4) (.tmp 24) rfl rfl rfl RZ3.out (by rfl) (by kernel_rfl) (by kernel_rfl) ?_; intro w6 hB6 hg6 hz6; have hR6 := Lib.hid hB6; have hg6' := Lib.hid hg6; clear hB6 hg6 hz6)
 refine bodyPost_ret (results_ct rfl _ rfl hR6.out Try.underlying60 rfl (by kernel_rfl)) rfl ?_
 exact ⟨rfl, KW3.out.grown hg6'.out KW3.out.size (fun j hj => by have e2 := Option.some.inj hj; have := hl1.out; have := hl2.out; omega)⟩
set_option maxHeartbeats 16000000 in
set_option maxRecDepth 100000 in
theorem ref_with_good {w : World} {a : Option Addr} {n c : Nat} {Q : List RD} {L : List RL} (h : RdRs w a n c Q L) (m0 m1 m2 m3 m4 m5 m6 m7 m8 m9 m10 m11 m12 : Value) (ho : [m0, m1, m2, m3, m4, m5, m6, m7, m8, m9, m10, m11, m12].all (·.oneCell') = true) (hno : idxF Q 0 < 0) {ea : Option Addr} {en ec : Nat} {O : List Opt} (hO : RdO w ea en ec O) (hen : en ≤ 1152921504606846976) (hs : ∀ o ∈ O, o.2.length ≤ 65540) (hC : ∀ o ∈ O, o.1 < 65536) (sz hi ver : Int) (d : Bool) (hb1 : mayB sz hi ver = true ∧ (rawB O).length ≤ 65535) :
 Calls Try.prog 27 #[.agg #[m0, m1, m2, m3, m4, m5, m6, m7, m8, m9, m10, m11, m12, .slice a n c], .agg #[.int .i64 sz, .int .i64 hi, .int .i64 ver, .bool d, .slice ea en ec]] w fun e w' => (∃ v ra rn rc, e = .returned (.tuple #[.agg #[m0, m1, m2, m3, m4, m5, m6, m7, m8, m9, m10, m11, m12, v], .int .i64 0]) ∧ Own recE w' w.heap.size v (Q ++ [(⟨none, 0, 0, 41, sz.toNat, ttlN hi.toNat ver.toNat d, none, 0, 0, none, 0, 0, none, 0, 0, ra, rn, rc⟩ : RD)]) ∧ Own byteE w' w.heap.size (.slice ra rn rc) (rawB O)) ∧ Below w.heap.size w w' := by
 replace hb1 := Lib.hid hb1
 obtain ⟨sn, hsn⟩ : ∃ x, sz.toNat = x := ⟨_, rfl⟩
 obtain ⟨tn, htn⟩ : ∃ x, ttlN hi.toNat ver.toNat d = x := ⟨_, rfl⟩
 rw [hsn, htn]
 replace hsn := Lib.hid hsn
 replace htn := Lib.hid htn
 obtain ⟨W1, hW1⟩ : ∃ W, w.alloc (.cells #[m0, m1, m2, m3, m4, m5, m6, m7, m8, m9, m10, m11, m12, .slice a n c] 60) = W := ⟨_, rfl⟩
 have B1 : Hid (Blk W1 w.heap.size 60 (0, 0) [m0, m1, m2, m3, m4, m5, m6, m7, m8, m9, m10, m11, m12, .slice a n c]) := Lib.hid (by rw [← hW1]; exact Blk.new w 60 (0, 0) #[m0, m1, m2, m3, m4, m5, m6, m7, m8, m9, m10, m11, m12, .slice a n c])
 have k1 : Hid (Below w.heap.size w W1) := Lib.hid (by rw [← hW1]; exact alloc_bel _ _)
 obtain ⟨W2, hW2⟩ : ∃ W, W1.alloc (.cells #[.int .i64 sz, .int .i64 hi, .int .i64 ver, .bool d, .slice ea en ec] 24) = W := ⟨_, rfl⟩
 have B2 : Hid (Blk W2 W1.heap.size 24 (0, 0) [.int .i64 sz, .int .i64 hi, .int .i64 ver, .bool d, .slice ea en ec]) := Lib.hid (by rw [← hW2]; exact Blk.new W1 24 (0, 0) #[.int .i64 sz, .int .i64 hi, .int .i64 ver, .bool d, .slice ea en ec])
 have k2 : Hid (Below W1.heap.size W1 W2) := Lib.hid (by rw [← hW2]; exact alloc_bel _ _)
 obtain ⟨W3, hW3⟩ : ∃ W, W2.alloc (.cells #[.int .u16 0, .bool false, .int .i64 0, .bool false, .bool false, .bool false, .bool false, .bool false, .bool false, .int .i64 0, .slice none 0 0, .slice none 0 0, .slice none 0 0, .slice none 0 0] 60) = W := ⟨_, rfl⟩
 have B3 : Hid (Blk W3 W2.heap.size 60 (0, 0) [.int .u16 0, .bool false, .int .i64 0, .bool false, .bool false, .bool false, .bool false, .bool false, .bool false, .int .i64 0, .slice none 0 0, .slice none 0 0, .slice none 0 0, .slice none 0 0]) := Lib.hid (by rw [← hW3]; exact Blk.new W2 60 (0, 0) #[.int .u16 0, .bool false, .int .i64 0, .bool false, .bool false, .bool false, .bool false, .bool false, .bool false, .int .i64 0, .slice none 0 0, .slice none 0 0, .slice none 0 0, .slice none 0 0])
 have k3 : Hid (Below W2.heap.size W2 W3) := Lib.hid (by rw [← hW3]; exact alloc_bel _ _)
 have hl1 : Hid (w.heap.size < W1.heap.size) := Lib.hid B1.out.lt
 have hl2 : Hid (W1.heap.size < W2.heap.size) := Lib.hid B2.out.lt
 have hl3 : Hid (W2.heap.size < W3.heap.size) := Lib.hid B3.out.lt
 have k12 := Lib.hid (k1.out.trans (k2.out.mono k1.out.size))
 have kb := Lib.hid (k12.out.trans (k3.out.mono k12.out.size))
 have PM := Lib.hid ((B1.out.below k2.out B1.out.lt).below k3.out (Nat.lt_trans hl1.out hl2.out))
 have PE := Lib.hid (B2.out.below k3.out B2.out.lt)
 have PZ := B3
 have hl := h.1.len
 have hzq := Lib.hid (zQ_eq Q L h.2.1)
 have hn : n ≤ 1152921504606846976 := by have := h.2.2.1; unfold reachBytes at this; omega
 have hH := Lib.hid (h.ext kb.out)
 have hwo := Lib.hid (ref_without hH.out m0 m1 m2 m3 m4 m5 m6 m7 m8 m9 m10 m11 m12 ho)
 have ho' := Lib.hid ho
 have hzn := h.2.2.1
 have hlz : Hid ((zQ Q L).length = n) := Lib.hid (by
  rw [zQ_eq Q L h.2.1, ← h.1.len]
  rw [List.length_filter_eq_length_iff]
  rcases idxF_cases Q with ⟨h1, _⟩ | ⟨k, _, _, _, h2⟩
  ·intro x hx; rw [h1 x hx]; rfl
  ·omega)
 have hE := Lib.hid (hO.ext kb.out)
 have hs' := Lib.hid hs
 have hC' := Lib.hid hC
 clear hO hs hC hno
 have cs : Hid (∀ U : World, Blk U w.heap.size 60 (0, 0) [m0, m1, m2, m3, m4, m5, m6, m7, m8, m9, m10, m11, m12, .slice a n c] → U.cell? ⟨w.heap.size, 0, none⟩ = some (m0) ∧ U.cell? ⟨w.heap.size, 1, none⟩ = some (m1) ∧ U.cell? ⟨w.heap.size, 2, none⟩ = some (m2) ∧ U.cell? ⟨w.heap.size, 3, none⟩ = some (m3) ∧ U.cell? ⟨w.heap.size, 4, none⟩ = some (m4) ∧ U.cell? ⟨w.heap.size, 5, none⟩ = some (m5) ∧ U.cell? ⟨w.heap.size, 6, none⟩ = some (m6) ∧ U.cell? ⟨w.heap.size, 7, none⟩ = some (m7) ∧ U.cell? ⟨w.heap.size, 8, none⟩ = some (m8) ∧ U.cell? ⟨w.heap.size, 9, none⟩ = some (m9) ∧ U.cell? ⟨w.heap.size, 10, none⟩ = some (m10) ∧ U.cell? ⟨w.heap.size, 11, none⟩ = some (m11) ∧ U.cell? ⟨w.heap.size, 12, none⟩ = some (m12) ∧ U.cell? ⟨w.heap.size, 13, none⟩ = some (.slice a n c)) := Lib.hid (fun U hB => ⟨(hB.cell 0).trans rfl, (hB.cell 1).trans rfl, (hB.cell 2).trans rfl, (hB.cell 3).trans rfl, (hB.cell 4).trans rfl, (hB.cell 5).trans rfl, (hB.cell 6).trans rfl, (hB.cell 7).trans rfl, (hB.cell 8).trans rfl, (hB.cell 9).trans rfl, (hB.cell 10).trans rfl, (hB.cell 11).trans rfl, (hB.cell 12).trans rfl, (hB.cell 13).trans rfl⟩)
 clear h ho B1 B2 B3 k1 k2 k3 k12
 go_enter Try.func27, Try.ntmps27
 go_upto_region 1 with (fail)
 try rw [hW1]
 try rw [hW2]
 try rw [hW3]
 clear hW1 hW2 hW3
 refine wp_region_noPanic ?_
 refine wp_region_held_drew (S := fun U => U.cell? ⟨w.heap.size, 0, none⟩ = some (m0) ∧ U.cell? ⟨w.heap.size, 1, none⟩ = some (m1) ∧ U.cell? ⟨w.heap.size, 2, none⟩ = some (m2) ∧ U.cell? ⟨w.heap.size, 3, none⟩ = some (m3) ∧ U.cell? ⟨w.heap.size, 4, none⟩ = some (m4) ∧ U.cell? ⟨w.heap.size, 5, none⟩ = some (m5) ∧ U.cell? ⟨w.heap.size, 6, none⟩ = some (m6) ∧ U.cell? ⟨w.heap.size, 7, none⟩ = some (m7) ∧ U.cell? ⟨w.heap.size, 8, none⟩ = some (m8) ∧ U.cell? ⟨w.heap.size, 9, none⟩ = some (m9) ∧ U.cell? ⟨w.heap.size, 10, none⟩ = some (m10) ∧ U.cell? ⟨w.heap.size, 11, none⟩ = some (m11) ∧ U.cell? ⟨w.heap.size, 12, none⟩ = some (m12) ∧ U.cell? ⟨w.heap.size, 13, none⟩ = some (.slice a n c)) (by kernel_rfl) (cs.out _ PM.out.drew) (fun hHeld => ?_)
 have hfd := m_field13 m0 m1 m2 m3 m4 m5 m6 m7 m8 m9 m10 m11 m12
 have L0 : Hid (Below W3.heap.size W3 W3.drew) := Lib.hid (Below.refl _ _).drew
 generalize W3.drew = U0 at *
 have hzn' := Lib.hid hzn
 clear hzn
 refine tkz 0 (qRfM0 _) ?_ rfl ?_ ?_
 rotate_left
 ·intro w hSw
  unfold qRfM0
  go_simp
  first | done | with_reducible rfl
 try simp only [qRfM0, pz0, pz2, pz3, pz4]
 refine tkz 4 (qRfM1 _) ?_ rfl ?_ ?_
 rotate_left
 ·intro w hSw
  unfold qRfM1
  go_simp
  first | done | with_reducible rfl
 try simp only [qRfM1, pz0, pz2, pz3, pz4]
 refine tkz 5 (qRfM2 _) ?_ rfl ?_ ?_
 rotate_left
 ·intro w hSw
  unfold qRfM2
  go_simp
  first | done | with_reducible rfl
 try simp only [qRfM2, pz0, pz2, pz3, pz4]
 refine tkz 6 (qRfM3 _) ?_ rfl ?_ ?_
 rotate_left
 ·intro w hSw
  unfold qRfM3
  go_simp
  first | done | with_reducible rfl
 try simp only [qRfM3, pz0, pz2, pz3, pz4]
 refine wpAnyH_ready (rs := [1]) (by kernel_rfl) (by simp) ?_
 refine arz (qRfM4 _) rfl (fun K hK => ?_) AllReadyH.nil
 unfold qRfM4
 refine step_call (by rfl) (.tmp 8) 60 (by rfl) (by rfl) enter31 ?_
 refine (ref_without (hH.out.ext L0.out) m0 m1 m2 m3 m4 m5 m6 m7 m8 m9 m10 m11 m12 ho'.out).mono ?_
 rintro e U1 ⟨⟨v, rfl, hv⟩, hb⟩
 obtain ⟨av, cv, rfl⟩ := hv.shape
 have L1 := Lib.hid (L0.out.trans (hb.mono L0.out.size))
 clear hv hb L0
 refine ⟨_, rfl, ?_⟩
 refine hK.out _ _ (cs.out _ (PM.out.below L1.out PM.out.lt)) (fun hHeld => ?_)
 clear hK K
 try simp only [pz0, pz2, pz3, pz4]
 refine tkz 2 (qRfM5 _) ?_ rfl ?_ ?_
 rotate_left
 ·intro w hSw
  unfold qRfM5
  go_simp
  first | done | with_reducible rfl
 try simp only [qRfM5, pz0, pz2, pz3, pz4]
 refine tkz 3 (qRfM6 _) ?_ rfl ?_ ?_
 rotate_left
 ·intro w hSw
  unfold qRfM6
  go_simp
  first | done | with_reducible rfl
 try simp only [qRfM6, pz0, pz2, pz3, pz4]
 refine tkz 7 (qRfM7 _) ?_ rfl ?_ ?_
 rotate_left
 ·intro w hSw
  unfold qRfM7
  go_simp
  first | done | with_reducible rfl
 try simp only [qRfM7, pz0, pz2, pz3, pz4]
 refine wpAnyH_done (by kernel_rfl) ?_ _
 refine NoPanic.normal ?_
 clear hHeld hfd
 have RZ := Lib.hid (PZ.out.below L1.out PZ.out.lt)
 have RE := Lib.hid (PE.out.below L1.out PE.out.lt)
 have KW := Lib.hid (kb.out.trans (L1.out.mono kb.out.size))
 have hlz2 := hlz.out
 generalize (zQ Q L).length = lz at *
 subst hlz2
 have q0 : U1.cell? ⟨W1.heap.size, 0, none⟩ = some (.int .i64 sz) := (RE.out.cell 0).trans rfl
 have q1 : U1.cell? ⟨W1.heap.size, 1, none⟩ = some (.int .i64 hi) := (RE.out.cell 1).trans rfl
 have q2 : U1.cell? ⟨W1.heap.size, 2, none⟩ = some (.int .i64 ver) := (RE.out.cell 2).trans rfl
 have q3 : U1.cell? ⟨W1.heap.size, 3, none⟩ = some (.bool d) := (RE.out.cell 3).trans rfl
 have q4 : U1.cell? ⟨W1.heap.size, 4, none⟩ = some (.slice ea en ec) := (RE.out.cell 4).trans rfl
 have hrc := Lib.hid (ref_rec (hE.out.ext L1.out) hen (fun o ho => Nat.le_trans (hs'.out o ho) (by decide)) hC'.out sz hi ver d)
 dsimp only [eV] at hrc
 go_wp2_with fail
 refine hrc.out.mono ?_
 rintro e w3 ⟨hB, hb⟩
 unfold RecB at hB
 rw [if_pos hb1.out] at hB
 rw [hsn.out, htn.out] at hB
 obtain ⟨v0, rfl, ho0⟩ := hB
 obtain ⟨ra, rc, rfl⟩ := ho0.shape
 dsimp only [rV, nilV]
 obtain ⟨rn, hrn⟩ : ∃ rn, (rawB O).length = rn := ⟨_, rfl⟩
 rw [hrn] at ho0 ⊢
 have hwU : Hid (w.heap.size ≤ U1.heap.size) := Lib.hid KW.out.size
 have RWb := Lib.hid ho0
 have KW2 := Lib.hid (KW.out.trans (hb.mono KW.out.size))
 have RZ2 := Lib.hid (RZ.out.below hb RZ.out.lt)
 have PB2 := Lib.hid ((PM.out.below L1.out PM.out.lt).below hb (Nat.lt_of_lt_of_le PM.out.lt L1.out.size))
 have L2 := Lib.hid (L1.out.trans (hb.mono L1.out.size))
 clear hb hrc q0 q1 q2 q3 q4 ho0 hrn
 obtain ⟨W4, hW4⟩ : ∃ W, w3.alloc (.cells #[.slice none 0 0, .int .u16 0, .int .u16 0, .int .u32 0, .slice none 0 0, .slice none 0 0, .slice none 0 0, .slice none 0 0] 37) = W := ⟨_, rfl⟩
 have N4 : Hid (Blk W4 w3.heap.size 37 (0, 0) [.slice none 0 0, .int .u16 0, .int .u16 0, .int .u32 0, .slice none 0 0, .slice none 0 0, .slice none 0 0, .slice none 0 0]) := Lib.hid (by rw [← hW4]; exact Blk.new w3 37 (0, 0) #[.slice none 0 0, .int .u16 0, .int .u16 0, .int .u32 0, .slice none 0 0, .slice none 0 0, .slice none 0 0, .slice none 0 0])
 have n4 : Hid (Below w3.heap.size w3 W4) := Lib.hid (by rw [← hW4]; exact alloc_bel _ _)
 go_upto_region 4 with (refine store_whole rfl 37 (.tmp 6) (.tmp 20) rfl rfl rfl N4.out (by rfl) (by kernel_rfl) (by first | kernel_rfl | rfl) ?_; intro w5 hB6 hg6 hz6; have R5 := Lib.hid hB6; have k5 := Lib.hid (fresh_store n4.out hg6); clear hB6 hg6 hz6)
 try rw [hW4]
 clear hW4 N4 n4
 have KW3 := Lib.hid (KW2.out.trans (k5.out.mono KW2.out.size))
 have RZ3 := Lib.hid (RZ2.out.below k5.out RZ2.out.lt)
 have PB3 := Lib.hid (PB2.out.below k5.out PB2.out.lt)
 have RW3 := Lib.hid (RWb.out.ext k5.out)
 have L3 := Lib.hid (L2.out.trans (k5.out.mono L2.out.size))
 have hR5 := Lib.hid (hH.out.1.ext L3.out)
 have T5 : Hid (Blk w5 w3.heap.size 37 (0, 0) [.slice none 0 0, .int .u16 41, .int .u16 (sn : Nat), .int .u32 (tn : Nat), .slice none 0 0, .slice none 0 0, .slice none 0 0, .slice ra rn rc]) := R5
 have hw35 : Hid (w3.heap.size < w5.heap.size) := Lib.hid T5.out.lt
 have hw3 : Hid (w.heap.size < w3.heap.size) := Lib.hid PB2.out.lt
 have hw5 : Hid (w.heap.size < w5.heap.size) := Lib.hid (Nat.lt_trans hw3.out hw35.out)
 have hww5 : Hid (w.heap.size ≤ w5.heap.size) := Lib.hid (Nat.le_of_lt hw5.out)
 have hlm : Hid (Q.length + 1 ≤ 1000000000000 ∧ (Q.length + 1) * 128 ≤ 140737488355328) := Lib.hid (by have h9 := hzn'.out; have h8 := hH.out.1.len; unfold reachBytes at h9; omega)
 clear KW KW2 RZ2 PB2 R5 RWb L1 L2 L3 RZ k5 hl
 go_upto_region 6 with (fail)
 have cs6 : Hid (∀ U : World, Blk U w3.heap.size 37 (0, 0) [.slice none 0 0, .int .u16 41, .int .u16 (sn : Nat), .int .u32 (tn : Nat), .slice none 0 0, .slice none 0 0, .slice none 0 0, .slice ra rn rc] → U.cell? ⟨w3.heap.size, 0, none⟩ = some (.slice none 0 0) ∧ U.cell? ⟨w3.heap.size, 1, none⟩ = some (.int .u16 41) ∧ U.cell? ⟨w3.heap.size, 2, none⟩ = some (.int .u16 (sn : Nat)) ∧ U.cell? ⟨w3.heap.size, 3, none⟩ = some (.int .u32 (tn : Nat)) ∧ U.cell? ⟨w3.heap.size, 4, none⟩ = some (.slice none 0 0) ∧ U.cell? ⟨w3.heap.size, 5, none⟩ = some (.slice none 0 0) ∧ U.cell? ⟨w3.heap.size, 6, none⟩ = some (.slice none 0 0) ∧ U.cell? ⟨w3.heap.size, 7, none⟩ = some (.slice ra rn rc)) := Lib.hid (fun U hB => ⟨(hB.cell 0).trans rfl, (hB.cell 1).trans rfl, (hB.cell 2).trans rfl, (hB.cell 3).trans rfl, (hB.cell 4).trans rfl, (hB.cell 5).trans rfl, (hB.cell 6).trans rfl, (hB.cell 7).trans rfl⟩)
 refine wp_region_noPanic ?_
 refine wp_region_held_drew (S := fun U => U.cell? ⟨w3.heap.size, 0, none⟩ = some (.slice none 0 0) ∧ U.cell? ⟨w3.heap.size, 1, none⟩ = some (.int .u16 41) ∧ U.cell? ⟨w3.heap.size, 2, none⟩ = some (.int .u16 (sn : Nat)) ∧ U.cell? ⟨w3.heap.size, 3, none⟩ = some (.int .u32 (tn : Nat)) ∧ U.cell? ⟨w3.heap.size, 4, none⟩ = some (.slice none 0 0) ∧ U.cell? ⟨w3.heap.size, 5, none⟩ = some (.slice none 0 0) ∧ U.cell? ⟨w3.heap.size, 6, none⟩ = some (.slice none 0 0) ∧ U.cell? ⟨w3.heap.size, 7, none⟩ = some (.slice ra rn rc)) (by kernel_rfl) (cs6.out _ T5.out.drew) (fun hHeld => ?_)
 have L0 : Hid (Below w5.heap.size w5 w5.drew) := Lib.hid (Below.refl _ _).drew
 have PB0 := Lib.hid (PB3.out.below L0.out PB3.out.lt)
 have T60 := Lib.hid (T5.out.below L0.out T5.out.lt)
 have RW0 := Lib.hid (RW3.out.ext L0.out)
 generalize w5.drew = V0 at *
 refine tkz 1 ({ dst := some 27, op := Op.fieldAddr 60 (Operand.tmp 2) 13, type := 0, pos := _, after := #[], guard := none }) ?_ rfl ?_ ?_
 rotate_left
 ·intro w hSw
  go_simp
  first | done | with_reducible rfl
 try simp only [pz0, pz2, pz3, pz4]
 refine tkz 4 ({ dst := some 30, op := Op.load 37 (Operand.tmp 6), type := 37, pos := _, after := #[], guard := none }) ?_ rfl ?_ ?_
 rotate_left
 ·intro w hSw
  go_simp
  first | done | with_reducible rfl
 try simp only [pz0, pz2, pz3, pz4]
 refine wpAnyH_ready (rs := [0, 2, 5]) (by kernel_rfl) (by simp) ?_
 refine arz (qRfM8 _) rfl (fun K hK => ?_) ?_
 ·unfold qRfM8
  go_simp
  obtain ⟨U_1, e1⟩ : ∃ U, V0.alloc (.cells #[] 37) = U := ⟨_, rfl⟩
  have q1 : Hid (Below V0.heap.size V0 U_1) := Lib.hid (by rw [← e1]; exact alloc_bel _ _)
  have a1 : Hid (Own recE U_1 w5.heap.size (.slice (some ⟨V0.heap.size, 0, none⟩) 0 0) []) := Lib.hid (by rw [← e1]; exact (Own.made recE V0 #[] [] 0 rfl rfl (Nat.zero_le _)).mono L0.out.size)
  have L1 := Lib.hid (L0.out.trans ((q1.out).mono L0.out.size))
  have RW1 := Lib.hid (RW0.out.ext q1.out)
  have PB1 := Lib.hid (PB0.out.below q1.out PB0.out.lt)
  have T61 := Lib.hid (T60.out.below q1.out T60.out.lt)
  rw [e1]
  clear e1 q1
  refine hK.out _ _ (cs6.out _ T61.out) (fun hHeld => ?_)
  clear hK K
  try simp only [pz0, pz2, pz3, pz4]
  refine wpAnyH_ready (rs := [2, 5]) (by kernel_rfl) (by simp) ?_
  refine arz (qRfM9 _) rfl (fun K hK => ?_) ?_
  ·unfold qRfM9
   have t2 : U_1.cell? ⟨w.heap.size, 13, none⟩ = some (.slice a lz c) := (PB1.out.cell 13).trans rfl
   go_simp
   clear t2
   refine hK.out _ _ (cs6.out _ T61.out) (fun hHeld => ?_)
   clear hK K
   try simp only [pz0, pz2, pz3, pz4]
   refine wpAnyH_ready (rs := [3, 5]) (by kernel_rfl) (by simp) ?_
   refine arz (qRfM10 _) rfl (fun K hK => ?_) ?_
   ·unfold qRfM10
    obtain ⟨i0, hi7, hq0, hq1, hq2⟩ := info_parts Try.info37
    have hsrc := (hR5.out.ext L1.out).src (P := Try.prog) (tx := 55) Try.underlying55
    refine step_own (E := recE) (l := []) (news := Q) (base := w5.heap.size) (by rfl) (.tmp 26) (.tmp 28) 55 55 (by rfl) Try.underlying55 hi7 hq0 hq1 hq2 rfl (by rfl) a1.out (by rfl) hsrc (by have := hlm.out; simp [maxLen]; omega) (by have := hlm.out; simp; omega) L1.out.size ?_
    intro v9 U_3 ho9 hg _
    rw [List.nil_append] at ho9
    have L3 : Hid (Below w5.heap.size w5 U_3) := Lib.hid (own_below L1.out hg a1.out L1.out.size (Nat.le_refl _))
    have PB3 := Lib.hid (PB1.out.grownV2 hg (fun e => by have e2 := (a1.out.lt _ e.symm).1; have := hw5.out; omega))
    have T63 := Lib.hid (T61.out.grownV2 hg (fun e => by have e2 := (a1.out.lt _ e.symm).1; have := hw35.out; omega))
    have RW3 := Lib.hid (own_grown RW1.out a1.out (by decide) hg)
    obtain ⟨a9, c9, rfl⟩ := ho9.shape
    have V3 := Lib.hid ho9
    clear ho9 hg hsrc hi7 hq0 hq1 hq2
    refine hK.out _ _ (cs6.out _ T63.out) (fun hHeld => ?_)
    clear hK K
    try simp only [pz0, pz2, pz3, pz4]
    refine wpAnyH_ready (rs := [5]) (by kernel_rfl) (by simp) ?_
    refine arz (qRfM11 _) rfl (fun K hK => ?_) AllReadyH.nil
    unfold qRfM11
    go_simp
    obtain ⟨U_4, e4⟩ : ∃ U, U_3.alloc (.cells #[.slice none 0 0, .int .u16 41, .int .u16 (sn : Nat), .int .u32 (tn : Nat), .slice none 0 0, .slice none 0 0, .slice none 0 0, .slice ra rn rc] 37) = U := ⟨_, rfl⟩
    have q4 : Hid (Below U_3.heap.size U_3 U_4) := Lib.hid (by rw [← e4]; exact alloc_bel _ _)
    have b4 : Hid (Blk U_4 U_3.heap.size 37 (0, 0) [.slice none 0 0, .int .u16 41, .int .u16 (sn : Nat), .int .u32 (tn : Nat), .slice none 0 0, .slice none 0 0, .slice none 0 0, .slice ra rn rc]) := Lib.hid (by rw [← e4]; exact Blk.new U_3 37 (0, 0) #[.slice none 0 0, .int .u16 41, .int .u16 (sn : Nat), .int .u32 (tn : Nat), .slice none 0 0, .slice none 0 0, .slice none 0 0, .slice ra rn rc])
    have L4 := Lib.hid (L3.out.trans ((q4.out).mono L3.out.size))
    have V4 := Lib.hid (V3.out.ext q4.out)
    have RW4 := Lib.hid (RW3.out.ext q4.out)
    have PB4 := Lib.hid (PB3.out.below q4.out PB3.out.lt)
    have T64 := Lib.hid (T63.out.below q4.out T63.out.lt)
    rw [e4]
    clear e4 q4
    refine hK.out _ _ (cs6.out _ T64.out) (fun hHeld => ?_)
    clear hK K
    try simp only [pz0, pz2, pz3, pz4]
    refine wpAnyH_ready (rs := [6]) (by kernel_rfl) (by simp) ?_
    refine arz (qRfM12 _) rfl (fun K hK => ?_) AllReadyH.nil
    unfold qRfM12
    obtain ⟨i0, hi7, hq0, hq1, hq2⟩ := info_parts Try.info37
    have hsrc : Src Try.prog recE.k 55 (.slice (some ⟨U_3.heap.size, 0, none⟩) 1 1) 1 (rowOf recE [(⟨none, 0, 0, 41, sn, tn, none, 0, 0, none, 0, 0, none, 0, 0, ra, rn, rc⟩ : RD)]) U_4 := (rd_blk (E := recE) (X := [(⟨none, 0, 0, 41, sn, tn, none, 0, 0, none, 0, 0, none, 0, 0, ra, rn, rc⟩ : RD)]) (fz := (0, 0)) b4.out 1 rfl (by decide)).src (P := Try.prog) (tx := 55) Try.underlying55
    refine step_own (E := recE) (l := Q) (news := [(⟨none, 0, 0, 41, sn, tn, none, 0, 0, none, 0, 0, none, 0, 0, ra, rn, rc⟩ : RD)]) (base := w5.heap.size) (by rfl) (.tmp 29) (.tmp 31) 55 55 (by rfl) Try.underlying55 hi7 hq0 hq1 hq2 rfl (by rfl) V4.out (by rfl) hsrc (by have := hlm.out; simp [maxLen]; omega) (by have := hlm.out; simp; omega) L4.out.size ?_
    intro v8 U_5 ho9 hg _
    have L5 : Hid (Below w5.heap.size w5 U_5) := Lib.hid (own_below L4.out hg V4.out L4.out.size (Nat.le_refl _))
    have PB5 := Lib.hid (PB4.out.grownV2 hg (fun e => by have e2 := (V4.out.lt _ e.symm).1; have := hw5.out; omega))
    have T65 := Lib.hid (T64.out.grownV2 hg (fun e => by have e2 := (V4.out.lt _ e.symm).1; have := hw35.out; omega))
    have RW5 := Lib.hid (own_grown RW4.out V4.out (by decide) hg)
    obtain ⟨a8, c8, rfl⟩ := ho9.shape
    generalize (Q ++ [(⟨none, 0, 0, 41, sn, tn, none, 0, 0, none, 0, 0, none, 0, 0, ra, rn, rc⟩ : RD)]).length = l8 at *
    have Y5 := Lib.hid ho9
    clear ho9 hg hsrc hi7 hq0 hq1 hq2
    refine hK.out _ _ (cs6.out _ T65.out) (fun hHeld => ?_)
    clear hK K
    try simp only [pz0, pz2, pz3, pz4]
    refine tkz 7 (qRfM13 _) ?_ rfl ?_ ?_
    rotate_left
    ·intro w hSw
     unfold qRfM13
     go_simp
     first | done | with_reducible rfl
    try simp only [qRfM13, pz0, pz2, pz3, pz4]
    refine wpAnyH_ready (rs := [8]) (by kernel_rfl) (by simp) ?_
    refine arz (qRfM14 _) rfl (fun K hK => ?_) AllReadyH.nil
    unfold qRfM14
    have t6 : U_5.cell? ⟨w.heap.size, 13, none⟩ = some (.slice a lz c) := (PB5.out.cell 13).trans rfl
    have f6 : U_5.frozen? ⟨w.heap.size, 13, none⟩ = false := by rw [PB5.out.frozen]; try simp
    go_simp
    obtain ⟨U_6, e6⟩ : ∃ U, U_5.setCell ⟨w.heap.size, 13, none⟩ (.slice a8 l8 c8) = U := ⟨_, rfl⟩
    try rw [e6]
    have g6 : U_5.grownBy U_6 (some w.heap.size) := by rw [← e6]; exact grown_set _ _ _ _
    have PB6 : Hid (Blk U_6 w.heap.size 60 (0, 0) [m0, m1, m2, m3, m4, m5, m6, m7, m8, m9, m10, m11, m12, .slice a8 l8 c8]) := Lib.hid (by rw [← e6]; exact PB5.out.set 13 _)
    have Y6 := Lib.hid (own_store (E := recE) Y5.out PB5.out (by decide) g6)
    have RW6 := Lib.hid (own_store (E := byteE) RW5.out PB5.out (by decide) g6)
    have T66 := Lib.hid (T65.out.grownV2 g6 (fun e => by have e2 := Option.some.inj e; have := hw3.out; omega))
    have RZ6 := Lib.hid ((RZ3.out.below L5.out RZ3.out.lt).grownV2 g6 (fun e => by have e2 := Option.some.inj e; have := hl1.out; have := hl2.out; omega))
    have KW6 : Hid (Below w.heap.size w U_6) := Lib.hid ((KW3.out.trans (L5.out.mono KW3.out.size)).grown g6 (Nat.le_trans KW3.out.size L5.out.size) (fun j hj => by cases hj; exact Nat.le_refl _))
    clear t6 f6 e6 g6
    refine hK.out _ _ (cs6.out _ T66.out) (fun hHeld => ?_)
    clear hK K
    refine wpAnyH_done (by kernel_rfl) ?_ _
    refine NoPanic.normal ?_
    clear hHeld
    have hoC : Hid (#[m0, m1, m2, m3, m4, m5, m6, m7, m8, m9, m10, m11, m12, .slice a8 l8 c8].all (·.oneCell') = true) := Lib.hid (by
     have h9 := ho'.out
     simp only [List.all_cons, List.all_nil, Bool.and_eq_true, Bool.and_true, List.all_toArray] at h9 ⊢
     obtain ⟨o0, o1, o2, o3, o4, o5, o6, o7, o8, o9, o10, o11, o12⟩ := h9
     exact ⟨o0, o1, o2, o3, o4, o5, o6, o7, o8, o9, o10, o11, o12, rfl⟩)
    have p0 : U_6.cell? ⟨w.heap.size, 0, none⟩ = some (m0) := (PB6.out.cell 0).trans rfl
    have p1 : U_6.cell? ⟨w.heap.size, 1, none⟩ = some (m1) := (PB6.out.cell 1).trans rfl
    have p2 : U_6.cell? ⟨w.heap.size, 2, none⟩ = some (m2) := (PB6.out.cell 2).trans rfl
    have p3 : U_6.cell? ⟨w.heap.size, 3, none⟩ = some (m3) := (PB6.out.cell 3).trans rfl
    have p4 : U_6.cell? ⟨w.heap.size, 4, none⟩ = some (m4) := (PB6.out.cell 4).trans rfl
    have p5 : U_6.cell? ⟨w.heap.size, 5, none⟩ = some (m5) := (PB6.out.cell 5).trans rfl
    have p6 : U_6.cell? ⟨w.heap.size, 6, none⟩ = some (m6) := (PB6.out.cell 6).trans rfl
    have p7 : U_6.cell? ⟨w.heap.size, 7, none⟩ = some (m7) := (PB6.out.cell 7).trans rfl
    have p8 : U_6.cell? ⟨w.heap.size, 8, none⟩ = some (m8) := (PB6.out.cell 8).trans rfl
    have p9 : U_6.cell? ⟨w.heap.size, 9, none⟩ = some (m9) := (PB6.out.cell 9).trans rfl
    have p10 : U_6.cell? ⟨w.heap.size, 10, none⟩ = some (m10) := (PB6.out.cell 10).trans rfl
    have p11 : U_6.cell? ⟨w.heap.size, 11, none⟩ = some (m11) := (PB6.out.cell 11).trans rfl
    have p12 : U_6.cell? ⟨w.heap.size, 12, none⟩ = some (m12) := (PB6.out.cell 12).trans rfl
    have p13 : U_6.cell? ⟨w.heap.size, 13, none⟩ = some (.slice a8 l8 c8) := (PB6.out.cell 13).trans rfl
    go_wp2_with (refine store_whole rfl 60 (.tmp 4) (.tmp 34) rfl rfl rfl RZ6.out (by rfl) (by kernel_rfl) hoC.out ?_; intro w9 hBx hgx hzx; have R9 := Lib.hid hBx; have g9 := Lib.hid hgx; clear hBx hgx hzx)
    refine bodyPost_ret (results_ct rfl _ rfl R9.out Try.underlying60 rfl (by kernel_rfl)) rfl ?_
    exact ⟨⟨_, rfl, _, _, _, (own_store (E := recE) Y6.out RZ6.out (by decide) g9.out).mono hww5.out, (own_store (E := byteE) RW6.out RZ6.out (by decide) g9.out).mono hwU.out⟩, KW6.out.grown g9.out KW6.out.size (fun j hj => by have e2 := Option.some.inj hj; have := hl1.out; have := hl2.out; omega)⟩
   refine arz (qRfM11 _) rfl (fun K hK => ?_) AllReadyH.nil
   unfold qRfM11
   go_simp
   obtain ⟨U_7, e7⟩ : ∃ U, U_1.alloc (.cells #[.slice none 0 0, .int .u16 41, .int .u16 (sn : Nat), .int .u32 (tn : Nat), .slice none 0 0, .slice none 0 0, .slice none 0 0, .slice ra rn rc] 37) = U := ⟨_, rfl⟩
   have q7 : Hid (Below U_1.heap.size U_1 U_7) := Lib.hid (by rw [← e7]; exact alloc_bel _ _)
   have b7 : Hid (Blk U_7 U_1.heap.size 37 (0, 0) [.slice none 0 0, .int .u16 41, .int .u16 (sn : Nat), .int .u32 (tn : Nat), .slice none 0 0, .slice none 0 0, .slice none 0 0, .slice ra rn rc]) := Lib.hid (by rw [← e7]; exact Blk.new U_1 37 (0, 0) #[.slice none 0 0, .int .u16 41, .int .u16 (sn : Nat), .int .u32 (tn : Nat), .slice none 0 0, .slice none 0 0, .slice none 0 0, .slice ra rn rc])
   have hne : U_1.heap.size ≠ V0.heap.size := Nat.ne_of_gt (a1.out.lt _ rfl).2
   have L7 := Lib.hid (L1.out.trans ((q7.out).mono L1.out.size))
   have A7 := Lib.hid (a1.out.ext q7.out)
   have RW7 := Lib.hid (RW1.out.ext q7.out)
   have PB7 := Lib.hid (PB1.out.below q7.out PB1.out.lt)
   have T67 := Lib.hid (T61.out.below q7.out T61.out.lt)
   rw [e7]
   clear e7 q7
   refine hK.out _ _ (cs6.out _ T67.out) (fun hHeld => ?_)
   clear hK K
   try simp only [pz0, pz2, pz3, pz4]
   refine wpAnyH_ready (rs := [3]) (by kernel_rfl) (by simp) ?_
   refine arz (qRfM10 _) rfl (fun K hK => ?_) AllReadyH.nil
   unfold qRfM10
   obtain ⟨i0, hi7, hq0, hq1, hq2⟩ := info_parts Try.info37
   have hsrc := (hR5.out.ext L7.out).src (P := Try.prog) (tx := 55) Try.underlying55
   refine step_own (E := recE) (l := []) (news := Q) (base := w5.heap.size) (by rfl) (.tmp 26) (.tmp 28) 55 55 (by rfl) Try.underlying55 hi7 hq0 hq1 hq2 rfl (by rfl) A7.out (by rfl) hsrc (by have := hlm.out; simp [maxLen]; omega) (by have := hlm.out; simp; omega) L7.out.size ?_
   intro v9 U_8 ho9 hg _
   rw [List.nil_append] at ho9
   have L8 : Hid (Below w5.heap.size w5 U_8) := Lib.hid (own_below L7.out hg A7.out L7.out.size (Nat.le_refl _))
   have PB8 := Lib.hid (PB7.out.grownV2 hg (fun e => by have e2 := (A7.out.lt _ e.symm).1; have := hw5.out; omega))
   have T68 := Lib.hid (T67.out.grownV2 hg (fun e => by have e2 := (A7.out.lt _ e.symm).1; have := hw35.out; omega))
   have RW8 := Lib.hid (own_grown RW7.out A7.out (by decide) hg)
   have LB8 := Lib.hid (b7.out.grownV2 hg (fun e => hne (Option.some.inj e)))
   obtain ⟨a9, c9, rfl⟩ := ho9.shape
   have V8 := Lib.hid ho9
   clear ho9 hg hsrc hi7 hq0 hq1 hq2
   refine hK.out _ _ (cs6.out _ T68.out) (fun hHeld => ?_)
   clear hK K
   try simp only [pz0, pz2, pz3, pz4]
   refine wpAnyH_ready (rs := [6]) (by kernel_rfl) (by simp) ?_
   refine arz (qRfM12 _) rfl (fun K hK => ?_) AllReadyH.nil
   unfold qRfM12
   obtain ⟨i0, hi7, hq0, hq1, hq2⟩ := info_parts Try.info37
   have hsrc : Src Try.prog recE.k 55 (.slice (some ⟨U_1.heap.size, 0, none⟩) 1 1) 1 (rowOf recE [(⟨none, 0, 0, 41, sn, tn, none, 0, 0, none, 0, 0, none, 0, 0, ra, rn, rc⟩ : RD)]) U_8 := (rd_blk (E := recE) (X := [(⟨none, 0, 0, 41, sn, tn, none, 0, 0, none, 0, 0, none, 0, 0, ra, rn, rc⟩ : RD)]) (fz := (0, 0)) LB8.out 1 rfl (by decide)).src (P := Try.prog) (tx := 55) Try.underlying55
   refine step_own (E := recE) (l := Q) (news := [(⟨none, 0, 0, 41, sn, tn, none, 0, 0, none, 0, 0, none, 0, 0, ra, rn, rc⟩ : RD)]) (base := w5.heap.size) (by rfl) (.tmp 29) (.tmp 31) 55 55 (by rfl) Try.underlying55 hi7 hq0 hq1 hq2 rfl (by rfl) V8.out (by rfl) hsrc (by have := hlm.out; simp [maxLen]; omega) (by have := hlm.out; simp; omega) L8.out.size ?_
   intro v8 U_9 ho9 hg _
   have L9 : Hid (Below w5.heap.size w5 U_9) := Lib.hid (own_below L8.out hg V8.out L8.out.size (Nat.le_refl _))
   have PB9 := Lib.hid (PB8.out.grownV2 hg (fun e => by have e2 := (V8.out.lt _ e.symm).1; have := hw5.out; omega))
   have T69 := Lib.hid (T68.out.grownV2 hg (fun e => by have e2 := (V8.out.lt _ e.symm).1; have := hw35.out; omega))
   have RW9 := Lib.hid (own_grown RW8.out V8.out (by decide) hg)
   obtain ⟨a8, c8, rfl⟩ := ho9.shape
   generalize (Q ++ [(⟨none, 0, 0, 41, sn, tn, none, 0, 0, none, 0, 0, none, 0, 0, ra, rn, rc⟩ : RD)]).length = l8 at *
   have Y9 := Lib.hid ho9
   clear ho9 hg hsrc hi7 hq0 hq1 hq2
   refine hK.out _ _ (cs6.out _ T69.out) (fun hHeld => ?_)
   clear hK K
   try simp only [pz0, pz2, pz3, pz4]
   refine tkz 7 (qRfM13 _) ?_ rfl ?_ ?_
   rotate_left
   ·intro w hSw
    unfold qRfM13
    go_simp
    first | done | with_reducible rfl
   try simp only [qRfM13, pz0, pz2, pz3, pz4]
   refine wpAnyH_ready (rs := [8]) (by kernel_rfl) (by simp) ?_
   refine arz (qRfM14 _) rfl (fun K hK => ?_) AllReadyH.nil
   unfold qRfM14
   have t10 : U_9.cell? ⟨w.heap.size, 13, none⟩ = some (.slice a lz c) := (PB9.out.cell 13).trans rfl
   have f10 : U_9.frozen? ⟨w.heap.size, 13, none⟩ = false := by rw [PB9.out.frozen]; try simp
   go_simp
   obtain ⟨U_10, e10⟩ : ∃ U, U_9.setCell ⟨w.heap.size, 13, none⟩ (.slice a8 l8 c8) = U := ⟨_, rfl⟩
   try rw [e10]
   have g10 : U_9.grownBy U_10 (some w.heap.size) := by rw [← e10]; exact grown_set _ _ _ _
   have PB10 : Hid (Blk U_10 w.heap.size 60 (0, 0) [m0, m1, m2, m3, m4, m5, m6, m7, m8, m9, m10, m11, m12, .slice a8 l8 c8]) := Lib.hid (by rw [← e10]; exact PB9.out.set 13 _)
   have Y10 := Lib.hid (own_store (E := recE) Y9.out PB9.out (by decide) g10)
   have RW10 := Lib.hid (own_store (E := byteE) RW9.out PB9.out (by decide) g10)
   have T610 := Lib.hid (T69.out.grownV2 g10 (fun e => by have e2 := Option.some.inj e; have := hw3.out; omega))
   have RZ10 := Lib.hid ((RZ3.out.below L9.out RZ3.out.lt).grownV2 g10 (fun e => by have e2 := Option.some.inj e; have := hl1.out; have := hl2.out; omega))
   have KW10 : Hid (Below w.heap.size w U_10) := Lib.hid ((KW3.out.trans (L9.out.mono KW3.out.size)).grown g10 (Nat.le_trans KW3.out.size L9.out.size) (fun j hj => by cases hj; exact Nat.le_refl _))
   clear t10 f10 e10 g10
   refine hK.out _ _ (cs6.out _ T610.out) (fun hHeld => ?_)
   clear hK K
   refine wpAnyH_done (by kernel_rfl) ?_ _
   refine NoPanic.normal ?_
   clear hHeld
   have hoC : Hid (#[m0, m1, m2, m3, m4, m5, m6, m7, m8, m9, m10, m11, m12, .slice a8 l8 c8].all (·.oneCell') = true) := Lib.hid (by
    have h9 := ho'.out
    simp only [List.all_cons, List.all_nil, Bool.and_eq_true, Bool.and_true, List.all_toArray] at h9 ⊢
    obtain ⟨o0, o1, o2, o3, o4, o5, o6, o7, o8, o9, o10, o11, o12⟩ := h9
    exact ⟨o0, o1, o2, o3, o4, o5, o6, o7, o8, o9, o10, o11, o12, rfl⟩)
   have p0 : U_10.cell? ⟨w.heap.size, 0, none⟩ = some (m0) := (PB10.out.cell 0).trans rfl
   have p1 : U_10.cell? ⟨w.heap.size, 1, none⟩ = some (m1) := (PB10.out.cell 1).trans rfl
   have p2 : U_10.cell? ⟨w.heap.size, 2, none⟩ = some (m2) := (PB10.out.cell 2).trans rfl
   have p3 : U_10.cell? ⟨w.heap.size, 3, none⟩ = some (m3) := (PB10.out.cell 3).trans rfl
   have p4 : U_10.cell? ⟨w.heap.size, 4, none⟩ = some (m4) := (PB10.out.cell 4).trans rfl
   have p5 : U_10.cell? ⟨w.heap.size, 5, none⟩ = some (m5) := (PB10.out.cell 5).trans rfl
   have p6 : U_10.cell? ⟨w.heap.size, 6, none⟩ = some (m6) := (PB10.out.cell 6).trans rfl
   have p7 : U_10.cell? ⟨w.heap.size, 7, none⟩ = some (m7) := (PB10.out.cell 7).trans rfl
   have p8 : U_10.cell? ⟨w.heap.size, 8, none⟩ = some (m8) := (PB10.out.cell 8).trans rfl
   have p9 : U_10.cell? ⟨w.heap.size, 9, none⟩ = some (m9) := (PB10.out.cell 9).trans rfl
   have p10 : U_10.cell? ⟨w.heap.size, 10, none⟩ = some (m10) := (PB10.out.cell 10).trans rfl
   have p11 : U_10.cell? ⟨w.heap.size, 11, none⟩ = some (m11) := (PB10.out.cell 11).trans rfl
   have p12 : U_10.cell? ⟨w.heap.size, 12, none⟩ = some (m12) := (PB10.out.cell 12).trans rfl
   have p13 : U_10.cell? ⟨w.heap.size, 13, none⟩ = some (.slice a8 l8 c8) := (PB10.out.cell 13).trans rfl
   go_wp2_with (refine store_whole rfl 60 (.tmp 4) (.tmp 34) rfl rfl rfl RZ10.out (by rfl) (by kernel_rfl) hoC.out ?_; intro w9 hBx hgx hzx; have R9 := Lib.hid hBx; have g9 := Lib.hid hgx; clear hBx hgx hzx)
   refine bodyPost_ret (results_ct rfl _ rfl R9.out Try.underlying60 rfl (by kernel_rfl)) rfl ?_
   exact ⟨⟨_, rfl, _, _, _, (own_store (E := recE) Y10.out RZ10.out (by decide) g9.out).mono hww5.out, (own_store (E := byteE) RW10.out RZ10.out (by decide) g9.out).mono hwU.out⟩, KW10.out.grown g9.out KW10.out.size (fun j hj => by have e2 := Option.some.inj hj; have := hl1.out; have := hl2.out; omega)⟩
  refine arz (qRfM11 _) rfl (fun K hK => ?_) AllReadyH.nil
  unfold qRfM11
  go_simp
  obtain ⟨U_11, e11⟩ : ∃ U, U_1.alloc (.cells #[.slice none 0 0, .int .u16 41, .int .u16 (sn : Nat), .int .u32 (tn : Nat), .slice none 0 0, .slice none 0 0, .slice none 0 0, .slice ra rn rc] 37) = U := ⟨_, rfl⟩
  have q11 : Hid (Below U_1.heap.size U_1 U_11) := Lib.hid (by rw [← e11]; exact alloc_bel _ _)
  have b11 : Hid (Blk U_11 U_1.heap.size 37 (0, 0) [.slice none 0 0, .int .u16 41, .int .u16 (sn : Nat), .int .u32 (tn : Nat), .slice none 0 0, .slice none 0 0, .slice none 0 0, .slice ra rn rc]) := Lib.hid (by rw [← e11]; exact Blk.new U_1 37 (0, 0) #[.slice none 0 0, .int .u16 41, .int .u16 (sn : Nat), .int .u32 (tn : Nat), .slice none 0 0, .slice none 0 0, .slice none 0 0, .slice ra rn rc])
  have hne : U_1.heap.size ≠ V0.heap.size := Nat.ne_of_gt (a1.out.lt _ rfl).2
  have L11 := Lib.hid (L1.out.trans ((q11.out).mono L1.out.size))
  have A11 := Lib.hid (a1.out.ext q11.out)
  have RW11 := Lib.hid (RW1.out.ext q11.out)
  have PB11 := Lib.hid (PB1.out.below q11.out PB1.out.lt)
  have T611 := Lib.hid (T61.out.below q11.out T61.out.lt)
  rw [e11]
  clear e11 q11
  refine hK.out _ _ (cs6.out _ T611.out) (fun hHeld => ?_)
  clear hK K
  try simp only [pz0, pz2, pz3, pz4]
  refine wpAnyH_ready (rs := [2]) (by kernel_rfl) (by simp) ?_
  refine arz (qRfM9 _) rfl (fun K hK => ?_) AllReadyH.nil
  unfold qRfM9
  have t12 : U_11.cell? ⟨w.heap.size, 13, none⟩ = some (.slice a lz c) := (PB11.out.cell 13).trans rfl
  go_simp
  clear t12
  refine hK.out _ _ (cs6.out _ T611.out) (fun hHeld => ?_)
  clear hK K
  try simp only [pz0, pz2, pz3, pz4]
  refine wpAnyH_ready (rs := [3]) (by kernel_rfl) (by simp) ?_
  refine arz (qRfM10 _) rfl (fun K hK => ?_) AllReadyH.nil
  unfold qRfM10
  obtain ⟨i0, hi7, hq0, hq1, hq2⟩ := info_parts Try.info37
  have hsrc := (hR5.out.ext L11.out).src (P := Try.prog) (tx := 55) Try.underlying55
  refine step_own (E := recE) (l := []) (news := Q) (base := w5.heap.size) (by rfl) (.tmp 26) (.tmp 28) 55 55 (by rfl) Try.underlying55 hi7 hq0 hq1 hq2 rfl (by rfl) A11.out (by rfl) hsrc (by have := hlm.out; simp [maxLen]; omega) (by have := hlm.out; simp; omega) L11.out.size ?_
  intro v9 U_13 ho9 hg _
  rw [List.nil_append] at ho9
  have L13 : Hid (Below w5.heap.size w5 U_13) := Lib.hid (own_below L11.out hg A11.out L11.out.size (Nat.le_refl _))
  have PB13 := Lib.hid (PB11.out.grownV2 hg (fun e => by have e2 := (A11.out.lt _ e.symm).1; have := hw5.out; omega))
  have T613 := Lib.hid (T611.out.grownV2 hg (fun e => by have e2 := (A11.out.lt _ e.symm).1; have := hw35.out; omega))
  have RW13 := Lib.hid (own_grown RW11.out A11.out (by decide) hg)
  have LB13 := Lib.hid (b11.out.grownV2 hg (fun e => hne (Option.some.inj e)))
  obtain ⟨a9, c9, rfl⟩ := ho9.shape
  have V13 := Lib.hid ho9
  clear ho9 hg hsrc hi7 hq0 hq1 hq2
  refine hK.out _ _ (cs6.out _ T613.out) (fun hHeld => ?_)
  clear hK K
  try simp only [pz0, pz2, pz3, pz4]
  refine wpAnyH_ready (rs := [6]) (by kernel_rfl) (by simp) ?_
  refine arz (qRfM12 _) rfl (fun K hK => ?_) AllReadyH.nil
  unfold qRfM12
  obtain ⟨i0, hi7, hq0, hq1, hq2⟩ := info_parts Try.info37
  have hsrc : Src Try.prog recE.k 55 (.slice (some ⟨U_1.heap.size, 0, none⟩) 1 1) 1 (rowOf recE [(⟨none, 0, 0, 41, sn, tn, none, 0, 0, none, 0, 0, none, 0, 0, ra, rn, rc⟩ : RD)]) U_13 := (rd_blk (E := recE) (X := [(⟨none, 0, 0, 41, sn, tn, none, 0, 0, none, 0, 0, none, 0, 0, ra, rn, rc⟩ : RD)]) (fz := (0, 0)) LB13.out 1 rfl (by decide)).src (P := Try.prog) (tx := 55) Try.underlying55
  refine step_own (E := recE) (l := Q) (news := [(⟨none, 0, 0, 41, sn, tn, none, 0, 0, none, 0, 0, none, 0, 0, ra, rn, rc⟩ : RD)]) (base := w5.heap.size) (by rfl) (.tmp 29) (.tmp 31) 55 55 (by rfl) Try.underlying55 hi7 hq0 hq1 hq2 rfl (by rfl) V13.out (by rfl) hsrc (by have := hlm.out; simp [maxLen]; omega) (by have := hlm.out; simp; omega) L13.out.size ?_
  intro v8 U_14 ho9 hg _
  have L14 : Hid (Below w5.heap.size w5 U_14) := Lib.hid (own_below L13.out hg V13.out L13.out.size (Nat.le_refl _))
  have PB14 := Lib.hid (PB13.out.grownV2 hg (fun e => by have e2 := (V13.out.lt _ e.symm).1; have := hw5.out; omega))
  have T614 := Lib.hid (T613.out.grownV2 hg (fun e => by have e2 := (V13.out.lt _ e.symm).1; have := hw35.out; omega))
  have RW14 := Lib.hid (own_grown RW13.out V13.out (by decide) hg)
  obtain ⟨a8, c8, rfl⟩ := ho9.shape
  generalize (Q ++ [(⟨none, 0, 0, 41, sn, tn, none, 0, 0, none, 0, 0, none, 0, 0, ra, rn, rc⟩ : RD)]).length = l8 at *
  have Y14 := Lib.hid ho9
  clear ho9 hg hsrc hi7 hq0 hq1 hq2
  refine hK.out _ _ (cs6.out _ T614.out) (fun hHeld => ?_)
  clear hK K
  try simp only [pz0, pz2, pz3, pz4]
  refine tkz 7 (qRfM13 _) ?_ rfl ?_ ?_
  rotate_left
  ·intro w hSw
   unfold qRfM13
   go_simp
   first | done | with_reducible rfl
  try simp only [qRfM13, pz0, pz2, pz3, pz4]
  refine wpAnyH_ready (rs := [8]) (by kernel_rfl) (by simp) ?_
  refine arz (qRfM14 _) rfl (fun K hK => ?_) AllReadyH.nil
  unfold qRfM14
  have t15 : U_14.cell? ⟨w.heap.size, 13, none⟩ = some (.slice a lz c) := (PB14.out.cell 13).trans rfl
  have f15 : U_14.frozen? ⟨w.heap.size, 13, none⟩ = false := by rw [PB14.out.frozen]; try simp
  go_simp
  obtain ⟨U_15, e15⟩ : ∃ U, U_14.setCell ⟨w.heap.size, 13, none⟩ (.slice a8 l8 c8) = U := ⟨_, rfl⟩
  try rw [e15]
  have g15 : U_14.grownBy U_15 (some w.heap.size) := by rw [← e15]; exact grown_set _ _ _ _
  have PB15 : Hid (Blk U_15 w.heap.size 60 (0, 0) [m0, m1, m2, m3, m4, m5, m6, m7, m8, m9, m10, m11, m12, .slice a8 l8 c8]) := Lib.hid (by rw [← e15]; exact PB14.out.set 13 _)
  have Y15 := Lib.hid (own_store (E := recE) Y14.out PB14.out (by decide) g15)
  have RW15 := Lib.hid (own_store (E := byteE) RW14.out PB14.out (by decide) g15)
  have T615 := Lib.hid (T614.out.grownV2 g15 (fun e => by have e2 := Option.some.inj e; have := hw3.out; omega))
  have RZ15 := Lib.hid ((RZ3.out.below L14.out RZ3.out.lt).grownV2 g15 (fun e => by have e2 := Option.some.inj e; have := hl1.out; have := hl2.out; omega))
  have KW15 : Hid (Below w.heap.size w U_15) := Lib.hid ((KW3.out.trans (L14.out.mono KW3.out.size)).grown g15 (Nat.le_trans KW3.out.size L14.out.size) (fun j hj => by cases hj; exact Nat.le_refl _))
  clear t15 f15 e15 g15
  refine hK.out _ _ (cs6.out _ T615.out) (fun hHeld => ?_)
  clear hK K
  refine wpAnyH_done (by kernel_rfl) ?_ _
  refine NoPanic.normal ?_
  clear hHeld
  have hoC : Hid (#[m0, m1, m2, m3, m4, m5, m6, m7, m8, m9, m10, m11, m12, .slice a8 l8 c8].all (·.oneCell') = true) := Lib.hid (by
   have h9 := ho'.out
   simp only [List.all_cons, List.all_nil, Bool.and_eq_true, Bool.and_true, List.all_toArray] at h9 ⊢
   obtain ⟨o0, o1, o2, o3, o4, o5, o6, o7, o8, o9, o10, o11, o12⟩ := h9
   exact ⟨o0, o1, o2, o3, o4, o5, o6, o7, o8, o9, o10, o11, o12, rfl⟩)
  have p0 : U_15.cell? ⟨w.heap.size, 0, none⟩ = some (m0) := (PB15.out.cell 0).trans rfl
  have p1 : U_15.cell? ⟨w.heap.size, 1, none⟩ = some (m1) := (PB15.out.cell 1).trans rfl
  have p2 : U_15.cell? ⟨w.heap.size, 2, none⟩ = some (m2) := (PB15.out.cell 2).trans rfl
  have p3 : U_15.cell? ⟨w.heap.size, 3, none⟩ = some (m3) := (PB15.out.cell 3).trans rfl
  have p4 : U_15.cell? ⟨w.heap.size, 4, none⟩ = some (m4) := (PB15.out.cell 4).trans rfl
  have p5 : U_15.cell? ⟨w.heap.size, 5, none⟩ = some (m5) := (PB15.out.cell 5).trans rfl
  have p6 : U_15.cell? ⟨w.heap.size, 6, none⟩ = some (m6) := (PB15.out.cell 6).trans rfl
  have p7 : U_15.cell? ⟨w.heap.size, 7, none⟩ = some (m7) := (PB15.out.cell 7).trans rfl
  have p8 : U_15.cell? ⟨w.heap.size, 8, none⟩ = some (m8) := (PB15.out.cell 8).trans rfl
  have p9 : U_15.cell? ⟨w.heap.size, 9, none⟩ = some (m9) := (PB15.out.cell 9).trans rfl
  have p10 : U_15.cell? ⟨w.heap.size, 10, none⟩ = some (m10) := (PB15.out.cell 10).trans rfl
  have p11 : U_15.cell? ⟨w.heap.size, 11, none⟩ = some (m11) := (PB15.out.cell 11).trans rfl
  have p12 : U_15.cell? ⟨w.heap.size, 12, none⟩ = some (m12) := (PB15.out.cell 12).trans rfl
  have p13 : U_15.cell? ⟨w.heap.size, 13, none⟩ = some (.slice a8 l8 c8) := (PB15.out.cell 13).trans rfl
  go_wp2_with (refine store_whole rfl 60 (.tmp 4) (.tmp 34) rfl rfl rfl RZ15.out (by rfl) (by kernel_rfl) hoC.out ?_; intro w9 hBx hgx hzx; have R9 := Lib.hid hBx; have g9 := Lib.hid hgx; clear hBx hgx hzx)
  refine bodyPost_ret (results_ct rfl _ rfl R9.out Try.underlying60 rfl (by kernel_rfl)) rfl ?_
  exact ⟨⟨_, rfl, _, _, _, (own_store (E := recE) Y15.out RZ15.out (by decide) g9.out).mono hww5.out, (own_store (E := byteE) RW15.out RZ15.out (by decide) g9.out).mono hwU.out⟩, KW15.out.grown g9.out KW15.out.size (fun j hj => by have e2 := Option.some.inj hj; have := hl1.out; have := hl2.out; omega)⟩
 refine arz (qRfM9 _) rfl (fun K hK => ?_) ?_
 ·unfold qRfM9
  have t16 : V0.cell? ⟨w.heap.size, 13, none⟩ = some (.slice a lz c) := (PB0.out.cell 13).trans rfl
  go_simp
  clear t16
  refine hK.out _ _ (cs6.out _ T60.out) (fun hHeld => ?_)
  clear hK K
  try simp only [pz0, pz2, pz3, pz4]
  refine wpAnyH_ready (rs := [0, 5]) (by kernel_rfl) (by simp) ?_
  refine arz (qRfM8 _) rfl (fun K hK => ?_) ?_
  ·unfold qRfM8
   go_simp
   obtain ⟨U_17, e17⟩ : ∃ U, V0.alloc (.cells #[] 37) = U := ⟨_, rfl⟩
   have q17 : Hid (Below V0.heap.size V0 U_17) := Lib.hid (by rw [← e17]; exact alloc_bel _ _)
   have a17 : Hid (Own recE U_17 w5.heap.size (.slice (some ⟨V0.heap.size, 0, none⟩) 0 0) []) := Lib.hid (by rw [← e17]; exact (Own.made recE V0 #[] [] 0 rfl rfl (Nat.zero_le _)).mono L0.out.size)
   have L17 := Lib.hid (L0.out.trans ((q17.out).mono L0.out.size))
   have RW17 := Lib.hid (RW0.out.ext q17.out)
   have PB17 := Lib.hid (PB0.out.below q17.out PB0.out.lt)
   have T617 := Lib.hid (T60.out.below q17.out T60.out.lt)
   rw [e17]
   clear e17 q17
   refine hK.out _ _ (cs6.out _ T617.out) (fun hHeld => ?_)
   clear hK K
   try simp only [pz0, pz2, pz3, pz4]
   refine wpAnyH_ready (rs := [3, 5]) (by kernel_rfl) (by simp) ?_
   refine arz (qRfM10 _) rfl (fun K hK => ?_) ?_
   ·unfold qRfM10
    obtain ⟨i0, hi7, hq0, hq1, hq2⟩ := info_parts Try.info37
    have hsrc := (hR5.out.ext L17.out).src (P := Try.prog) (tx := 55) Try.underlying55
    refine step_own (E := recE) (l := []) (news := Q) (base := w5.heap.size) (by rfl) (.tmp 26) (.tmp 28) 55 55 (by rfl) Try.underlying55 hi7 hq0 hq1 hq2 rfl (by rfl) a17.out (by rfl) hsrc (by have := hlm.out; simp [maxLen]; omega) (by have := hlm.out; simp; omega) L17.out.size ?_
    intro v9 U_18 ho9 hg _
    rw [List.nil_append] at ho9
    have L18 : Hid (Below w5.heap.size w5 U_18) := Lib.hid (own_below L17.out hg a17.out L17.out.size (Nat.le_refl _))
    have PB18 := Lib.hid (PB17.out.grownV2 hg (fun e => by have e2 := (a17.out.lt _ e.symm).1; have := hw5.out; omega))
    have T618 := Lib.hid (T617.out.grownV2 hg (fun e => by have e2 := (a17.out.lt _ e.symm).1; have := hw35.out; omega))
    have RW18 := Lib.hid (own_grown RW17.out a17.out (by decide) hg)
    obtain ⟨a9, c9, rfl⟩ := ho9.shape
    have V18 := Lib.hid ho9
    clear ho9 hg hsrc hi7 hq0 hq1 hq2
    refine hK.out _ _ (cs6.out _ T618.out) (fun hHeld => ?_)
    clear hK K
    try simp only [pz0, pz2, pz3, pz4]
    refine wpAnyH_ready (rs := [5]) (by kernel_rfl) (by simp) ?_
    refine arz (qRfM11 _) rfl (fun K hK => ?_) AllReadyH.nil
    unfold qRfM11
    go_simp
    obtain ⟨U_19, e19⟩ : ∃ U, U_18.alloc (.cells #[.slice none 0 0, .int .u16 41, .int .u16 (sn : Nat), .int .u32 (tn : Nat), .slice none 0 0, .slice none 0 0, .slice none 0 0, .slice ra rn rc] 37) = U := ⟨_, rfl⟩
    have q19 : Hid (Below U_18.heap.size U_18 U_19) := Lib.hid (by rw [← e19]; exact alloc_bel _ _)
    have b19 : Hid (Blk U_19 U_18.heap.size 37 (0, 0) [.slice none 0 0, .int .u16 41, .int .u16 (sn : Nat), .int .u32 (tn : Nat), .slice none 0 0, .slice none 0 0, .slice none 0 0, .slice ra rn rc]) := Lib.hid (by rw [← e19]; exact Blk.new U_18 37 (0, 0) #[.slice none 0 0, .int .u16 41, .int .u16 (sn : Nat), .int .u32 (tn : Nat), .slice none 0 0, .slice none 0 0, .slice none 0 0, .slice ra rn rc])
    have L19 := Lib.hid (L18.out.trans ((q19.out).mono L18.out.size))
    have V19 := Lib.hid (V18.out.ext q19.out)
    have RW19 := Lib.hid (RW18.out.ext q19.out)
    have PB19 := Lib.hid (PB18.out.below q19.out PB18.out.lt)
    have T619 := Lib.hid (T618.out.below q19.out T618.out.lt)
    rw [e19]
    clear e19 q19
    refine hK.out _ _ (cs6.out _ T619.out) (fun hHeld => ?_)
    clear hK K
    try simp only [pz0, pz2, pz3, pz4]
    refine wpAnyH_ready (rs := [6]) (by kernel_rfl) (by simp) ?_
    refine arz (qRfM12 _) rfl (fun K hK => ?_) AllReadyH.nil
    unfold qRfM12
    obtain ⟨i0, hi7, hq0, hq1, hq2⟩ := info_parts Try.info37
    have hsrc : Src Try.prog recE.k 55 (.slice (some ⟨U_18.heap.size, 0, none⟩) 1 1) 1 (rowOf recE [(⟨none, 0, 0, 41, sn, tn, none, 0, 0, none, 0, 0, none, 0, 0, ra, rn, rc⟩ : RD)]) U_19 := (rd_blk (E := recE) (X := [(⟨none, 0, 0, 41, sn, tn, none, 0, 0, none, 0, 0, none, 0, 0, ra, rn, rc⟩ : RD)]) (fz := (0, 0)) b19.out 1 rfl (by decide)).src (P := Try.prog) (tx := 55) Try.underlying55
    refine step_own (E := recE) (l := Q) (news := [(⟨none, 0, 0, 41, sn, tn, none, 0, 0, none, 0, 0, none, 0, 0, ra, rn, rc⟩ : RD)]) (base := w5.heap.size) (by rfl) (.tmp 29) (.tmp 31) 55 55 (by rfl) Try.underlying55 hi7 hq0 hq1 hq2 rfl (by rfl) V19.out (by rfl) hsrc (by have := hlm.out; simp [maxLen]; omega) (by have := hlm.out; simp; omega) L19.out.size ?_
    intro v8 U_20 ho9 hg _
    have L20 : Hid (Below w5.heap.size w5 U_20) := Lib.hid (own_below L19.out hg V19.out L19.out.size (Nat.le_refl _))
    have PB20 := Lib.hid (PB19.out.grownV2 hg (fun e => by have e2 := (V19.out.lt _ e.symm).1; have := hw5.out; omega))
    have T620 := Lib.hid (T619.out.grownV2 hg (fun e => by have e2 := (V19.out.lt _ e.symm).1; have := hw35.out; omega))
    have RW20 := Lib.hid (own_grown RW19.out V19.out (by decide) hg)
    obtain ⟨a8, c8, rfl⟩ := ho9.shape
    generalize (Q ++ [(⟨none, 0, 0, 41, sn, tn, none, 0, 0, none, 0, 0, none, 0, 0, ra, rn, rc⟩ : RD)]).length = l8 at *
    have Y20 := Lib.hid ho9
    clear ho9 hg hsrc hi7 hq0 hq1 hq2
    refine hK.out _ _ (cs6.out _ T620.out) (fun hHeld => ?_)
    clear hK K
    try simp only [pz0, pz2, pz3, pz4]
    refine tkz 7 (qRfM13 _) ?_ rfl ?_ ?_
    rotate_left
    ·intro w hSw
     unfold qRfM13
     go_simp
     first | done | with_reducible rfl
    try simp only [qRfM13, pz0, pz2, pz3, pz4]
    refine wpAnyH_ready (rs := [8]) (by kernel_rfl) (by simp) ?_
    refine arz (qRfM14 _) rfl (fun K hK => ?_) AllReadyH.nil
    unfold qRfM14
    have t21 : U_20.cell? ⟨w.heap.size, 13, none⟩ = some (.slice a lz c) := (PB20.out.cell 13).trans rfl
    have f21 : U_20.frozen? ⟨w.heap.size, 13, none⟩ = false := by rw [PB20.out.frozen]; try simp
    go_simp
    obtain ⟨U_21, e21⟩ : ∃ U, U_20.setCell ⟨w.heap.size, 13, none⟩ (.slice a8 l8 c8) = U := ⟨_, rfl⟩
    try rw [e21]
    have g21 : U_20.grownBy U_21 (some w.heap.size) := by rw [← e21]; exact grown_set _ _ _ _
    have PB21 : Hid (Blk U_21 w.heap.size 60 (0, 0) [m0, m1, m2, m3, m4, m5, m6, m7, m8, m9, m10, m11, m12, .slice a8 l8 c8]) := Lib.hid (by rw [← e21]; exact PB20.out.set 13 _)
    have Y21 := Lib.hid (own_store (E := recE) Y20.out PB20.out (by decide) g21)
    have RW21 := Lib.hid (own_store (E := byteE) RW20.out PB20.out (by decide) g21)
    have T621 := Lib.hid (T620.out.grownV2 g21 (fun e => by have e2 := Option.some.inj e; have := hw3.out; omega))
    have RZ21 := Lib.hid ((RZ3.out.below L20.out RZ3.out.lt).grownV2 g21 (fun e => by have e2 := Option.some.inj e; have := hl1.out; have := hl2.out; omega))
    have KW21 : Hid (Below w.heap.size w U_21) := Lib.hid ((KW3.out.trans (L20.out.mono KW3.out.size)).grown g21 (Nat.le_trans KW3.out.size L20.out.size) (fun j hj => by cases hj; exact Nat.le_refl _))
    clear t21 f21 e21 g21
    refine hK.out _ _ (cs6.out _ T621.out) (fun hHeld => ?_)
    clear hK K
    refine wpAnyH_done (by kernel_rfl) ?_ _
    refine NoPanic.normal ?_
    clear hHeld
    have hoC : Hid (#[m0, m1, m2, m3, m4, m5, m6, m7, m8, m9, m10, m11, m12, .slice a8 l8 c8].all (·.oneCell') = true) := Lib.hid (by
     have h9 := ho'.out
     simp only [List.all_cons, List.all_nil, Bool.and_eq_true, Bool.and_true, List.all_toArray] at h9 ⊢
     obtain ⟨o0, o1, o2, o3, o4, o5, o6, o7, o8, o9, o10, o11, o12⟩ := h9
     exact ⟨o0, o1, o2, o3, o4, o5, o6, o7, o8, o9, o10, o11, o12, rfl⟩)
    have p0 : U_21.cell? ⟨w.heap.size, 0, none⟩ = some (m0) := (PB21.out.cell 0).trans rfl
    have p1 : U_21.cell? ⟨w.heap.size, 1, none⟩ = some (m1) := (PB21.out.cell 1).trans rfl
    have p2 : U_21.cell? ⟨w.heap.size, 2, none⟩ = some (m2) := (PB21.out.cell 2).trans rfl
    have p3 : U_21.cell? ⟨w.heap.size, 3, none⟩ = some (m3) := (PB21.out.cell 3).trans rfl
    have p4 : U_21.cell? ⟨w.heap.size, 4, none⟩ = some (m4) := (PB21.out.cell 4).trans rfl
    have p5 : U_21.cell? ⟨w.heap.size, 5, none⟩ = some (m5) := (PB21.out.cell 5).trans rfl
    have p6 : U_21.cell? ⟨w.heap.size, 6, none⟩ = some (m6) := (PB21.out.cell 6).trans rfl
    have p7 : U_21.cell? ⟨w.heap.size, 7, none⟩ = some (m7) := (PB21.out.cell 7).trans rfl
    have p8 : U_21.cell? ⟨w.heap.size, 8, none⟩ = some (m8) := (PB21.out.cell 8).trans rfl
    have p9 : U_21.cell? ⟨w.heap.size, 9, none⟩ = some (m9) := (PB21.out.cell 9).trans rfl
    have p10 : U_21.cell? ⟨w.heap.size, 10, none⟩ = some (m10) := (PB21.out.cell 10).trans rfl
    have p11 : U_21.cell? ⟨w.heap.size, 11, none⟩ = some (m11) := (PB21.out.cell 11).trans rfl
    have p12 : U_21.cell? ⟨w.heap.size, 12, none⟩ = some (m12) := (PB21.out.cell 12).trans rfl
    have p13 : U_21.cell? ⟨w.heap.size, 13, none⟩ = some (.slice a8 l8 c8) := (PB21.out.cell 13).trans rfl
    go_wp2_with (refine store_whole rfl 60 (.tmp 4) (.tmp 34) rfl rfl rfl RZ21.out (by rfl) (by kernel_rfl) hoC.out ?_; intro w9 hBx hgx hzx; have R9 := Lib.hid hBx; have g9 := Lib.hid hgx; clear hBx hgx hzx)
    refine bodyPost_ret (results_ct rfl _ rfl R9.out Try.underlying60 rfl (by kernel_rfl)) rfl ?_
    exact ⟨⟨_, rfl, _, _, _, (own_store (E := recE) Y21.out RZ21.out (by decide) g9.out).mono hww5.out, (own_store (E := byteE) RW21.out RZ21.out (by decide) g9.out).mono hwU.out⟩, KW21.out.grown g9.out KW21.out.size (fun j hj => by have e2 := Option.some.inj hj; have := hl1.out; have := hl2.out; omega)⟩
   refine arz (qRfM11 _) rfl (fun K hK => ?_) AllReadyH.nil
   unfold qRfM11
   go_simp
   obtain ⟨U_22, e22⟩ : ∃ U, U_17.alloc (.cells #[.slice none 0 0, .int .u16 41, .int .u16 (sn : Nat), .int .u32 (tn : Nat), .slice none 0 0, .slice none 0 0, .slice none 0 0, .slice ra rn rc] 37) = U := ⟨_, rfl⟩
   have q22 : Hid (Below U_17.heap.size U_17 U_22) := Lib.hid (by rw [← e22]; exact alloc_bel _ _)
   have b22 : Hid (Blk U_22 U_17.heap.size 37 (0, 0) [.slice none 0 0, .int .u16 41, .int .u16 (sn : Nat), .int .u32 (tn : Nat), .slice none 0 0, .slice none 0 0, .slice none 0 0, .slice ra rn rc]) := Lib.hid (by rw [← e22]; exact Blk.new U_17 37 (0, 0) #[.slice none 0 0, .int .u16 41, .int .u16 (sn : Nat), .int .u32 (tn : Nat), .slice none 0 0, .slice none 0 0, .slice none 0 0, .slice ra rn rc])
   have hne : U_17.heap.size ≠ V0.heap.size := Nat.ne_of_gt (a17.out.lt _ rfl).2
   have L22 := Lib.hid (L17.out.trans ((q22.out).mono L17.out.size))
   have A22 := Lib.hid (a17.out.ext q22.out)
   have RW22 := Lib.hid (RW17.out.ext q22.out)
   have PB22 := Lib.hid (PB17.out.below q22.out PB17.out.lt)
   have T622 := Lib.hid (T617.out.below q22.out T617.out.lt)
   rw [e22]
   clear e22 q22
   refine hK.out _ _ (cs6.out _ T622.out) (fun hHeld => ?_)
   clear hK K
   try simp only [pz0, pz2, pz3, pz4]
   refine wpAnyH_ready (rs := [3]) (by kernel_rfl) (by simp) ?_
   refine arz (qRfM10 _) rfl (fun K hK => ?_) AllReadyH.nil
   unfold qRfM10
   obtain ⟨i0, hi7, hq0, hq1, hq2⟩ := info_parts Try.info37
   have hsrc := (hR5.out.ext L22.out).src (P := Try.prog) (tx := 55) Try.underlying55
   refine step_own (E := recE) (l := []) (news := Q) (base := w5.heap.size) (by rfl) (.tmp 26) (.tmp 28) 55 55 (by rfl) Try.underlying55 hi7 hq0 hq1 hq2 rfl (by rfl) A22.out (by rfl) hsrc (by have := hlm.out; simp [maxLen]; omega) (by have := hlm.out; simp; omega) L22.out.size ?_
   intro v9 U_23 ho9 hg _
   rw [List.nil_append] at ho9
   have L23 : Hid (Below w5.heap.size w5 U_23) := Lib.hid (own_below L22.out hg A22.out L22.out.size (Nat.le_refl _))
   have PB23 := Lib.hid (PB22.out.grownV2 hg (fun e => by have e2 := (A22.out.lt _ e.symm).1; have := hw5.out; omega))
   have T623 := Lib.hid (T622.out.grownV2 hg (fun e => by have e2 := (A22.out.lt _ e.symm).1; have := hw35.out; omega))
   have RW23 := Lib.hid (own_grown RW22.out A22.out (by decide) hg)
   have LB23 := Lib.hid (b22.out.grownV2 hg (fun e => hne (Option.some.inj e)))
   obtain ⟨a9, c9, rfl⟩ := ho9.shape
   have V23 := Lib.hid ho9
   clear ho9 hg hsrc hi7 hq0 hq1 hq2
   refine hK.out _ _ (cs6.out _ T623.out) (fun hHeld => ?_)
   clear hK K
   try simp only [pz0, pz2, pz3, pz4]
   refine wpAnyH_ready (rs := [6]) (by kernel_rfl) (by simp) ?_
   refine arz (qRfM12 _) rfl (fun K hK => ?_) AllReadyH.nil
   unfold qRfM12
   obtain ⟨i0, hi7, hq0, hq1, hq2⟩ := info_parts Try.info37
   have hsrc : Src Try.prog recE.k 55 (.slice (some ⟨U_17.heap.size, 0, none⟩) 1 1) 1 (rowOf recE [(⟨none, 0, 0, 41, sn, tn, none, 0, 0, none, 0, 0, none, 0, 0, ra, rn, rc⟩ : RD)]) U_23 := (rd_blk (E := recE) (X := [(⟨none, 0, 0, 41, sn, tn, none, 0, 0, none, 0, 0, none, 0, 0, ra, rn, rc⟩ : RD)]) (fz := (0, 0)) LB23.out 1 rfl (by decide)).src (P := Try.prog) (tx := 55) Try.underlying55
   refine step_own (E := recE) (l := Q) (news := [(⟨none, 0, 0, 41, sn, tn, none, 0, 0, none, 0, 0, none, 0, 0, ra, rn, rc⟩ : RD)]) (base := w5.heap.size) (by rfl) (.tmp 29) (.tmp 31) 55 55 (by rfl) Try.underlying55 hi7 hq0 hq1 hq2 rfl (by rfl) V23.out (by rfl) hsrc (by have := hlm.out; simp [maxLen]; omega) (by have := hlm.out; simp; omega) L23.out.size ?_
   intro v8 U_24 ho9 hg _
   have L24 : Hid (Below w5.heap.size w5 U_24) := Lib.hid (own_below L23.out hg V23.out L23.out.size (Nat.le_refl _))
   have PB24 := Lib.hid (PB23.out.grownV2 hg (fun e => by have e2 := (V23.out.lt _ e.symm).1; have := hw5.out; omega))
   have T624 := Lib.hid (T623.out.grownV2 hg (fun e => by have e2 := (V23.out.lt _ e.symm).1; have := hw35.out; omega))
   have RW24 := Lib.hid (own_grown RW23.out V23.out (by decide) hg)
   obtain ⟨a8, c8, rfl⟩ := ho9.shape
   generalize (Q ++ [(⟨none, 0, 0, 41, sn, tn, none, 0, 0, none, 0, 0, none, 0, 0, ra, rn, rc⟩ : RD)]).length = l8 at *
   have Y24 := Lib.hid ho9
   clear ho9 hg hsrc hi7 hq0 hq1 hq2
   refine hK.out _ _ (cs6.out _ T624.out) (fun hHeld => ?_)
   clear hK K
   try simp only [pz0, pz2, pz3, pz4]
   refine tkz 7 (qRfM13 _) ?_ rfl ?_ ?_
   rotate_left
   ·intro w hSw
    unfold qRfM13
    go_simp
    first | done | with_reducible rfl
   try simp only [qRfM13, pz0, pz2, pz3, pz4]
   refine wpAnyH_ready (rs := [8]) (by kernel_rfl) (by simp) ?_
   refine arz (qRfM14 _) rfl (fun K hK => ?_) AllReadyH.nil
   unfold qRfM14
   have t25 : U_24.cell? ⟨w.heap.size, 13, none⟩ = some (.slice a lz c) := (PB24.out.cell 13).trans rfl
   have f25 : U_24.frozen? ⟨w.heap.size, 13, none⟩ = false := by rw [PB24.out.frozen]; try simp
   go_simp
   obtain ⟨U_25, e25⟩ : ∃ U, U_24.setCell ⟨w.heap.size, 13, none⟩ (.slice a8 l8 c8) = U := ⟨_, rfl⟩
   try rw [e25]
   have g25 : U_24.grownBy U_25 (some w.heap.size) := by rw [← e25]; exact grown_set _ _ _ _
   have PB25 : Hid (Blk U_25 w.heap.size 60 (0, 0) [m0, m1, m2, m3, m4, m5, m6, m7, m8, m9, m10, m11, m12, .slice a8 l8 c8]) := Lib.hid (by rw [← e25]; exact PB24.out.set 13 _)
   have Y25 := Lib.hid (own_store (E := recE) Y24.out PB24.out (by decide) g25)
   have RW25 := Lib.hid (own_store (E := byteE) RW24.out PB24.out (by decide) g25)
   have T625 := Lib.hid (T624.out.grownV2 g25 (fun e => by have e2 := Option.some.inj e; have := hw3.out; omega))
   have RZ25 := Lib.hid ((RZ3.out.below L24.out RZ3.out.lt).grownV2 g25 (fun e => by have e2 := Option.some.inj e; have := hl1.out; have := hl2.out; omega))
   have KW25 : Hid (Below w.heap.size w U_25) := Lib.hid ((KW3.out.trans (L24.out.mono KW3.out.size)).grown g25 (Nat.le_trans KW3.out.size L24.out.size) (fun j hj => by cases hj; exact Nat.le_refl _))
   clear t25 f25 e25 g25
   refine hK.out _ _ (cs6.out _ T625.out) (fun hHeld => ?_)
   clear hK K
   refine wpAnyH_done (by kernel_rfl) ?_ _
   refine NoPanic.normal ?_
   clear hHeld
   have hoC : Hid (#[m0, m1, m2, m3, m4, m5, m6, m7, m8, m9, m10, m11, m12, .slice a8 l8 c8].all (·.oneCell') = true) := Lib.hid (by
    have h9 := ho'.out
    simp only [List.all_cons, List.all_nil, Bool.and_eq_true, Bool.and_true, List.all_toArray] at h9 ⊢
    obtain ⟨o0, o1, o2, o3, o4, o5, o6, o7, o8, o9, o10, o11, o12⟩ := h9
    exact ⟨o0, o1, o2, o3, o4, o5, o6, o7, o8, o9, o10, o11, o12, rfl⟩)
   have p0 : U_25.cell? ⟨w.heap.size, 0, none⟩ = some (m0) := (PB25.out.cell 0).trans rfl
   have p1 : U_25.cell? ⟨w.heap.size, 1, none⟩ = some (m1) := (PB25.out.cell 1).trans rfl
   have p2 : U_25.cell? ⟨w.heap.size, 2, none⟩ = some (m2) := (PB25.out.cell 2).trans rfl
   have p3 : U_25.cell? ⟨w.heap.size, 3, none⟩ = some (m3) := (PB25.out.cell 3).trans rfl
   have p4 : U_25.cell? ⟨w.heap.size, 4, none⟩ = some (m4) := (PB25.out.cell 4).trans rfl
   have p5 : U_25.cell? ⟨w.heap.size, 5, none⟩ = some (m5) := (PB25.out.cell 5).trans rfl
   have p6 : U_25.cell? ⟨w.heap.size, 6, none⟩ = some (m6) := (PB25.out.cell 6).trans rfl
   have p7 : U_25.cell? ⟨w.heap.size, 7, none⟩ = some (m7) := (PB25.out.cell 7).trans rfl
   have p8 : U_25.cell? ⟨w.heap.size, 8, none⟩ = some (m8) := (PB25.out.cell 8).trans rfl
   have p9 : U_25.cell? ⟨w.heap.size, 9, none⟩ = some (m9) := (PB25.out.cell 9).trans rfl
   have p10 : U_25.cell? ⟨w.heap.size, 10, none⟩ = some (m10) := (PB25.out.cell 10).trans rfl
   have p11 : U_25.cell? ⟨w.heap.size, 11, none⟩ = some (m11) := (PB25.out.cell 11).trans rfl
   have p12 : U_25.cell? ⟨w.heap.size, 12, none⟩ = some (m12) := (PB25.out.cell 12).trans rfl
   have p13 : U_25.cell? ⟨w.heap.size, 13, none⟩ = some (.slice a8 l8 c8) := (PB25.out.cell 13).trans rfl
   go_wp2_with (refine store_whole rfl 60 (.tmp 4) (.tmp 34) rfl rfl rfl RZ25.out (by rfl) (by kernel_rfl) hoC.out ?_; intro w9 hBx hgx hzx; have R9 := Lib.hid hBx; have g9 := Lib.hid hgx; clear hBx hgx hzx)
   refine bodyPost_ret (results_ct rfl _ rfl R9.out Try.underlying60 rfl (by kernel_rfl)) rfl ?_
   exact ⟨⟨_, rfl, _, _, _, (own_store (E := recE) Y25.out RZ25.out (by decide) g9.out).mono hww5.out, (own_store (E := byteE) RW25.out RZ25.out (by decide) g9.out).mono hwU.out⟩, KW25.out.grown g9.out KW25.out.size (fun j hj => by have e2 := Option.some.inj hj; have := hl1.out; have := hl2.out; omega)⟩
  refine arz (qRfM11 _) rfl (fun K hK => ?_) AllReadyH.nil
  unfold qRfM11
  go_simp
  obtain ⟨U_26, e26⟩ : ∃ U, V0.alloc (.cells #[.slice none 0 0, .int .u16 41, .int .u16 (sn : Nat), .int .u32 (tn : Nat), .slice none 0 0, .slice none 0 0, .slice none 0 0, .slice ra rn rc] 37) = U := ⟨_, rfl⟩
  have q26 : Hid (Below V0.heap.size V0 U_26) := Lib.hid (by rw [← e26]; exact alloc_bel _ _)
  have b26 : Hid (Blk U_26 V0.heap.size 37 (0, 0) [.slice none 0 0, .int .u16 41, .int .u16 (sn : Nat), .int .u32 (tn : Nat), .slice none 0 0, .slice none 0 0, .slice none 0 0, .slice ra rn rc]) := Lib.hid (by rw [← e26]; exact Blk.new V0 37 (0, 0) #[.slice none 0 0, .int .u16 41, .int .u16 (sn : Nat), .int .u32 (tn : Nat), .slice none 0 0, .slice none 0 0, .slice none 0 0, .slice ra rn rc])
  have L26 := Lib.hid (L0.out.trans ((q26.out).mono L0.out.size))
  have RW26 := Lib.hid (RW0.out.ext q26.out)
  have PB26 := Lib.hid (PB0.out.below q26.out PB0.out.lt)
  have T626 := Lib.hid (T60.out.below q26.out T60.out.lt)
  rw [e26]
  clear e26 q26
  refine hK.out _ _ (cs6.out _ T626.out) (fun hHeld => ?_)
  clear hK K
  try simp only [pz0, pz2, pz3, pz4]
  refine wpAnyH_ready (rs := [0]) (by kernel_rfl) (by simp) ?_
  refine arz (qRfM8 _) rfl (fun K hK => ?_) AllReadyH.nil
  unfold qRfM8
  go_simp
  obtain ⟨U_27, e27⟩ : ∃ U, U_26.alloc (.cells #[] 37) = U := ⟨_, rfl⟩
  have q27 : Hid (Below U_26.heap.size U_26 U_27) := Lib.hid (by rw [← e27]; exact alloc_bel _ _)
  have a27 : Hid (Own recE U_27 w5.heap.size (.slice (some ⟨U_26.heap.size, 0, none⟩) 0 0) []) := Lib.hid (by rw [← e27]; exact (Own.made recE U_26 #[] [] 0 rfl rfl (Nat.zero_le _)).mono L26.out.size)
  have hne : V0.heap.size ≠ U_26.heap.size := Nat.ne_of_lt b26.out.lt
  have L27 := Lib.hid (L26.out.trans ((q27.out).mono L26.out.size))
  have RW27 := Lib.hid (RW26.out.ext q27.out)
  have PB27 := Lib.hid (PB26.out.below q27.out PB26.out.lt)
  have T627 := Lib.hid (T626.out.below q27.out T626.out.lt)
  have LB27 := Lib.hid (b26.out.below q27.out b26.out.lt)
  rw [e27]
  clear e27 q27
  refine hK.out _ _ (cs6.out _ T627.out) (fun hHeld => ?_)
  clear hK K
  try simp only [pz0, pz2, pz3, pz4]
  refine wpAnyH_ready (rs := [3]) (by kernel_rfl) (by simp) ?_
  refine arz (qRfM10 _) rfl (fun K hK => ?_) AllReadyH.nil
  unfold qRfM10
  obtain ⟨i0, hi7, hq0, hq1, hq2⟩ := info_parts Try.info37
  have hsrc := (hR5.out.ext L27.out).src (P := Try.prog) (tx := 55) Try.underlying55
  refine step_own (E := recE) (l := []) (news := Q) (base := w5.heap.size) (by rfl) (.tmp 26) (.tmp 28) 55 55 (by rfl) Try.underlying55 hi7 hq0 hq1 hq2 rfl (by rfl) a27.out (by rfl) hsrc (by have := hlm.out; simp [maxLen]; omega) (by have := hlm.out; simp; omega) L27.out.size ?_
  intro v9 U_28 ho9 hg _
  rw [List.nil_append] at ho9
  have L28 : Hid (Below w5.heap.size w5 U_28) := Lib.hid (own_below L27.out hg a27.out L27.out.size (Nat.le_refl _))
  have PB28 := Lib.hid (PB27.out.grownV2 hg (fun e => by have e2 := (a27.out.lt _ e.symm).1; have := hw5.out; omega))
  have T628 := Lib.hid (T627.out.grownV2 hg (fun e => by have e2 := (a27.out.lt _ e.symm).1; have := hw35.out; omega))
  have RW28 := Lib.hid (own_grown RW27.out a27.out (by decide) hg)
  have LB28 := Lib.hid (LB27.out.grownV2 hg (fun e => hne (Option.some.inj e)))
  obtain ⟨a9, c9, rfl⟩ := ho9.shape
  have V28 := Lib.hid ho9
  clear ho9 hg hsrc hi7 hq0 hq1 hq2
  refine hK.out _ _ (cs6.out _ T628.out) (fun hHeld => ?_)
  clear hK K
  try simp only [pz0, pz2, pz3, pz4]
  refine wpAnyH_ready (rs := [6]) (by kernel_rfl) (by simp) ?_
  refine arz (qRfM12 _) rfl (fun K hK => ?_) AllReadyH.nil
  unfold qRfM12
  obtain ⟨i0, hi7, hq0, hq1, hq2⟩ := info_parts Try.info37
  have hsrc : Src Try.prog recE.k 55 (.slice (some ⟨V0.heap.size, 0, none⟩) 1 1) 1 (rowOf recE [(⟨none, 0, 0, 41, sn, tn, none, 0, 0, none, 0, 0, none, 0, 0, ra, rn, rc⟩ : RD)]) U_28 := (rd_blk (E := recE) (X := [(⟨none, 0, 0, 41, sn, tn, none, 0, 0, none, 0, 0, none, 0, 0, ra, rn, rc⟩ : RD)]) (fz := (0, 0)) LB28.out 1 rfl (by decide)).src (P := Try.prog) (tx := 55) Try.underlying55
  refine step_own (E := recE) (l := Q) (news := [(⟨none, 0, 0, 41, sn, tn, none, 0, 0, none, 0, 0, none, 0, 0, ra, rn, rc⟩ : RD)]) (base := w5.heap.size) (by rfl) (.tmp 29) (.tmp 31) 55 55 (by rfl) Try.underlying55 hi7 hq0 hq1 hq2 rfl (by rfl) V28.out (by rfl) hsrc (by have := hlm.out; simp [maxLen]; omega) (by have := hlm.out; simp; omega) L28.out.size ?_
  intro v8 U_29 ho9 hg _
  have L29 : Hid (Below w5.heap.size w5 U_29) := Lib.hid (own_below L28.out hg V28.out L28.out.size (Nat.le_refl _))
  have PB29 := Lib.hid (PB28.out.grownV2 hg (fun e => by have e2 := (V28.out.lt _ e.symm).1; have := hw5.out; omega))
  have T629 := Lib.hid (T628.out.grownV2 hg (fun e => by have e2 := (V28.out.lt _ e.symm).1; have := hw35.out; omega))
  have RW29 := Lib.hid (own_grown RW28.out V28.out (by decide) hg)
  obtain ⟨a8, c8, rfl⟩ := ho9.shape
  generalize (Q ++ [(⟨none, 0, 0, 41, sn, tn, none, 0, 0, none, 0, 0, none, 0, 0, ra, rn, rc⟩ : RD)]).length = l8 at *
  have Y29 := Lib.hid ho9
  clear ho9 hg hsrc hi7 hq0 hq1 hq2
  refine hK.out _ _ (cs6.out _ T629.out) (fun hHeld => ?_)
  clear hK K
  try simp only [pz0, pz2, pz3, pz4]
  refine tkz 7 (qRfM13 _) ?_ rfl ?_ ?_
  rotate_left
  ·intro w hSw
   unfold qRfM13
   go_simp
   first | done | with_reducible rfl
  try simp only [qRfM13, pz0, pz2, pz3, pz4]
  refine wpAnyH_ready (rs := [8]) (by kernel_rfl) (by simp) ?_
  refine arz (qRfM14 _) rfl (fun K hK => ?_) AllReadyH.nil
  unfold qRfM14
  have t30 : U_29.cell? ⟨w.heap.size, 13, none⟩ = some (.slice a lz c) := (PB29.out.cell 13).trans rfl
  have f30 : U_29.frozen? ⟨w.heap.size, 13, none⟩ = false := by rw [PB29.out.frozen]; try simp
  go_simp
  obtain ⟨U_30, e30⟩ : ∃ U, U_29.setCell ⟨w.heap.size, 13, none⟩ (.slice a8 l8 c8) = U := ⟨_, rfl⟩
  try rw [e30]
  have g30 : U_29.grownBy U_30 (some w.heap.size) := by rw [← e30]; exact grown_set _ _ _ _
  have PB30 : Hid (Blk U_30 w.heap.size 60 (0, 0) [m0, m1, m2, m3, m4, m5, m6, m7, m8, m9, m10, m11, m12, .slice a8 l8 c8]) := Lib.hid (by rw [← e30]; exact PB29.out.set 13 _)
  have Y30 := Lib.hid (own_store (E := recE) Y29.out PB29.out (by decide) g30)
  have RW30 := Lib.hid (own_store (E := byteE) RW29.out PB29.out (by decide) g30)
  have T630 := Lib.hid (T629.out.grownV2 g30 (fun e => by have e2 := Option.some.inj e; have := hw3.out; omega))
  have RZ30 := Lib.hid ((RZ3.out.below L29.out RZ3.out.lt).grownV2 g30 (fun e => by have e2 := Option.some.inj e; have := hl1.out; have := hl2.out; omega))
  have KW30 : Hid (Below w.heap.size w U_30) := Lib.hid ((KW3.out.trans (L29.out.mono KW3.out.size)).grown g30 (Nat.le_trans KW3.out.size L29.out.size) (fun j hj => by cases hj; exact Nat.le_refl _))
  clear t30 f30 e30 g30
  refine hK.out _ _ (cs6.out _ T630.out) (fun hHeld => ?_)
  clear hK K
  refine wpAnyH_done (by kernel_rfl) ?_ _
  refine NoPanic.normal ?_
  clear hHeld
  have hoC : Hid (#[m0, m1, m2, m3, m4, m5, m6, m7, m8, m9, m10, m11, m12, .slice a8 l8 c8].all (·.oneCell') = true) := Lib.hid (by
   have h9 := ho'.out
   simp only [List.all_cons, List.all_nil, Bool.and_eq_true, Bool.and_true, List.all_toArray] at h9 ⊢
   obtain ⟨o0, o1, o2, o3, o4, o5, o6, o7, o8, o9, o10, o11, o12⟩ := h9
   exact ⟨o0, o1, o2, o3, o4, o5, o6, o7, o8, o9, o10, o11, o12, rfl⟩)
  have p0 : U_30.cell? ⟨w.heap.size, 0, none⟩ = some (m0) := (PB30.out.cell 0).trans rfl
  have p1 : U_30.cell? ⟨w.heap.size, 1, none⟩ = some (m1) := (PB30.out.cell 1).trans rfl
  have p2 : U_30.cell? ⟨w.heap.size, 2, none⟩ = some (m2) := (PB30.out.cell 2).trans rfl
  have p3 : U_30.cell? ⟨w.heap.size, 3, none⟩ = some (m3) := (PB30.out.cell 3).trans rfl
  have p4 : U_30.cell? ⟨w.heap.size, 4, none⟩ = some (m4) := (PB30.out.cell 4).trans rfl
  have p5 : U_30.cell? ⟨w.heap.size, 5, none⟩ = some (m5) := (PB30.out.cell 5).trans rfl
  have p6 : U_30.cell? ⟨w.heap.size, 6, none⟩ = some (m6) := (PB30.out.cell 6).trans rfl
  have p7 : U_30.cell? ⟨w.heap.size, 7, none⟩ = some (m7) := (PB30.out.cell 7).trans rfl
  have p8 : U_30.cell? ⟨w.heap.size, 8, none⟩ = some (m8) := (PB30.out.cell 8).trans rfl
  have p9 : U_30.cell? ⟨w.heap.size, 9, none⟩ = some (m9) := (PB30.out.cell 9).trans rfl
  have p10 : U_30.cell? ⟨w.heap.size, 10, none⟩ = some (m10) := (PB30.out.cell 10).trans rfl
  have p11 : U_30.cell? ⟨w.heap.size, 11, none⟩ = some (m11) := (PB30.out.cell 11).trans rfl
  have p12 : U_30.cell? ⟨w.heap.size, 12, none⟩ = some (m12) := (PB30.out.cell 12).trans rfl
  have p13 : U_30.cell? ⟨w.heap.size, 13, none⟩ = some (.slice a8 l8 c8) := (PB30.out.cell 13).trans rfl
  go_wp2_with (refine store_whole rfl 60 (.tmp 4) (.tmp 34) rfl rfl rfl RZ30.out (by rfl) (by kernel_rfl) hoC.out ?_; intro w9 hBx hgx hzx; have R9 := Lib.hid hBx; have g9 := Lib.hid hgx; clear hBx hgx hzx)
  refine bodyPost_ret (results_ct rfl _ rfl R9.out Try.underlying60 rfl (by kernel_rfl)) rfl ?_
  exact ⟨⟨_, rfl, _, _, _, (own_store (E := recE) Y30.out RZ30.out (by decide) g9.out).mono hww5.out, (own_store (E := byteE) RW30.out RZ30.out (by decide) g9.out).mono hwU.out⟩, KW30.out.grown g9.out KW30.out.size (fun j hj => by have e2 := Option.some.inj hj; have := hl1.out; have := hl2.out; omega)⟩
 refine arz (qRfM11 _) rfl (fun K hK => ?_) AllReadyH.nil
 unfold qRfM11
 go_simp
 obtain ⟨U_31, e31⟩ : ∃ U, V0.alloc (.cells #[.slice none 0 0, .int .u16 41, .int .u16 (sn : Nat), .int .u32 (tn : Nat), .slice none 0 0, .slice none 0 0, .slice none 0 0, .slice ra rn rc] 37) = U := ⟨_, rfl⟩
 have q31 : Hid (Below V0.heap.size V0 U_31) := Lib.hid (by rw [← e31]; exact alloc_bel _ _)
 have b31 : Hid (Blk U_31 V0.heap.size 37 (0, 0) [.slice none 0 0, .int .u16 41, .int .u16 (sn : Nat), .int .u32 (tn : Nat), .slice none 0 0, .slice none 0 0, .slice none 0 0, .slice ra rn rc]) := Lib.hid (by rw [← e31]; exact Blk.new V0 37 (0, 0) #[.slice none 0 0, .int .u16 41, .int .u16 (sn : Nat), .int .u32 (tn : Nat), .slice none 0 0, .slice none 0 0, .slice none 0 0, .slice ra rn rc])
 have L31 := Lib.hid (L0.out.trans ((q31.out).mono L0.out.size))
 have RW31 := Lib.hid (RW0.out.ext q31.out)
 have PB31 := Lib.hid (PB0.out.below q31.out PB0.out.lt)
 have T631 := Lib.hid (T60.out.below q31.out T60.out.lt)
 rw [e31]
 clear e31 q31
 refine hK.out _ _ (cs6.out _ T631.out) (fun hHeld => ?_)
 clear hK K
 try simp only [pz0, pz2, pz3, pz4]
 refine wpAnyH_ready (rs := [0, 2]) (by kernel_rfl) (by simp) ?_
 refine arz (qRfM8 _) rfl (fun K hK => ?_) ?_
 ·unfold qRfM8
  go_simp
  obtain ⟨U_32, e32⟩ : ∃ U, U_31.alloc (.cells #[] 37) = U := ⟨_, rfl⟩
  have q32 : Hid (Below U_31.heap.size U_31 U_32) := Lib.hid (by rw [← e32]; exact alloc_bel _ _)
  have a32 : Hid (Own recE U_32 w5.heap.size (.slice (some ⟨U_31.heap.size, 0, none⟩) 0 0) []) := Lib.hid (by rw [← e32]; exact (Own.made recE U_31 #[] [] 0 rfl rfl (Nat.zero_le _)).mono L31.out.size)
  have hne : V0.heap.size ≠ U_31.heap.size := Nat.ne_of_lt b31.out.lt
  have L32 := Lib.hid (L31.out.trans ((q32.out).mono L31.out.size))
  have RW32 := Lib.hid (RW31.out.ext q32.out)
  have PB32 := Lib.hid (PB31.out.below q32.out PB31.out.lt)
  have T632 := Lib.hid (T631.out.below q32.out T631.out.lt)
  have LB32 := Lib.hid (b31.out.below q32.out b31.out.lt)
  rw [e32]
  clear e32 q32
  refine hK.out _ _ (cs6.out _ T632.out) (fun hHeld => ?_)
  clear hK K
  try simp only [pz0, pz2, pz3, pz4]
  refine wpAnyH_ready (rs := [2]) (by kernel_rfl) (by simp) ?_
  refine arz (qRfM9 _) rfl (fun K hK => ?_) AllReadyH.nil
  unfold qRfM9
  have t33 : U_32.cell? ⟨w.heap.size, 13, none⟩ = some (.slice a lz c) := (PB32.out.cell 13).trans rfl
  go_simp
  clear t33
  refine hK.out _ _ (cs6.out _ T632.out) (fun hHeld => ?_)
  clear hK K
  try simp only [pz0, pz2, pz3, pz4]
  refine wpAnyH_ready (rs := [3]) (by kernel_rfl) (by simp) ?_
  refine arz (qRfM10 _) rfl (fun K hK => ?_) AllReadyH.nil
  unfold qRfM10
  obtain ⟨i0, hi7, hq0, hq1, hq2⟩ := info_parts Try.info37
  have hsrc := (hR5.out.ext L32.out).src (P := Try.prog) (tx := 55) Try.underlying55
  refine step_own (E := recE) (l := []) (news := Q) (base := w5.heap.size) (by rfl) (.tmp 26) (.tmp 28) 55 55 (by rfl) Try.underlying55 hi7 hq0 hq1 hq2 rfl (by rfl) a32.out (by rfl) hsrc (by have := hlm.out; simp [maxLen]; omega) (by have := hlm.out; simp; omega) L32.out.size ?_
  intro v9 U_34 ho9 hg _
  rw [List.nil_append] at ho9
  have L34 : Hid (Below w5.heap.size w5 U_34) := Lib.hid (own_below L32.out hg a32.out L32.out.size (Nat.le_refl _))
  have PB34 := Lib.hid (PB32.out.grownV2 hg (fun e => by have e2 := (a32.out.lt _ e.symm).1; have := hw5.out; omega))
  have T634 := Lib.hid (T632.out.grownV2 hg (fun e => by have e2 := (a32.out.lt _ e.symm).1; have := hw35.out; omega))
  have RW34 := Lib.hid (own_grown RW32.out a32.out (by decide) hg)
  have LB34 := Lib.hid (LB32.out.grownV2 hg (fun e => hne (Option.some.inj e)))
  obtain ⟨a9, c9, rfl⟩ := ho9.shape
  have V34 := Lib.hid ho9
  clear ho9 hg hsrc hi7 hq0 hq1 hq2
  refine hK.out _ _ (cs6.out _ T634.out) (fun hHeld => ?_)
  clear hK K
  try simp only [pz0, pz2, pz3, pz4]
  refine wpAnyH_ready (rs := [6]) (by kernel_rfl) (by simp) ?_
  refine arz (qRfM12 _) rfl (fun K hK => ?_) AllReadyH.nil
  unfold qRfM12
  obtain ⟨i0, hi7, hq0, hq1, hq2⟩ := info_parts Try.info37
  have hsrc : Src Try.prog recE.k 55 (.slice (some ⟨V0.heap.size, 0, none⟩) 1 1) 1 (rowOf recE [(⟨none, 0, 0, 41, sn, tn, none, 0, 0, none, 0, 0, none, 0, 0, ra, rn, rc⟩ : RD)]) U_34 := (rd_blk (E := recE) (X := [(⟨none, 0, 0, 41, sn, tn, none, 0, 0, none, 0, 0, none, 0, 0, ra, rn, rc⟩ : RD)]) (fz := (0, 0)) LB34.out 1 rfl (by decide)).src (P := Try.prog) (tx := 55) Try.underlying55
  refine step_own (E := recE) (l := Q) (news := [(⟨none, 0, 0, 41, sn, tn, none, 0, 0, none, 0, 0, none, 0, 0, ra, rn, rc⟩ : RD)]) (base := w5.heap.size) (by rfl) (.tmp 29) (.tmp 31) 55 55 (by rfl) Try.underlying55 hi7 hq0 hq1 hq2 rfl (by rfl) V34.out (by rfl) hsrc (by have := hlm.out; simp [maxLen]; omega) (by have := hlm.out; simp; omega) L34.out.size ?_
  intro v8 U_35 ho9 hg _
  have L35 : Hid (Below w5.heap.size w5 U_35) := Lib.hid (own_below L34.out hg V34.out L34.out.size (Nat.le_refl _))
  have PB35 := Lib.hid (PB34.out.grownV2 hg (fun e => by have e2 := (V34.out.lt _ e.symm).1; have := hw5.out; omega))
  have T635 := Lib.hid (T634.out.grownV2 hg (fun e => by have e2 := (V34.out.lt _ e.symm).1; have := hw35.out; omega))
  have RW35 := Lib.hid (own_grown RW34.out V34.out (by decide) hg)
  obtain ⟨a8, c8, rfl⟩ := ho9.shape
  generalize (Q ++ [(⟨none, 0, 0, 41, sn, tn, none, 0, 0, none, 0, 0, none, 0, 0, ra, rn, rc⟩ : RD)]).length = l8 at *
  have Y35 := Lib.hid ho9
  clear ho9 hg hsrc hi7 hq0 hq1 hq2
  refine hK.out _ _ (cs6.out _ T635.out) (fun hHeld => ?_)
  clear hK K
  try simp only [pz0, pz2, pz3, pz4]
  refine tkz 7 (qRfM13 _) ?_ rfl ?_ ?_
  rotate_left
  ·intro w hSw
   unfold qRfM13
   go_simp
   first | done | with_reducible rfl
  try simp only [qRfM13, pz0, pz2, pz3, pz4]
  refine wpAnyH_ready (rs := [8]) (by kernel_rfl) (by simp) ?_
  refine arz (qRfM14 _) rfl (fun K hK => ?_) AllReadyH.nil
  unfold qRfM14
  have t36 : U_35.cell? ⟨w.heap.size, 13, none⟩ = some (.slice a lz c) := (PB35.out.cell 13).trans rfl
  have f36 : U_35.frozen? ⟨w.heap.size, 13, none⟩ = false := by rw [PB35.out.frozen]; try simp
  go_simp
  obtain ⟨U_36, e36⟩ : ∃ U, U_35.setCell ⟨w.heap.size, 13, none⟩ (.slice a8 l8 c8) = U := ⟨_, rfl⟩
  try rw [e36]
  have g36 : U_35.grownBy U_36 (some w.heap.size) := by rw [← e36]; exact grown_set _ _ _ _
  have PB36 : Hid (Blk U_36 w.heap.size 60 (0, 0) [m0, m1, m2, m3, m4, m5, m6, m7, m8, m9, m10, m11, m12, .slice a8 l8 c8]) := Lib.hid (by rw [← e36]; exact PB35.out.set 13 _)
  have Y36 := Lib.hid (own_store (E := recE) Y35.out PB35.out (by decide) g36)
  have RW36 := Lib.hid (own_store (E := byteE) RW35.out PB35.out (by decide) g36)
  have T636 := Lib.hid (T635.out.grownV2 g36 (fun e => by have e2 := Option.some.inj e; have := hw3.out; omega))
  have RZ36 := Lib.hid ((RZ3.out.below L35.out RZ3.out.lt).grownV2 g36 (fun e => by have e2 := Option.some.inj e; have := hl1.out; have := hl2.out; omega))
  have KW36 : Hid (Below w.heap.size w U_36) := Lib.hid ((KW3.out.trans (L35.out.mono KW3.out.size)).grown g36 (Nat.le_trans KW3.out.size L35.out.size) (fun j hj => by cases hj; exact Nat.le_refl _))
  clear t36 f36 e36 g36
  refine hK.out _ _ (cs6.out _ T636.out) (fun hHeld => ?_)
  clear hK K
  refine wpAnyH_done (by kernel_rfl) ?_ _
  refine NoPanic.normal ?_
  clear hHeld
  have hoC : Hid (#[m0, m1, m2, m3, m4, m5, m6, m7, m8, m9, m10, m11, m12, .slice a8 l8 c8].all (·.oneCell') = true) := Lib.hid (by
   have h9 := ho'.out
   simp only [List.all_cons, List.all_nil, Bool.and_eq_true, Bool.and_true, List.all_toArray] at h9 ⊢
   obtain ⟨o0, o1, o2, o3, o4, o5, o6, o7, o8, o9, o10, o11, o12⟩ := h9
   exact ⟨o0, o1, o2, o3, o4, o5, o6, o7, o8, o9, o10, o11, o12, rfl⟩)
  have p0 : U_36.cell? ⟨w.heap.size, 0, none⟩ = some (m0) := (PB36.out.cell 0).trans rfl
  have p1 : U_36.cell? ⟨w.heap.size, 1, none⟩ = some (m1) := (PB36.out.cell 1).trans rfl
  have p2 : U_36.cell? ⟨w.heap.size, 2, none⟩ = some (m2) := (PB36.out.cell 2).trans rfl
  have p3 : U_36.cell? ⟨w.heap.size, 3, none⟩ = some (m3) := (PB36.out.cell 3).trans rfl
  have p4 : U_36.cell? ⟨w.heap.size, 4, none⟩ = some (m4) := (PB36.out.cell 4).trans rfl
  have p5 : U_36.cell? ⟨w.heap.size, 5, none⟩ = some (m5) := (PB36.out.cell 5).trans rfl
  have p6 : U_36.cell? ⟨w.heap.size, 6, none⟩ = some (m6) := (PB36.out.cell 6).trans rfl
  have p7 : U_36.cell? ⟨w.heap.size, 7, none⟩ = some (m7) := (PB36.out.cell 7).trans rfl
  have p8 : U_36.cell? ⟨w.heap.size, 8, none⟩ = some (m8) := (PB36.out.cell 8).trans rfl
  have p9 : U_36.cell? ⟨w.heap.size, 9, none⟩ = some (m9) := (PB36.out.cell 9).trans rfl
  have p10 : U_36.cell? ⟨w.heap.size, 10, none⟩ = some (m10) := (PB36.out.cell 10).trans rfl
  have p11 : U_36.cell? ⟨w.heap.size, 11, none⟩ = some (m11) := (PB36.out.cell 11).trans rfl
  have p12 : U_36.cell? ⟨w.heap.size, 12, none⟩ = some (m12) := (PB36.out.cell 12).trans rfl
  have p13 : U_36.cell? ⟨w.heap.size, 13, none⟩ = some (.slice a8 l8 c8) := (PB36.out.cell 13).trans rfl
  go_wp2_with (refine store_whole rfl 60 (.tmp 4) (.tmp 34) rfl rfl rfl RZ36.out (by rfl) (by kernel_rfl) hoC.out ?_; intro w9 hBx hgx hzx; have R9 := Lib.hid hBx; have g9 := Lib.hid hgx; clear hBx hgx hzx)
  refine bodyPost_ret (results_ct rfl _ rfl R9.out Try.underlying60 rfl (by kernel_rfl)) rfl ?_
  exact ⟨⟨_, rfl, _, _, _, (own_store (E := recE) Y36.out RZ36.out (by decide) g9.out).mono hww5.out, (own_store (E := byteE) RW36.out RZ36.out (by decide) g9.out).mono hwU.out⟩, KW36.out.grown g9.out KW36.out.size (fun j hj => by have e2 := Option.some.inj hj; have := hl1.out; have := hl2.out; omega)⟩
 refine arz (qRfM9 _) rfl (fun K hK => ?_) AllReadyH.nil
 unfold qRfM9
 have t37 : U_31.cell? ⟨w.heap.size, 13, none⟩ = some (.slice a lz c) := (PB31.out.cell 13).trans rfl
 go_simp
 clear t37
 refine hK.out _ _ (cs6.out _ T631.out) (fun hHeld => ?_)
 clear hK K
 try simp only [pz0, pz2, pz3, pz4]
 refine wpAnyH_ready (rs := [0]) (by kernel_rfl) (by simp) ?_
 refine arz (qRfM8 _) rfl (fun K hK => ?_) AllReadyH.nil
 unfold qRfM8
 go_simp
 obtain ⟨U_38, e38⟩ : ∃ U, U_31.alloc (.cells #[] 37) = U := ⟨_, rfl⟩
 have q38 : Hid (Below U_31.heap.size U_31 U_38) := Lib.hid (by rw [← e38]; exact alloc_bel _ _)
 have a38 : Hid (Own recE U_38 w5.heap.size (.slice (some ⟨U_31.heap.size, 0, none⟩) 0 0) []) := Lib.hid (by rw [← e38]; exact (Own.made recE U_31 #[] [] 0 rfl rfl (Nat.zero_le _)).mono L31.out.size)
 have hne : V0.heap.size ≠ U_31.heap.size := Nat.ne_of_lt b31.out.lt
 have L38 := Lib.hid (L31.out.trans ((q38.out).mono L31.out.size))
 have RW38 := Lib.hid (RW31.out.ext q38.out)
 have PB38 := Lib.hid (PB31.out.below q38.out PB31.out.lt)
 have T638 := Lib.hid (T631.out.below q38.out T631.out.lt)
 have LB38 := Lib.hid (b31.out.below q38.out b31.out.lt)
 rw [e38]
 clear e38 q38
 refine hK.out _ _ (cs6.out _ T638.out) (fun hHeld => ?_)
 clear hK K
 try simp only [pz0, pz2, pz3, pz4]
 refine wpAnyH_ready (rs := [3]) (by kernel_rfl) (by simp) ?_
 refine arz (qRfM10 _) rfl (fun K hK => ?_) AllReadyH.nil
 unfold qRfM10
 obtain ⟨i0, hi7, hq0, hq1, hq2⟩ := info_parts Try.info37
 have hsrc := (hR5.out.ext L38.out).src (P := Try.prog) (tx := 55) Try.underlying55
 refine step_own (E := recE) (l := []) (news := Q) (base := w5.heap.size) (by rfl) (.tmp 26) (.tmp 28) 55 55 (by rfl) Try.underlying55 hi7 hq0 hq1 hq2 rfl (by rfl) a38.out (by rfl) hsrc (by have := hlm.out; simp [maxLen]; omega) (by have := hlm.out; simp; omega) L38.out.size ?_
 intro v9 U_39 ho9 hg _
 rw [List.nil_append] at ho9
 have L39 : Hid (Below w5.heap.size w5 U_39) := Lib.hid (own_below L38.out hg a38.out L38.out.size (Nat.le_refl _))
 have PB39 := Lib.hid (PB38.out.grownV2 hg (fun e => by have e2 := (a38.out.lt _ e.symm).1; have := hw5.out; omega))
 have T639 := Lib.hid (T638.out.grownV2 hg (fun e => by have e2 := (a38.out.lt _ e.symm).1; have := hw35.out; omega))
 have RW39 := Lib.hid (own_grown RW38.out a38.out (by decide) hg)
 have LB39 := Lib.hid (LB38.out.grownV2 hg (fun e => hne (Option.some.inj e)))
 obtain ⟨a9, c9, rfl⟩ := ho9.shape
 have V39 := Lib.hid ho9
 clear ho9 hg hsrc hi7 hq0 hq1 hq2
 refine hK.out _ _ (cs6.out _ T639.out) (fun hHeld => ?_)
 clear hK K
 try simp only [pz0, pz2, pz3, pz4]
 refine wpAnyH_ready (rs := [6]) (by kernel_rfl) (by simp) ?_
 refine arz (qRfM12 _) rfl (fun K hK => ?_) AllReadyH.nil
 unfold qRfM12
 obtain ⟨i0, hi7, hq0, hq1, hq2⟩ := info_parts Try.info37
 have hsrc : Src Try.prog recE.k 55 (.slice (some ⟨V0.heap.size, 0, none⟩) 1 1) 1 (rowOf recE [(⟨none, 0, 0, 41, sn, tn, none, 0, 0, none, 0, 0, none, 0, 0, ra, rn, rc⟩ : RD)]) U_39 := (rd_blk (E := recE) (X := [(⟨none, 0, 0, 41, sn, tn, none, 0, 0, none, 0, 0, none, 0, 0, ra, rn, rc⟩ : RD)]) (fz := (0, 0)) LB39.out 1 rfl (by decide)).src (P := Try.prog) (tx := 55) Try.underlying55
 refine step_own (E := recE) (l := Q) (news := [(⟨none, 0, 0, 41, sn, tn, none, 0, 0, none, 0, 0, none, 0, 0, ra, rn, rc⟩ : RD)]) (base := w5.heap.size) (by rfl) (.tmp 29) (.tmp 31) 55 55 (by rfl) Try.underlying55 hi7 hq0 hq1 hq2 rfl (by rfl) V39.out (by rfl) hsrc (by have := hlm.out; simp [maxLen]; omega) (by have := hlm.out; simp; omega) L39.out.size ?_
 intro v8 U_40 ho9 hg _
 have L40 : Hid (Below w5.heap.size w5 U_40) := Lib.hid (own_below L39.out hg V39.out L39.out.size (Nat.le_refl _))
 have PB40 := Lib.hid (PB39.out.grownV2 hg (fun e => by have e2 := (V39.out.lt _ e.symm).1; have := hw5.out; omega))
 have T640 := Lib.hid (T639.out.grownV2 hg (fun e => by have e2 := (V39.out.lt _ e.symm).1; have := hw35.out; omega))
 have RW40 := Lib.hid (own_grown RW39.out V39.out (by decide) hg)
 obtain ⟨a8, c8, rfl⟩ := ho9.shape
 generalize (Q ++ [(⟨none, 0, 0, 41, sn, tn, none, 0, 0, none, 0, 0, none, 0, 0, ra, rn, rc⟩ : RD)]).length = l8 at *
 have Y40 := Lib.hid ho9
 clear ho9 hg hsrc hi7 hq0 hq1 hq2
 refine hK.out _ _ (cs6.out _ T640.out) (fun hHeld => ?_)
 clear hK K
 try simp only [pz0, pz2, pz3, pz4]
 refine tkz 7 (qRfM13 _) ?_ rfl ?_ ?_
 rotate_left
 ·intro w hSw
  unfold qRfM13
  go_simp
  first | done | with_reducible rfl
 try simp only [qRfM13, pz0, pz2, pz3, pz4]
 refine wpAnyH_ready (rs := [8]) (by kernel_rfl) (by simp) ?_
 refine arz (qRfM14 _) rfl (fun K hK => ?_) AllReadyH.nil
 unfold qRfM14
 have t41 : U_40.cell? ⟨w.heap.size, 13, none⟩ = some (.slice a lz c) := (PB40.out.cell 13).trans rfl
 have f41 : U_40.frozen? ⟨w.heap.size, 13, none⟩ = false := by rw [PB40.out.frozen]; try simp
 go_simp
 obtain ⟨U_41, e41⟩ : ∃ U, U_40.setCell ⟨w.heap.size, 13, none⟩ (.slice a8 l8 c8) = U := ⟨_, rfl⟩
 try rw [e41]
 have g41 : U_40.grownBy U_41 (some w.heap.size) := by rw [← e41]; exact grown_set _ _ _ _
 have PB41 : Hid (Blk U_41 w.heap.size 60 (0, 0) [m0, m1, m2, m3, m4, m5, m6, m7, m8, m9, m10, m11, m12, .slice a8 l8 c8]) := Lib.hid (by rw [← e41]; exact PB40.out.set 13 _)
 have Y41 := Lib.hid (own_store (E := recE) Y40.out PB40.out (by decide) g41)
 have RW41 := Lib.hid (own_store (E := byteE) RW40.out PB40.out (by decide) g41)
 have T641 := Lib.hid (T640.out.grownV2 g41 (fun e => by have e2 := Option.some.inj e; have := hw3.out; omega))
 have RZ41 := Lib.hid ((RZ3.out.below L40.out RZ3.out.lt).grownV2 g41 (fun e => by have e2 := Option.some.inj e; have := hl1.out; have := hl2.out; omega))
 have KW41 : Hid (Below w.heap.size w U_41) := Lib.hid ((KW3.out.trans (L40.out.mono KW3.out.size)).grown g41 (Nat.le_trans KW3.out.size L40.out.size) (fun j hj => by cases hj; exact Nat.le_refl _))
 clear t41 f41 e41 g41
 refine hK.out _ _ (cs6.out _ T641.out) (fun hHeld => ?_)
 clear hK K
 refine wpAnyH_done (by kernel_rfl) ?_ _
 refine NoPanic.normal ?_
 clear hHeld
 have hoC : Hid (#[m0, m1, m2, m3, m4, m5, m6, m7, m8, m9, m10, m11, m12, .slice a8 l8 c8].all (·.oneCell') = true) := Lib.hid (by
  have h9 := ho'.out
  simp only [List.all_cons, List.all_nil, Bool.and_eq_true, Bool.and_true, List.all_toArray] at h9 ⊢
  obtain ⟨o0, o1, o2, o3, o4, o5, o6, o7, o8, o9, o10, o11, o12⟩ := h9
  exact ⟨o0, o1, o2, o3, o4, o5, o6, o7, o8, o9, o10, o11, o12, rfl⟩)
 have p0 : U_41.cell? ⟨w.heap.size, 0, none⟩ = some (m0) := (PB41.out.cell 0).trans rfl
 have p1 : U_41.cell? ⟨w.heap.size, 1, none⟩ = some (m1) := (PB41.out.cell 1).trans rfl
 have p2 : U_41.cell? ⟨w.heap.size, 2, none⟩ = some (m2) := (PB41.out.cell 2).trans rfl
 have p3 : U_41.cell? ⟨w.heap.size, 3, none⟩ = some (m3) := (PB41.out.cell 3).trans rfl
 have p4 : U_41.cell? ⟨w.heap.size, 4, none⟩ = some (m4) := (PB41.out.cell 4).trans rfl
 have p5 : U_41.cell? ⟨w.heap.size, 5, none⟩ = some (m5) := (PB41.out.cell 5).trans rfl
 have p6 : U_41.cell? ⟨w.heap.size, 6, none⟩ = some (m6) := (PB41.out.cell 6).trans rfl
 have p7 : U_41.cell? ⟨w.heap.size, 7, none⟩ = some (m7) := (PB41.out.cell 7).trans rfl
 have p8 : U_41.cell? ⟨w.heap.size, 8, none⟩ = some (m8) := (PB41.out.cell 8).trans rfl
 have p9 : U_41.cell? ⟨w.heap.size, 9, none⟩ = some (m9) := (PB41.out.cell 9).trans rfl
 have p10 : U_41.cell? ⟨w.heap.size, 10, none⟩ = some (m10) := (PB41.out.cell 10).trans rfl
 have p11 : U_41.cell? ⟨w.heap.size, 11, none⟩ = some (m11) := (PB41.out.cell 11).trans rfl
 have p12 : U_41.cell? ⟨w.heap.size, 12, none⟩ = some (m12) := (PB41.out.cell 12).trans rfl
 have p13 : U_41.cell? ⟨w.heap.size, 13, none⟩ = some (.slice a8 l8 c8) := (PB41.out.cell 13).trans rfl
 go_wp2_with (refine store_whole rfl 60 (.tmp 4) (.tmp 34) rfl rfl rfl RZ41.out (by rfl) (by kernel_rfl) hoC.out ?_; intro w9 hBx hgx hzx; have R9 := Lib.hid hBx; have g9 := Lib.hid hgx; clear hBx hgx hzx)
 refine bodyPost_ret (results_ct rfl _ rfl R9.out Try.underlying60 rfl (by kernel_rfl)) rfl ?_
 exact ⟨⟨_, rfl, _, _, _, (own_store (E := recE) Y41.out RZ41.out (by decide) g9.out).mono hww5.out, (own_store (E := byteE) RW41.out RZ41.out (by decide) g9.out).mono hwU.out⟩, KW41.out.grown g9.out KW41.out.size (fun j hj => by have e2 := Option.some.inj hj; have := hl1.out; have := hl2.out; omega)⟩
end Go.Proofs.Ythgnlbdolilklaa
